/- The reference's certificates: slowest, Critical, Check (of valid plans). -/
import Derived.Test.YtmohhhbgcehnpaaGreatReRbK
set_option linter.all false
namespace Go.AM.YtmohhhbgcehnpaaGreat.Re
open Go.Proofs
set_option maxRecDepth 100000
set_option maxHeartbeats 8000000
def ttL2:List (Nat × TI):=(187,⟨1,false,.nilsl,(.slice tSc 5 72 [.nilsl,.nilsl,.int .i64 0,.int .i64 0,.int .i64 0]),none⟩)::(36,⟨1,false,.nilsl,(.slice (.pair (.int .i64) (.pair (.int .i64) (.pair (.int .i64) (.pair (.slice (.pair (.slice (.int .i64)) (.pair (.int .i64) (.int .i64)))) (.slice (.pair (.int .i64) (.pair (.int .i64) (.int .i64)))))))) 5 72 [.int .i64 0,.int .i64 0,.int .i64 0,.nilsl,.nilsl]),none⟩)::ttL
def ts2:TT:=(ttL2,true,[])
theorem ttL2Ok:ttAll Tryz.prog ttL2:=⟨by kernel_rfl,by kernel_rfl,ttLOk⟩
theorem ts2Ok:TTok Tryz.prog ts2:=TTok.of_all ttL2Ok
def envOf2 {S:Nat→Option Spec} (h:SigOk Tryz.prog S):Env Tryz.prog ts2 S:=⟨ts2Ok,h,mixed,none⟩
theorem soundP2 {S:Nat→Option Spec} (E:Env Tryz.prog ts2 S) {K:List Nat} {f:Nat} {fn:Func} {c:Code} {F:List AV→Option Out} (hf:Tryz.prog.funcs[f]?=some fn) (hb:fn.body=some c) (hc:codeOk c=true) (hk:forceL (keepOf fn c) some=some K)
 (h:∀ args out,F args=some out→out.pre→args.length≤fn.ntmps∧WP E K c (St.init fn.ntmps args []) (endOf ts2 fn.results.toList 0 out)) (hro:E.ro=none:=by rfl):SpecSound Tryz.prog f (plain F) :=
 spec_of_WP E K hf hb hc (fun args rows out hout hpre hr=>by
  have:=hr rfl
  subst this
  exact h args out hout hpre) hro
theorem soundR2 {S:Nat→Option Spec} (E:Env Tryz.prog ts2 S) {K:List Nat} {f:Nat} {fn:Func} {c:Code} {F:List AV→List AObj→Option Out} (hf:Tryz.prog.funcs[f]?=some fn) (hb:fn.body=some c) (hc:codeOk c=true) (hk:forceL (keepOf fn c) some=some K)
 (h:∀ args rows out,F args rows=some out→out.pre→args.length≤fn.ntmps∧WP E K c (St.init fn.ntmps args rows) (endOf ts2 fn.results.toList rows.length out)) (hro:E.ro=none:=by rfl):SpecSound Tryz.prog f ⟨true,F⟩ :=
 spec_of_WP E K hf hb hc (fun args rows out hout hpre _=>h args rows out hout hpre) hro
theorem rSlowOk:SpecSound Tryz.prog 136 slowestS:=by
 refine soundP (envOf sigNil) Tryz.func136 (c:=body Tryz.f136) rfl (by kernel_rfl) rfl ?_
 intro args out hf hpre
 split at hf <;> try (cases hf;done)
 rename_i e a b xs ws
 cases hf
 refine ⟨Nat.le_of_ble_eq_true rfl,initI (args:=[.agg [.int .i64 e,.int .i64 a,.int .i64 b,.sl tStage xs,.sl tWin ws]]) rfl ?_⟩
 obtain ⟨h1,h8⟩:=hpre
 repeat' (first|refine zN ?_|refine zE ?_|refine zP ?_|refine pD ?_|refine zS ?_|refine zR ?_|refine zO ?_|refine zB ?_|refine zX ?_|refine zT ?_|refine skipI rfl ?_)
 refine loopI (σ:=Nat) (fun i=>[(4,.int .i64 i)]) (fun i=>[(3,.box [.own 3000,.own 3001,.int .i64 b,.int .i64 (-1),.int .i64 0]),(3000,.seq tInt (slowD (xs.take i))),(3001,.seq tInt (List.replicate i b))]) (fun i=>i≤xs.length) (fun i=>xs.length - i) 0 rfl (fun _=>rfl) rfl ?_ ?_ ?_
 ·exact Nat.zero_le _
 ·repeat' (first|exact trivial|with_reducible exact rfl|refine And.intro ?_ ?_)
  all_goals rfl
 intro i hi
 repeat' (first|refine zN ?_|refine zE ?_|refine zP ?_|refine pD ?_|refine zS ?_|refine zR ?_|refine zO ?_|refine zB ?_|refine zX ?_|refine zT ?_|refine skipI rfl ?_)
 refine condI rfl (fun c1=>?_) (fun c1=>?_)
 ·simp only [decide_eq_true_eq] at c1
  have hil:i < xs.length:=by omega
  have hin:((i:Int)).toNat=i:=by omega
  have hlt:(slowD (xs.take i)).length=i:=by unfold slowD;rw [List.length_map,List.length_take];omega
  have hlr:(List.replicate i b).length=i:=List.length_replicate
  repeat' (first|refine zN ?_|refine zE ?_|refine zP ?_|refine pD ?_|refine pC (by first|(first|(simp only [hlt,hlr,List.length_cons,List.length_nil];omega)|omega)) ?_|refine zS ?_|refine zR ?_|refine zO ?_|refine zB ?_|refine zX ?_|refine zT ?_|refine skipI rfl ?_)
  refine roundI (i+1) rfl ?_ ?_ ?_
  ·show i+1≤xs.length
   omega
  ·show xs.length - (i+1) < xs.length - i
   omega
  ·repeat' (first|exact trivial|with_reducible exact rfl|refine And.intro ?_ ?_)
   all_goals (first|rfl|(rw [List.replicate_succ'];done)|(unfold slowD;rw [take_getI (d:=tStage.dflt) hil,List.map_append];simp only [hin];done)|(unfold slowD;rw [take_getI (d:=tStage.dflt) hil,List.map_append];simp only [hin];rfl))
 ·simp only [decide_eq_false_iff_not] at c1
  repeat' (first|refine zN ?_|refine zE ?_|refine zP ?_|refine pD ?_|refine zS ?_|refine zR ?_|refine zO ?_|refine zB ?_|refine zX ?_|refine zT ?_|refine skipI rfl ?_)
  refine endR rfl ?_
  repeat' (first|exact trivial|exact rfl|refine ⟨rfl,?_⟩|refine And.intro ?_ ?_)
  ·rw [List.take_of_length_le (by omega)]
  ·rw [show i=xs.length by omega];rfl
def critP (b:Int) (xs:List tStage.El) (ws:List tWin.El):Prop:=((1≤xs.length∧xs.length≤8)∧WinP xs ws)∧(0≤b∧b≤1000000)
def rCritS:Spec:=⟨true,fun args rows=>match args,rows with
 | [.agg [.int .i64 e,.int .i64 a,.int .i64 b,.sl (.pair (.int .i64) (.pair (.int .i64) (.pair (.pair (.int .i64) (.int .i64)) (.pair (.int .i64) (.int .i64))))) xs,.sl (.pair (.int .i64) (.pair (.int .i64) (.int .i64))) ws]],[] =>
   some ⟨critP b xs ws,.own 0,[.seq tSc (critL b xs ws)],true⟩
 | _,_=>none⟩
def sigRC:List (Nat × Spec):=[(136,slowestS)]
theorem sigRCOk:SigOk Tryz.prog (look sigRC):=sigCons sigNil Tryz.func136 (by kernel_rfl) (c:=body Tryz.f136) rfl rSlowOk
def cr1 (b:Int) (xs:List tStage.El) (i:Nat):List ScT:=(slowD xs,slowM b xs,b,-1,0)::(xs.take i).map (mainSc b xs)
def cr2 (b:Int) (xs:List tStage.El) (ws:List tWin.El) (i:Nat):List ScT:=cr1 b xs xs.length++(ws.take i).map (winSc b xs)
theorem rCritOk:SpecSound Tryz.prog 109 rCritS:=by
 refine soundR2 (envOf2 sigRCOk) Tryz.func109 (c:=body Tryz.f109) rfl (by kernel_rfl) rfl ?_
 intro args rows out hf hpre
 split at hf <;> try (cases hf;done)
 rename_i e a b xs ws
 cases hf
 refine ⟨Nat.le_of_ble_eq_true rfl,initI (args:=[.agg [.int .i64 e,.int .i64 a,.int .i64 b,.sl tStage xs,.sl tWin ws]]) (rows:=[]) rfl ?_⟩
 obtain ⟨⟨hx,hw0,hsm,hws⟩,hb0,hb1⟩:=hpre
 have hS:∀ i,i < xs.length→StSm (getI xs tStage.dflt i).1 (getI xs tStage.dflt i).2.1 (getI xs tStage.dflt i).2.2.1.2 (getI xs tStage.dflt i).2.2.2.2:=fun i hi=>hsm _ (Pl.getI_mem hi)
 have hW:∀ i,i < ws.length→WiSm xs.length (getI ws tWin.dflt i).1 (getI ws tWin.dflt i).2.1 (getI ws tWin.dflt i).2.2:=fun i hi=>hws _ (Pl.getI_mem hi)
 have hl1:∀ i,(cr1 b xs i).length≤9:=fun i=>by unfold cr1;rw [List.length_cons,List.length_map,List.length_take];omega
 have hl2:∀ i,(cr2 b xs ws i).length≤1009:=fun i=>by
  have:=hl1 xs.length
  unfold cr2
  rw [List.length_append,List.length_map,List.length_take];omega
 have hdl:(slowD xs).length=xs.length:=by unfold slowD;rw [List.length_map]
 repeat' (first|refine zN ?_|refine zE ?_|refine zP ?_|refine pD ?_|refine pC (by exact hx) ?_|refine zS ?_|refine zR ?_|refine zO ?_|refine zB ?_|refine zX ?_|refine zT ?_|refine skipI rfl ?_)
 refine loopI (σ:=Nat) (fun i=>[(3,.own 3000),(4,.int .i64 i)]) (fun i=>[(3000,.seq tSc (cr1 b xs i))]) (fun i=>i≤xs.length) (fun i=>xs.length - i) 0 rfl (fun _=>rfl) rfl ?_ ?_ ?_
 ·exact Nat.zero_le _
 ·repeat' (first|exact trivial|with_reducible exact rfl|refine And.intro ?_ ?_)
  all_goals rfl
 intro i hi
 have hl:=hl1 i
 repeat' (first|refine zN ?_|refine zE ?_|refine zP ?_|refine pD ?_|refine zS ?_|refine zR ?_|refine zO ?_|refine zB ?_|refine zX ?_|refine zT ?_|refine skipI rfl ?_)
 refine condI rfl (fun c1=>?_) (fun c1=>?_)
 ·simp only [decide_eq_true_eq] at c1
  have hil:i < xs.length:=by omega
  have hin:((i:Int)).toNat=i:=by omega
  have hSi:=hS i hil
  unfold StSm at hSi
  have hnx:cr1 b xs (i+1)=cr1 b xs i++[mainSc b xs (getI xs tStage.dflt i)]:=by unfold cr1;rw [take_getI (d:=tStage.dflt) hil,List.map_append,List.cons_append];rfl
  unfold mainSc at hnx
  repeat' (first|refine zN ?_|refine zE ?_|refine zP ?_|refine pD ?_|refine pC (by first|(first|exact hx|omega|(simp only [hin];unfold In64;omega)|(simp only [List.length_cons,List.length_nil];omega))) ?_|refine zS ?_|refine zR ?_|refine zO ?_|refine zB ?_|refine zX ?_|refine zT ?_|refine skipI rfl ?_)
  refine roundI (i+1) rfl ?_ ?_ ?_
  ·show i+1≤xs.length
   omega
  ·show xs.length - (i+1) < xs.length - i
   omega
  ·repeat' (first|exact trivial|with_reducible exact rfl|refine And.intro ?_ ?_)
   all_goals (first|rfl|(rw [hnx];simp only [hin];rfl))
 simp only [decide_eq_false_iff_not] at c1
 have hie:i=xs.length:=by omega
 subst hie
 repeat' (first|refine zN ?_|refine zE ?_|refine zP ?_|refine pD ?_|refine zS ?_|refine zR ?_|refine zO ?_|refine zB ?_|refine zX ?_|refine zT ?_|refine skipI rfl ?_)
 refine loopI (σ:=Nat) (fun k=>[(3,.own 3000),(6,.int .i64 k)]) (fun k=>[(3000,.seq tSc (cr2 b xs ws k))]) (fun k=>k≤ws.length) (fun k=>ws.length - k) 0 rfl (fun _=>rfl) rfl ?_ ?_ ?_
 ·exact Nat.zero_le _
 ·repeat' (first|exact trivial|with_reducible exact rfl|refine And.intro ?_ ?_)
  all_goals (first|rfl|(unfold cr2;rw [List.take_zero,List.map_nil,List.append_nil]))
 intro k hk
 have hl:=hl2 k
 repeat' (first|refine zN ?_|refine zE ?_|refine zP ?_|refine pD ?_|refine zS ?_|refine zR ?_|refine zO ?_|refine zB ?_|refine zX ?_|refine zT ?_|refine skipI rfl ?_)
 refine condI rfl (fun c2=>?_) (fun c2=>?_)
 ·simp only [decide_eq_true_eq] at c2
  have hkl:k < ws.length:=by omega
  have hkn:((k:Int)).toNat=k:=by omega
  have hWk:=hW k hkl
  unfold WiSm at hWk
  have hnx:cr2 b xs ws (k+1)=cr2 b xs ws k++[winSc b xs (getI ws tWin.dflt k)]:=by unfold cr2;rw [take_getI (d:=tWin.dflt) hkl,List.map_append,← List.append_assoc];rfl
  unfold winSc at hnx
  repeat' (first|refine zN ?_|refine zE ?_|refine zP ?_|refine pD ?_|refine pC (by first|(first|exact hx|omega|(simp only [hkn];omega)|(simp only [hkn,hdl];omega)|(simp only [List.length_cons,List.length_nil];omega))) ?_|refine zS ?_|refine zR ?_|refine zO ?_|refine zB ?_|refine zX ?_|refine zT ?_|refine skipI rfl ?_)
  refine roundI (k+1) rfl ?_ ?_ ?_
  ·show k+1≤ws.length
   omega
  ·show ws.length - (k+1) < ws.length - k
   omega
  ·repeat' (first|exact trivial|with_reducible exact rfl|refine And.intro ?_ ?_)
   all_goals (first|rfl|(rw [hnx];simp only [hkn];rfl))
 ·simp only [decide_eq_false_iff_not] at c2
  have hke:k=ws.length:=by omega
  subst hke
  repeat' (first|refine zN ?_|refine zE ?_|refine zP ?_|refine pD ?_|refine zS ?_|refine zR ?_|refine zO ?_|refine zB ?_|refine zX ?_|refine zT ?_|refine skipI rfl ?_)
  refine endR rfl ?_
  repeat' (first|exact trivial|exact rfl|refine ⟨rfl,?_⟩|refine And.intro ?_ ?_)
  unfold cr2 cr1 critL
  rw [List.take_of_length_le (Nat.le_refl _),List.take_of_length_le (Nat.le_refl _)]
def lateR (e b:Int) (xs:List tStage.El) (ws:List tWin.El) (s:ScT):Bool:=decide ((Pl.runG xs ws s.1 s.2.1 s.2.2.1 s.2.2.2.1 s.2.2.2.2 xs.length 0 [] e).2.1≠0)
def okR (e b:Int) (xs:List tStage.El) (ws:List tWin.El):Bool:=!(critL b xs ws).any (lateR e b xs ws)
def rCheckS:Spec:=plain fun
 | [.agg [.int .i64 e,.int .i64 a,.int .i64 b,.sl (.pair (.int .i64) (.pair (.int .i64) (.pair (.pair (.int .i64) (.int .i64)) (.pair (.int .i64) (.int .i64))))) xs,.sl (.pair (.int .i64) (.pair (.int .i64) (.int .i64))) ws]] =>
   outV (Pl.validF e a b xs ws=true) (.tup [.agg [.ext .any,.ext .any,.ext .any,.ext .any,.ext .any],.bool (okR e b xs ws)])
 | _=>none
theorem crit_poss {e a b:Int} {xs:List tStage.El} {ws:List tWin.El} (hv:Pl.validF e a b xs ws=true):∀ s∈critL b xs ws,Pl.possF e a b xs ws s.1 s.2.1 s.2.2.1 s.2.2.2.1 s.2.2.2.2=true:=by
 have F:=Pl.valid_facts hv
 have hab:=F.ab
 have hn:=F.n
 have hslow:∀ (du:List Int) (tl fa:Int),du.length=xs.length→(∀ i,i < xs.length→sMin (getI xs tStage.dflt i)≤getI du 0 i∧getI du 0 i≤sMax (getI xs tStage.dflt i))→((tl=-1∧fa=0)∨((0≤tl∧tl≤59)∧0≤fa∧fa≤1000000))→Pl.possF e a b xs ws du (slowM b xs) b tl fa=true:=by
  intro du tl fa h1 h2 h3
  unfold Pl.possF
  rw [hv]
  have e1:decide (du.length=xs.length)=true:=decide_eq_true h1
  have e2:decide ((slowM b xs).length=xs.length)=true:=decide_eq_true (by unfold slowM;rw [List.length_replicate])
  have e3:Pl.withinF b a b=true:=Pl.within_iff.2 ⟨hab.2.1,Int.le_refl _⟩
  have e4:(List.range xs.length).all (Pl.fitsAt a b xs du (slowM b xs))=true:=by
   rw [List.all_eq_true]
   intro i hi
   have hi:=List.mem_range.1 hi
   obtain ⟨h4,h5⟩:=h2 i hi
   have h6:getI (slowM b xs) 0 i=b:=by unfold slowM;simp [getI,List.getD,List.getElem?_replicate,hi]
   unfold Pl.fitsAt
   rw [h6]
   rw [Bool.and_eq_true]
   exact ⟨Pl.within_iff.2 ⟨h4,h5⟩,Pl.within_iff.2 ⟨hab.2.1,Int.le_refl _⟩⟩
  have e5:((decide (tl=-1)&&decide (fa=0))||(Pl.withinF tl 0 59&&Pl.withinF fa 0 1000000))=true:=by
   rw [Bool.or_eq_true,Bool.and_eq_true,Bool.and_eq_true,decide_eq_true_eq,decide_eq_true_eq,Pl.within_iff,Pl.within_iff]
   exact h3
  rw [e1,e2,e3,e4,e5]
  rfl
 have hdl:(slowD xs).length=xs.length:=by unfold slowD;rw [List.length_map]
 have hd:∀ i,i < xs.length→getI (slowD xs) 0 i=sMax (getI xs tStage.dflt i):=fun i hi=>by
  unfold slowD
  simp [getI,List.getD,List.getElem?_map,List.getElem?_eq_getElem hi]
 have hst:∀ i,i < xs.length→(1≤sMin (getI xs tStage.dflt i)∧sMin (getI xs tStage.dflt i)≤sMax (getI xs tStage.dflt i))∧(0≤mTl (getI xs tStage.dflt i)∧mTl (getI xs tStage.dflt i)≤59)∧0≤mSt (getI xs tStage.dflt i)∧mSt (getI xs tStage.dflt i)+sMax (getI xs tStage.dflt i)≤1000000:=fun i hi=>by
  have S:=F.st i hi
  unfold Pl.StOk at S
  obtain ⟨⟨k1,k2,k3⟩,⟨k4,k5,k6,k7⟩,_⟩:=S
  exact ⟨⟨k1,k2⟩,⟨k4,k5⟩,k6,Int.add_le_of_le_sub_right k7⟩
 have hd2:∀ i,i < xs.length→sMin (getI xs tStage.dflt i)≤getI (slowD xs) 0 i∧getI (slowD xs) 0 i≤sMax (getI xs tStage.dflt i):=fun i hi=>by
  rw [hd i hi]
  have:=(hst i hi).1
  omega
 intro s hs
 unfold critL at hs
 rcases List.mem_append.1 hs with hs|hs
 ·rcases List.mem_cons.1 hs with hs|hs
  ·rw [hs]
   exact hslow _ _ _ hdl hd2 (.inl ⟨rfl,rfl⟩)
  ·obtain ⟨x,hx,rfl⟩:=List.mem_map.1 hs
   obtain ⟨i,hi,rfl⟩:=List.getElem_of_mem hx
   have e:getI xs tStage.dflt i=xs[i]:=by simp [getI,List.getD,List.getElem?_eq_getElem hi]
   have h:=hst i hi
   rw [e] at h
   exact hslow _ _ _ hdl hd2 (.inr ⟨h.2.1,by show 0≤mSt xs[i]+sMax xs[i] - 1;omega,by show mSt xs[i]+sMax xs[i] - 1≤1000000;omega⟩)
 ·obtain ⟨w,hw,rfl⟩:=List.mem_map.1 hs
  obtain ⟨k,hk,rfl⟩:=List.getElem_of_mem hw
  have e:getI ws tWin.dflt k=ws[k]:=by simp [getI,List.getD,List.getElem?_eq_getElem hk]
  have W:=F.ws k hk
  rw [e] at W
  unfold Pl.WiOk at W
  have h:=hst ws[k].2.1.toNat (by omega)
  refine hslow _ _ _ (by show ((slowD xs).set _ _).length=_;rw [List.length_set];exact hdl) (fun i hi=>?_) (.inr ⟨h.2.1,h.2.2.1,by have h1:=h.2.2.2;have h2:=h.1;show mSt (getI xs tStage.dflt ws[k].2.1.toNat)≤1000000;omega⟩)
  by_cases hc:ws[k].1.toNat=i
  ·have h9:getI ((slowD xs).set ws[k].1.toNat (sMin (getI xs tStage.dflt ws[k].1.toNat))) 0 i=sMin (getI xs tStage.dflt i):=by
    rw [hc]
    simp [getI,List.getD,List.getElem?_set,hdl,hi]
   have:=(hst i hi).1
   show _≤getI ((slowD xs).set ws[k].1.toNat (sMin (getI xs tStage.dflt ws[k].1.toNat))) 0 i∧getI ((slowD xs).set ws[k].1.toNat (sMin (getI xs tStage.dflt ws[k].1.toNat))) 0 i≤_
   rw [h9]
   omega
  ·have h9:getI ((slowD xs).set ws[k].1.toNat (sMin (getI xs tStage.dflt ws[k].1.toNat))) 0 i=getI (slowD xs) 0 i:=by
    simp [getI,List.getD,List.getElem?_set,hc]
   show _≤getI ((slowD xs).set ws[k].1.toNat (sMin (getI xs tStage.dflt ws[k].1.toNat))) 0 i∧getI ((slowD xs).set ws[k].1.toNat (sMin (getI xs tStage.dflt ws[k].1.toNat))) 0 i≤_
   rw [h9]
   exact hd2 i hi
def sigRK:List (Nat × Spec):=[(108,rValidS),(109,rCritS),(110,rRunS)]
theorem sigRKOk:SigOk Tryz.prog (look sigRK):=sigCons (sigCons (sigCons sigNil
 Tryz.func110 (by kernel_rfl) (c:=body Tryz.f110) rfl rRunOk)
 Tryz.func109 (by kernel_rfl) (c:=body Tryz.f109) rfl rCritOk)
 Tryz.func108 (by kernel_rfl) (c:=body Tryz.f108) rfl rValidOk
theorem rCheckOk:SpecSound Tryz.prog 70 rCheckS:=by
 refine soundP2 (envOf2 sigRKOk) Tryz.func70 (c:=body Tryz.f70) rfl (by kernel_rfl) rfl ?_
 intro args out hf hpre
 split at hf <;> try (cases hf;done)
 rename_i e a b xs ws
 cases hf
 refine ⟨Nat.le_of_ble_eq_true rfl,initI (args:=[.agg [.int .i64 e,.int .i64 a,.int .i64 b,.sl tStage xs,.sl tWin ws]]) rfl ?_⟩
 have hv:Pl.validF e a b xs ws=true:=hpre
 have F:=Pl.valid_facts hv
 have hF:=facts_slots F
 have hab:=F.ab
 have hn:=F.n
 have hcp:critP b xs ws:=⟨⟨hn,hF.2⟩,by omega,by omega⟩
 have hps:=crit_poss hv
 obtain ⟨r,hr⟩:∃ r,r=okR e b xs ws:=⟨_,rfl⟩
 rw [← hr]
 unfold okR at hr
 have hL:(critL b xs ws).length≤1009:=by
  have:=hF.2.1
  unfold critL
  simp only [List.length_append,List.length_cons,List.length_map]
  omega
 repeat' (first|refine zN ?_|refine zE ?_|refine zP ?_|refine pD ?_|refine pC (by (exact hv)) ?_|refine zS ?_|refine zR ?_|refine zO ?_|refine zB ?_|refine zX ?_|refine zT ?_|refine skipI rfl ?_)
 refine condF rfl ?_
 repeat' (first|refine zN ?_|refine zE ?_|refine zP ?_|refine zS ?_|refine zO ?_|refine zX ?_|refine zT ?_|refine skipI rfl ?_)
 refine zR ?_
 repeat' (first|with_reducible refine pN ?_|refine pD ?_|refine pC (by exact hcp) ?_)
 repeat with_reducible refine cN ?_
 refine freezeI (key 16 0) rfl ?_
 generalize critL b xs ws=L at *
 repeat' (first|refine zN ?_|refine zE ?_|refine zP ?_|refine pD ?_|refine zS ?_|refine zR ?_|refine zO ?_|refine zB ?_|refine zX ?_|refine zT ?_|refine skipI rfl ?_)
 refine loopI (σ:=Nat) (fun i=>[(6,.int .i64 i)]) (fun i=>[]) (fun i=>i≤List.length (α:=ScT) L∧∀ j,j < i→lateR e b xs ws (getI L tSc.dflt j)=false) (fun i=>List.length (α:=ScT) L - i) 0 rfl (fun _=>rfl) rfl ?_ ?_ ?_
 ·exact ⟨Nat.zero_le _,fun j hj=>by omega⟩
 ·repeat' (first|exact trivial|with_reducible exact rfl|refine And.intro ?_ ?_)
  all_goals rfl
 rintro i ⟨hi,hb⟩
 repeat' (first|refine zN ?_|refine zE ?_|refine zP ?_|refine pD ?_|refine zS ?_|refine zR ?_|refine zO ?_|refine zB ?_|refine zX ?_|refine zT ?_|refine skipI rfl ?_)
 refine condI rfl (fun c1=>?_) (fun c1=>?_)
 ·simp only [decide_eq_true_eq] at c1
  have hil:i < List.length (α:=ScT) L:=by omega
  have hin:((i:Int)).toNat=i:=by omega
  obtain ⟨s,hs⟩:∃ s:ScT,s=getI L tSc.dflt i:=⟨_,rfl⟩
  have hsp:=hps s (by rw [hs];exact Pl.getI_mem hil)
  repeat' (first|refine zN ?_|refine zE ?_|refine zP ?_|refine zS ?_|refine zO ?_|refine zB ?_|refine zX ?_|refine zT ?_|refine skipI rfl ?_)
  refine zR ?_
  repeat' (first|with_reducible refine pN ?_|refine pD ?_|refine pC (by first|(simp only [hin];first|omega|(rw [← hs];exact hsp))) ?_)
  repeat with_reducible refine cN ?_
  simp only [hin,← hs]
  repeat' (first|refine zN ?_|refine zE ?_|refine zP ?_|refine pD ?_|refine zS ?_|refine zR ?_|refine zO ?_|refine zB ?_|refine zX ?_|refine zT ?_|refine skipI rfl ?_)
  refine condI rfl (fun c2=>?_) (fun c2=>?_)
  ·have hl:lateR e b xs ws s=true:=c2
   have hr0:r=false:=by
    rw [hr,Bool.not_eq_false',List.any_eq_true]
    exact ⟨s,by rw [hs];exact Pl.getI_mem hil,hl⟩
   rw [hr0]
   repeat' (first|refine zN ?_|refine zE ?_|refine zP ?_|refine pD ?_|refine zS ?_|refine zR ?_|refine zO ?_|refine zB ?_|refine zX ?_|refine zT ?_|refine skipI rfl ?_)
   refine endR rfl ?_
   repeat' (first|exact trivial|exact rfl|refine ⟨rfl,?_⟩|refine And.intro ?_ ?_)
  ·have hl:lateR e b xs ws s=false:=c2
   repeat' (first|refine zN ?_|refine zE ?_|refine zP ?_|refine pD ?_|refine zS ?_|refine zR ?_|refine zO ?_|refine zB ?_|refine zX ?_|refine zT ?_|refine skipI rfl ?_)
   refine roundI (i+1) rfl ?_ ?_ ?_
   ·refine ⟨by show i+1≤List.length (α:=ScT) L;omega,fun j hj=>?_⟩
    by_cases hji:j=i
    ·subst hji;rw [← hs];exact hl
    ·exact hb j (by omega)
   ·show List.length (α:=ScT) L - (i+1) < List.length (α:=ScT) L - i
    omega
   ·repeat' (first|exact trivial|with_reducible exact rfl|refine And.intro ?_ ?_)
    all_goals rfl
 ·simp only [decide_eq_false_iff_not] at c1
  have hr1:r=true:=by
   rw [hr,Bool.not_eq_true',List.any_eq_false]
   intro s hs
   obtain ⟨j,hj,rfl⟩:=List.getElem_of_mem hs
   have e:getI L tSc.dflt j=L[j]:=by simp [getI,List.getD,List.getElem?_eq_getElem hj]
   have:=hb j (by omega)
   rw [e] at this
   rw [this]
   exact Bool.false_ne_true
  rw [hr1]
  repeat' (first|refine zN ?_|refine zE ?_|refine zP ?_|refine pD ?_|refine zS ?_|refine zR ?_|refine zO ?_|refine zB ?_|refine zX ?_|refine zT ?_|refine skipI rfl ?_)
  refine endR rfl ?_
  repeat' (first|exact trivial|exact rfl|refine ⟨rfl,?_⟩|refine And.intro ?_ ?_)
end Go.AM.YtmohhhbgcehnpaaGreat.Re
