/- TopReserved's helpers: routed; the tools of a plan that was made. -/
import Derived.Test.YtkgmmmhokgdcaaaGreatTpAK
import Derived.Test.YtkgmmmhokgdcaaaGreatReZK
set_option linter.all false
namespace Go.AM.YtkgmmmhokgdcaaaGreat.Tp
open Go.Proofs
open Go.AM.YtkgmmmhokgdcaaaGreat.Re
open Go.AM.YtkgmmmhokgdcaaaGreat.Fl (StepT tStep stNx mkSs mkWs Int6 Int3 tS6 tS3 makeFS makeFOk)
set_option maxRecDepth 100000
set_option maxHeartbeats 4000000
def In2:List NeedT→List PairT→Prop
 | [],[]=>True
 | x::r,p::t=>(p.1∈x.1∧p.2∈x.1)∧In2 r t
 | _,_=>False
def InT:List NeedT→List StT→Prop
 | [],[]=>True
 | x::r,p::t=>(mTl p∈x.1∧sTl p∈x.1)∧InT r t
 | _,_=>False
theorem chL_in:∀ {ns:List NeedT} {l ch:List PairT},ch∈chL ns l→∃ t,ch=l++t∧In2 ns t
 | [],l,ch,h=>⟨[],by rw [List.append_nil];exact List.mem_singleton.1 h,trivial⟩
 | x::r,l,ch,h=>by
   unfold chL at h
   obtain ⟨a,ha,h⟩:=List.mem_flatMap.1 h
   unfold rowOf at h
   obtain ⟨b,hb,h⟩:=List.mem_flatMap.1 h
   cases hc:decide (a≠b)
   ·rw [hc] at h;cases h
   ·rw [hc] at h
    obtain ⟨t,h1,h2⟩:=chL_in (ns:=r) (l:=l++[(a,b)]) (show ch∈chL r (l++[(a,b)]) from h)
    exact ⟨(a,b)::t,by rw [h1,List.append_assoc];rfl,⟨ha,hb⟩,h2⟩
theorem stG_in {b:Int}:∀ {ns:List NeedT} {c:CalT} {t:Int} {ch:List PairT} {xs:List StT},stG b c t ns ch=some xs→In2 ns ch→InT ns xs
 | [],c,t,ch,xs,h,hi=>by
   simp only [stG,Option.some.injEq] at h
   subst h
   trivial
 | _::_,c,t,[],xs,h,hi=>by simp [stG] at h
 | x::ns,c,t,p::ch,xs,h,hi=>by
   simp only [stG] at h
   cases h1:(firstF c p.1 (t+b) x.2.2).2 <;> rw [h1] at h
   ·cases h
   ·rw [cond_true] at h
    cases h2:(firstF (bookG c p.1 (t+b) x.2.2) p.2 ((firstF c p.1 (t+b) x.2.2).1+x.2.2 - 1+b) x.2.2).2 <;> rw [h2] at h
    ·cases h
    ·rw [cond_true,Option.map_eq_some_iff] at h
     obtain ⟨l,h3,rfl⟩:=h
     exact ⟨hi.1,stG_in h3 hi.2⟩
theorem inT_get:∀ {ns:List NeedT} {xs:List StT},InT ns xs→∀ j,j < ns.length→mTl (getI xs tStage.dflt j)∈(getI ns tNeed.dflt j).1∧sTl (getI xs tStage.dflt j)∈(getI ns tNeed.dflt j).1
 | [],_,_,j,hj=>by simp at hj
 | _::_,[],h,_,_=>h.elim
 | x::ns,p::xs,h,0,_=>h.1
 | x::ns,p::xs,h,j+1,hj=>inT_get h.2 j (by simpa using hj)
theorem made_tools {c:CalT} {e a b:Int} {ns:List NeedT} {ws:List tWin.El} {y:List StT × Int} (h:makeG c e a b ns ws=some y):∀ j,j < ns.length→mTl (getI y.1 tStage.dflt j)∈(getI ns tNeed.dflt j).1∧sTl (getI y.1 tStage.dflt j)∈(getI ns tNeed.dflt j).1:=by
 unfold makeG at h
 cases hr:rvalidF e a b ns ws <;> rw [hr] at h
 ·cases h
 ·rw [cond_true] at h
  obtain ⟨ch,h1,h2,_⟩:=best_some h
  obtain ⟨t,h3,h4⟩:=chL_in h1
  rw [List.nil_append] at h3
  rw [h3] at h2
  exact inT_get (stG_in h2 h4)
def partM {α:Type} (f:α→α) (l:List α) (i:Nat):List α:=(l.take i).map f++l.drop i
theorem partM_len {α:Type} {f:α→α} {l:List α} {i:Nat}:(partM f l i).length=l.length:=by
 unfold partM;rw [List.length_append,List.length_map,← List.length_append,List.take_append_drop]
theorem partM_set {α:Type} {f:α→α} {d:α} {l:List α} {i:Nat} (h:i < l.length):(partM f l i).set i (f (getI l d i))=partM f l (i+1):=by
 have e:getI l d i=l[i]:=by simp [getI,List.getD,List.getElem?_eq_getElem h]
 unfold partM
 rw [List.drop_eq_getElem_cons h,List.set_append_right _ _ (by rw [List.length_map,List.length_take];omega),List.length_map,List.length_take,show i - min i l.length=0 by omega,List.set_cons_zero,take_succ_getI (d:=d) h,List.map_append,e]
 simp
theorem partM_get {α:Type} {f:α→α} {d:α} {l:List α} {i:Nat} (h:i < l.length):getI (partM f l i) d i=getI l d i:=by
 unfold partM getI List.getD
 rw [List.getElem?_append_right (by rw [List.length_map,List.length_take];omega),List.length_map,List.length_take,List.getElem?_drop]
 rw [show i+(i - min i l.length)=i by omega]
def lastR (W:List Int):Int:=getI W 0 (W.length - 1)
def rtStep (ss:List StepT) (c:Int) (R:List Int):List Int :=
 if (stNx (getI ss tStep.dflt (lastR R).toNat)).length=0 then R else R++[getI (stNx (getI ss tStep.dflt (lastR R).toNat)) 0 (pickF c ((stNx (getI ss tStep.dflt (lastR R).toNat)).length:Int)).toNat]
def cAt (c0 c1 c2:Int) (i:Nat):Int:=if i=0 then c0 else if i=1 then c1 else c2
def rtN (ss:List StepT) (c0 c1 c2:Int):Nat→List Int
 | 0=>[0]
 | i+1=>rtStep ss (cAt c0 c1 c2 i) (rtN ss c0 c1 c2 i)
theorem rt_stop {ss:List StepT} {c0 c1 c2:Int} {i:Nat} (h:(stNx (getI ss tStep.dflt (lastR (rtN ss c0 c1 c2 i)).toNat)).length=0):∀ {j:Nat},i≤j→rtN ss c0 c1 c2 j=rtN ss c0 c1 c2 i
 | 0,hj=>by rw [show i=0 by omega]
 | j+1,hj=>by
   by_cases e:i=j+1
   ·rw [e]
   ·have ih:=rt_stop h (j:=j) (by omega)
    show rtStep ss _ (rtN ss c0 c1 c2 j)=_
    rw [ih]
    unfold rtStep
    rw [if_pos h]
theorem rt_in {mn mx:Int} {ss:List StepT} {ws:List Fl.WinT} (F:Fl.FlowSm mn mx ss ws) {c0 c1 c2:Int}:∀ {i:Nat},Ins ss (rtN ss c0 c1 c2 i)∧1≤(rtN ss c0 c1 c2 i).length∧(rtN ss c0 c1 c2 i).length≤i+1
 | 0=>⟨fun s hs=>by rw [List.mem_singleton.1 hs];have:=F.n1;omega,Nat.le_refl _,Nat.le_refl _⟩
 | i+1=>by
   obtain ⟨h1,h2,h3⟩:=rt_in F (c0:=c0) (c1:=c1) (c2:=c2) (i:=i)
   show Ins ss (rtStep ss _ (rtN ss c0 c1 c2 i))∧1≤(rtStep ss _ (rtN ss c0 c1 c2 i)).length∧(rtStep ss _ (rtN ss c0 c1 c2 i)).length≤i+1+1
   unfold rtStep
   split
   ·exact ⟨h1,h2,by omega⟩
   ·rename_i hne
    have hl:=h1 _ (Fl.fl_mem (d:=(0:Int)) (show (rtN ss c0 c1 c2 i).length - 1 < (rtN ss c0 c1 c2 i).length by omega))
    have hst:=F.st _ (Fl.fl_mem (d:=tStep.dflt) (show (lastR (rtN ss c0 c1 c2 i)).toNat < ss.length by unfold lastR;omega))
    refine ⟨fun s hs=>?_,by rw [List.length_append];omega,by rw [List.length_append,List.length_singleton];omega⟩
    rcases List.mem_append.1 hs with hs|hs
    ·exact h1 s hs
    ·rw [List.mem_singleton.1 hs]
     have hp:=pick_b (c:=cAt c0 c1 c2 i) (n:=((stNx (getI ss tStep.dflt (lastR (rtN ss c0 c1 c2 i)).toNat)).length:Int)) (by omega)
     exact hst.nx _ (Fl.fl_mem (d:=(0:Int)) (by omega))
def routedS:Spec:=⟨true,fun args rows=>match args,rows with
 | [.sl (.pair (.int .i64) (.pair (.int .i64) (.pair (.int .i64) (.pair (.int .i64) (.pair (.int .i64) (.int .i64)))))) x,.sl (.pair (.int .i64) (.pair (.int .i64) (.int .i64))) w,.agg [.int .i64 c0,.int .i64 c1,.int .i64 c2]],[] =>
   some ⟨True,.tup [.agg [.int .i64 2,.int .i64 5,.sl tStep (wdSs 1 x),.sl Fl.tWin (mkWs x w)],.sl Fl.tInt (rtN (wdSs 1 x) c0 c1 c2 3)],[],true⟩
 | _,_=>none⟩
def sigRt:List (Nat × Spec):=[(47,makeFS),(11,pickP)]
theorem sigRtOk:SigOk Tryz.prog (look sigRt):=sigCons (sigCons sigNil
 Tryz.func11 (by kernel_rfl) (c:=body Tryz.f11) rfl pickTOk)
 Tryz.func47 (by kernel_rfl) (c:=body Tryz.f47) rfl makeFOk
theorem routedOk:SpecSound Tryz.prog 17 routedS:=by
 refine soundR (envOf sigRtOk) Tryz.func17 (c:=body Tryz.f17) rfl (by kernel_rfl) rfl ?_
 intro args rows out hf hpre
 split at hf <;> try (cases hf;done)
 rename_i x w k0 k1 k2
 cases hf
 refine ⟨Nat.le_of_ble_eq_true rfl,initI (args:=[.sl tS6 x,.sl tS3 w,.agg [.int .i64 k0,.int .i64 k1,.int .i64 k2]]) (rows:=[]) rfl ?_⟩
 have hv:=wd_valid (k:=1) (by omega) (by omega) (x:=x) (w:=w)
 have F:=Fl.flow_sm hv
 have hml:(mkSs x).length≤8:=by rw [Fl.mkSs_len];exact Fl.mkN_b.2
 repeat' (first|refine zN ?_|refine zE ?_|refine zP ?_|refine pD ?_|refine zS ?_|refine zR ?_|refine zO ?_|refine zB ?_|refine zX ?_|refine zT ?_|refine skipI rfl ?_)
 refine loopI (σ:=Nat) (fun i=>[(9,.int .i64 i)]) (fun i=>[(8,.box [.int .i64 2,.int .i64 5,.own 3000,.own 3001]),(3000,.seq tStep (partM (wdS 1) (mkSs x) i)),(3001,.seq Fl.tWin (mkWs x w))]) (fun i=>i≤(mkSs x).length) (fun i=>(mkSs x).length - i) 0 rfl (fun _=>rfl) rfl ?_ ?_ ?_
 ·exact Nat.zero_le _
 ·repeat' (first|exact trivial|with_reducible exact rfl|refine And.intro ?_ ?_)
  all_goals rfl
 intro i hi
 have hpl:=partM_len (f:=wdS 1) (l:=mkSs x) (i:=i)
 repeat' (first|refine zN ?_|refine zE ?_|refine zP ?_|refine pD ?_|refine zS ?_|refine zR ?_|refine zO ?_|refine zB ?_|refine zX ?_|refine zT ?_|refine skipI rfl ?_)
 refine condI rfl (fun c1=>?_) (fun c1=>?_)
 ·have c1:=of_decide_eq_true c1
  have hil:i < (mkSs x).length:=by omega
  have hii:((i:Int)).toNat=i:=by omega
  have hgt:=partM_get (f:=wdS 1) (d:=tStep.dflt) hil
  have hm:getI (mkSs x) tStep.dflt i∈mkSs x:=Fl.fl_mem hil
  have hsm:=(Fl.flow_sm (Fl.mk_valid (x:=x) (w:=w))).st _ hm
  have htl:0≤getI (getI (mkSs x) tStep.dflt i).2.1 0 0∧getI (getI (mkSs x) tStep.dflt i).2.1 0 0≤5:=by
   unfold mkSs at hm
   obtain ⟨j,hj,he⟩:=List.mem_map.1 hm
   have ht:=mkTl0 (n:=(Fl.mkN x:Int)) (i:=j) (y:=getI x tS6.dflt j)
   have he:Fl.mkSt (Fl.mkN x) j (getI x tS6.dflt j)=getI (mkSs x) tStep.dflt i:=he
   rw [he] at ht
   exact ht
  have hln:=hsm.tl.1
  have hst:=partM_set (f:=wdS 1) (d:=tStep.dflt) hil
  have hln':0 < (getI (mkSs x) tStep.dflt i).2.1.length:=hln
  repeat' (first|refine zN ?_|refine zE ?_|refine zP ?_|refine zS ?_|refine zO ?_|refine zB ?_|refine zX ?_|refine zT ?_|refine skipI rfl ?_)
  refine zR ?_
  repeat' (first|with_reducible refine pN ?_|refine pD ?_|refine pC (by first|(simp only [hii,hgt];first|omega|exact hln')) ?_)
  repeat with_reducible refine cN ?_
  simp only [hii,hgt]
  obtain ⟨s,hs⟩:∃ s:StepT,s=getI (mkSs x) tStep.dflt i:=⟨_,rfl⟩
  rw [← hs] at htl hln hst hgt ⊢
  have h4':In64 (getI s.2.1 (Ty.int IntKind.i64).dflt (Int.toNat 0)+1):=by
   have h5:0≤getI (α:=Int) s.2.1 0 0:=htl.1
   have h6:getI (α:=Int) s.2.1 0 0≤5:=htl.2
   show In64 (getI (α:=Int) s.2.1 0 0+1)
   unfold In64
   omega
  repeat' (first|with_reducible refine cN ?_|refine zS ?_|refine skipI rfl ?_)
  refine regF 7 38 rfl ?_
  repeat' (first|with_reducible refine pN ?_|refine pC (by first|exact h4'|omega|(simp only [hii];omega)) ?_)
  simp only [hii,hgt]
  rw [show (s.1,[getI s.2.1 (Ty.int IntKind.i64).dflt (Int.toNat 0),getI s.2.1 (Ty.int IntKind.i64).dflt (Int.toNat 0)+1],s.2.2.1,s.2.2.2.1,s.2.2.2.2.1,s.2.2.2.2.2.1,s.2.2.2.2.2.2)=wdS 1 s from rfl,hst]
  repeat' (first|refine zN ?_|refine zE ?_|refine zP ?_|refine pD ?_|refine zS ?_|refine zR ?_|refine zO ?_|refine zB ?_|refine zX ?_|refine zT ?_|refine skipI rfl ?_)
  refine roundI (i+1) rfl ?_ ?_ ?_
  ·show i+1≤(mkSs x).length
   omega
  ·show (mkSs x).length - (i+1) < (mkSs x).length - i
   omega
  ·repeat' (first|exact trivial|with_reducible exact rfl|refine And.intro ?_ ?_)
   all_goals rfl
 ·have c1:=of_decide_eq_false c1
  have e:i=(mkSs x).length:=by omega
  have e2:partM (wdS 1) (mkSs x) i=wdSs 1 x:=by
   rw [e]
   unfold partM wdSs
   rw [List.take_length,List.drop_length,List.append_nil]
  rw [e2]
  have hsl:=wd_len (k:=1) (x:=x)
  generalize wdSs 1 x=ss at *
  generalize mkWs x w=ws at *
  refine freezeI 3000 rfl ?_
  refine freezeI 3001 rfl ?_
  repeat' (first|refine zN ?_|refine zE ?_|refine zP ?_|refine zS ?_|refine zO ?_|refine zB ?_|refine zX ?_|refine zT ?_|refine skipI rfl ?_)
  refine zR ?_
  repeat' (first|with_reducible refine pN ?_|refine pD ?_|fail)
  repeat with_reducible refine cN ?_
  repeat' (first|refine zN ?_|refine zE ?_|refine zP ?_|refine zS ?_|refine zO ?_|refine zB ?_|refine zX ?_|refine zT ?_|refine skipI rfl ?_)
  refine zR ?_
  repeat' (first|with_reducible refine pN ?_|refine pD ?_|fail)
  repeat with_reducible refine cN ?_
  repeat' (first|with_reducible refine cN ?_|refine zS ?_|refine skipI rfl ?_)
  refine joinC (fun _:List Int=>[(11,.own 3100),(12,.junk)]) (fun R=>[(3100,.seq Fl.tInt R)]) (fun R=>R=rtN ss k0 k1 k2 3) (fun _=>rfl) ?_ (fun R hR=>?_)
  ·repeat' (first|refine zN ?_|refine zE ?_|refine zP ?_|refine pD ?_|refine zS ?_|refine zR ?_|refine zO ?_|refine zB ?_|refine zX ?_|refine zT ?_|refine skipI rfl ?_)
   refine loopI (σ:=Nat) (fun i=>[(11,.own 3100),(12,.int .i64 i)]) (fun i=>[(3100,.seq Fl.tInt (rtN ss k0 k1 k2 i))]) (fun i=>i≤3) (fun i=>3 - i) 0 rfl (fun _=>rfl) rfl ?_ ?_ ?_
   ·exact Nat.zero_le _
   ·repeat' (first|exact trivial|with_reducible exact rfl|refine And.intro ?_ ?_)
    all_goals rfl
   intro i hi
   have hri:=rt_in F (c0:=k0) (c1:=k1) (c2:=k2) (i:=i)
   have hstop:=rt_stop (ss:=ss) (c0:=k0) (c1:=k1) (c2:=k2) (i:=i)
   have hnx:rtN ss k0 k1 k2 (i+1)=rtStep ss (cAt k0 k1 k2 i) (rtN ss k0 k1 k2 i):=rfl
   generalize hR:rtN ss k0 k1 k2 i=R at *
   repeat' (first|refine zN ?_|refine zE ?_|refine zP ?_|refine pD ?_|refine zS ?_|refine zR ?_|refine zO ?_|refine zB ?_|refine zX ?_|refine zT ?_|refine skipI rfl ?_)
   refine condI rfl (fun c2=>?_) (fun c2=>?_)
   ·have hi3:i < 3:=by have:=of_decide_eq_true c2;omega
    obtain ⟨hR1,hR2,hR3⟩:=hri
    have hRn:((List.length (α:=Int) R:Int) - 1).toNat=List.length (α:=Int) R - 1:=by omega
    have hls:0≤getI (α:=Int) R 0 (List.length (α:=Int) R - 1)∧getI (α:=Int) R 0 (List.length (α:=Int) R - 1) < (List.length (α:=StepT) ss:Int):=hR1 _ (Fl.fl_mem (d:=(0:Int)) (show R.length - 1 < R.length by omega))
    have hl1:0≤getI R (Ty.dflt Fl.tInt) (List.length (α:=Int) R - 1):=hls.1
    have hl2:getI R (Ty.dflt Fl.tInt) (List.length (α:=Int) R - 1) < (List.length (α:=StepT) ss:Int):=hls.2
    have hst:=F.st _ (Fl.fl_mem (d:=tStep.dflt) (show (getI (α:=Int) R 0 (List.length (α:=Int) R - 1)).toNat < List.length (α:=StepT) ss by omega))
    have hnl:List.length (α:=Int) (stNx (getI ss tStep.dflt (lastR R).toNat))≤4:=hst.nl
    repeat' (first|refine zN ?_|refine zE ?_|refine zP ?_|refine zS ?_|refine zO ?_|refine zB ?_|refine zX ?_|refine zT ?_|refine skipI rfl ?_)
    refine zR ?_
    repeat' (first|with_reducible refine pN ?_|refine pD ?_|refine pC (by first|(first|omega|(simp only [hRn];exact hl1)|(simp only [hRn];exact hl2)|(unfold In64;omega))) ?_)
    repeat with_reducible refine cN ?_
    simp only [hRn]
    have eL:(getI ss tStep.dflt (getI R (Ty.dflt Fl.tInt) (List.length (α:=Int) R - 1)).toNat).2.2.2.2.1=stNx (getI ss tStep.dflt (lastR R).toNat):=rfl
    rw [eL]
    unfold rtStep at hnx
    generalize stNx (getI ss tStep.dflt (lastR R).toNat)=L at *
    repeat' (first|refine zN ?_|refine zE ?_|refine zP ?_|refine pD ?_|refine zS ?_|refine zR ?_|refine zO ?_|refine zB ?_|refine zX ?_|refine zT ?_|refine skipI rfl ?_)
    refine condI rfl (fun c3=>?_) (fun c3=>?_)
    ·have c3:=of_decide_eq_true c3
     repeat' (first|refine zN ?_|refine zE ?_|refine zP ?_|refine pD ?_|refine zS ?_|refine zR ?_|refine zO ?_|refine zB ?_|refine zX ?_|refine zT ?_|refine skipI rfl ?_)
     refine meetI R rfl (hstop (by omega) (show i≤3 by omega)).symm ?_
     repeat' (first|exact trivial|with_reducible exact rfl|refine And.intro ?_ ?_)
    ·have c3:=of_decide_eq_false c3
     have hL0:0 < List.length (α:=Int) L:=by omega
     rw [if_neg (by omega)] at hnx
     have hp0:=pick_b (c:=k0) (n:=(List.length (α:=Int) L:Int)) (by omega)
     have hp1:=pick_b (c:=k1) (n:=(List.length (α:=Int) L:Int)) (by omega)
     have hp2:=pick_b (c:=k2) (n:=(List.length (α:=Int) L:Int)) (by omega)
     have h3:i=0∨i=1∨i=2:=by omega
     rcases h3 with rfl|rfl|rfl
     ·rw [show ((0:Nat):Int)=0 from rfl]
      repeat' (first|refine zN ?_|refine zE ?_|refine zP ?_|refine zS ?_|refine zO ?_|refine zB ?_|refine zX ?_|refine zT ?_|refine skipI rfl ?_)
      refine zR ?_
      repeat' (first|with_reducible refine pN ?_|refine pD ?_|fail)
      repeat with_reducible refine cN ?_
      have hnx:rtN ss k0 k1 k2 1=R++[getI L (Ty.int IntKind.i64).dflt (pickF k0 (List.length (α:=Int) L:Int)).toNat]:=hnx
      rw [← hnx]
      repeat' (first|refine zN ?_|refine zE ?_|refine zP ?_|refine pD ?_|refine zS ?_|refine zR ?_|refine zO ?_|refine zB ?_|refine zX ?_|refine zT ?_|refine skipI rfl ?_)
      refine roundI 1 rfl ?_ ?_ ?_
      ·show 1≤3
       omega
      ·show 3 - 1 < 3 - 0
       omega
      ·repeat' (first|exact trivial|with_reducible exact rfl|refine And.intro ?_ ?_)
       all_goals rfl
     ·rw [show ((1:Nat):Int)=1 from rfl]
      repeat' (first|refine zN ?_|refine zE ?_|refine zP ?_|refine zS ?_|refine zO ?_|refine zB ?_|refine zX ?_|refine zT ?_|refine skipI rfl ?_)
      refine zR ?_
      repeat' (first|with_reducible refine pN ?_|refine pD ?_|fail)
      repeat with_reducible refine cN ?_
      have hnx:rtN ss k0 k1 k2 2=R++[getI L (Ty.int IntKind.i64).dflt (pickF k1 (List.length (α:=Int) L:Int)).toNat]:=hnx
      rw [← hnx]
      repeat' (first|refine zN ?_|refine zE ?_|refine zP ?_|refine pD ?_|refine zS ?_|refine zR ?_|refine zO ?_|refine zB ?_|refine zX ?_|refine zT ?_|refine skipI rfl ?_)
      refine roundI 2 rfl ?_ ?_ ?_
      ·show 2≤3
       omega
      ·show 3 - 2 < 3 - 1
       omega
      ·repeat' (first|exact trivial|with_reducible exact rfl|refine And.intro ?_ ?_)
       all_goals rfl
     ·rw [show ((2:Nat):Int)=2 from rfl]
      repeat' (first|refine zN ?_|refine zE ?_|refine zP ?_|refine zS ?_|refine zO ?_|refine zB ?_|refine zX ?_|refine zT ?_|refine skipI rfl ?_)
      refine zR ?_
      repeat' (first|with_reducible refine pN ?_|refine pD ?_|fail)
      repeat with_reducible refine cN ?_
      have hnx:rtN ss k0 k1 k2 3=R++[getI L (Ty.int IntKind.i64).dflt (pickF k2 (List.length (α:=Int) L:Int)).toNat]:=hnx
      rw [← hnx]
      repeat' (first|refine zN ?_|refine zE ?_|refine zP ?_|refine pD ?_|refine zS ?_|refine zR ?_|refine zO ?_|refine zB ?_|refine zX ?_|refine zT ?_|refine skipI rfl ?_)
      refine roundI 3 rfl ?_ ?_ ?_
      ·show 3≤3
       omega
      ·show 3 - 3 < 3 - 2
       omega
      ·repeat' (first|exact trivial|with_reducible exact rfl|refine And.intro ?_ ?_)
       all_goals rfl
   ·have c2:=of_decide_eq_false c2
    repeat' (first|refine zN ?_|refine zE ?_|refine zP ?_|refine pD ?_|refine zS ?_|refine zR ?_|refine zO ?_|refine zB ?_|refine zX ?_|refine zT ?_|refine skipI rfl ?_)
    refine meetI R rfl (by rw [← hR,show i=3 by omega]) ?_
    repeat' (first|exact trivial|with_reducible exact rfl|refine And.intro ?_ ?_)
  ·rw [hR]
   refine freezeI 3100 rfl ?_
   repeat' (first|refine zN ?_|refine zE ?_|refine zP ?_|refine pD ?_|refine zS ?_|refine zR ?_|refine zO ?_|refine zB ?_|refine zX ?_|refine zT ?_|refine skipI rfl ?_)
   refine endR rfl ?_
   repeat' (first|exact trivial|exact rfl|refine ⟨rfl,?_⟩|refine And.intro ?_ ?_)
end Go.AM.YtkgmmmhokgdcaaaGreat.Tp
