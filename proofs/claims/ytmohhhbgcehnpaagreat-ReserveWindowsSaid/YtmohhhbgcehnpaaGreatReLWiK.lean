/- The law ReserveWindows: her function. -/
import Derived.Test.YtmohhhbgcehnpaaGreatReZK
import Derived.Test.YtmohhhbgcehnpaaGreatPw31
set_option linter.all false
namespace Go.AM.YtmohhhbgcehnpaaGreat.Re
open Go.Proofs
open Go.AM.YtmohhhbgcehnpaaGreat.Fl (StepT tStep stTl stNx stBk mkSs mkWs Int6 Int3 tS6 tS3 winAll linksF needsF needAt reqF reqE reqB reqW lineB argB hasB reqS lateS openS lateOk openOk reqOk makeFS makeFOk lateQ openQ watL watA TimeOk Opn WinT VisT flow_sm FlowSm)
set_option maxRecDepth 100000
set_option maxHeartbeats 8000000
def wide2S:Spec:=⟨true,fun args rows=>match args,rows with
 | [.agg [.int .i64 mn,.int .i64 mx,.own 0,.own 1]],[.seq (.pair (.int .i64) (.pair (.slice (.int .i64)) (.pair (.int .i64) (.pair (.int .i64) (.pair (.slice (.int .i64)) (.pair (.int .i64) (.int .i64))))))) ss,.seq (.pair (.int .i64) (.pair (.int .i64) (.int .i64))) ws] =>
   some ⟨(∀ i,i < ss.length→0 < (getI ss tStep.dflt i).2.1.length∧0≤getI (getI ss tStep.dflt i).2.1 0 0∧getI (getI ss tStep.dflt i).2.1 0 0≤5)∧ss.length≤100,.agg [.int .i64 mn,.int .i64 mx,.sl tStep (ss.map (wdS 2)),.sl Fl.tWin ws],[.dead,.dead],true⟩
 | _,_=>none⟩
theorem wide2Ok:SpecSound Tryz.prog 15 wide2S:=by
 refine soundR (envOf sigNil) Tryz.func15 (c:=body Tryz.f15) rfl (by kernel_rfl) rfl ?_
 intro args rows out hf hpre
 split at hf <;> try (cases hf;done)
 rename_i mn mx ss ws
 cases hf
 refine ⟨Nat.le_of_ble_eq_true rfl,initI (args:=[.agg [.int .i64 mn,.int .i64 mx,.own 0,.own 1]]) (rows:=[.seq tStep ss,.seq Fl.tWin ws]) rfl ?_⟩
 obtain ⟨ht,hl⟩:=hpre
 refine freezeI 100000 rfl ?_
 refine freezeI 100001 rfl ?_
 repeat' (first|refine zN ?_|refine zE ?_|refine zP ?_|refine pD ?_|refine zS ?_|refine zR ?_|refine zO ?_|refine zB ?_|refine zX ?_|refine zT ?_|refine skipI rfl ?_)
 refine loopI (σ:=Nat) (fun i=>[(3,.own 3000),(4,.int .i64 i)]) (fun i=>[(3000,.seq tStep ((List.take (α:=StepT) i ss).map (wdS 2)))]) (fun i=>i≤List.length (α:=StepT) ss) (fun i=>List.length (α:=StepT) ss - i) 0 rfl (fun _=>rfl) rfl ?_ ?_ ?_
 ·exact Nat.zero_le _
 ·repeat' (first|exact trivial|with_reducible exact rfl|refine And.intro ?_ ?_)
  all_goals rfl
 intro i hi
 repeat' (first|refine zN ?_|refine zE ?_|refine zP ?_|refine pD ?_|refine zS ?_|refine zR ?_|refine zO ?_|refine zB ?_|refine zX ?_|refine zT ?_|refine skipI rfl ?_)
 refine condI rfl (fun c1=>?_) (fun c1=>?_)
 ·simp only [decide_eq_true_eq] at c1
  have hil:i < List.length (α:=StepT) ss:=by omega
  have hii:((i:Int)).toNat=i:=by omega
  obtain ⟨h1,h2,h3⟩:=ht i hil
  have htk:=take_getI (d:=tStep.dflt) (l:=ss) hil
  have hml:(List.map (wdS 2) (List.take (α:=StepT) i ss)).length=i:=by rw [List.length_map,List.length_take];omega
  repeat' (first|refine zN ?_|refine zE ?_|refine zP ?_|refine zS ?_|refine zO ?_|refine zB ?_|refine zX ?_|refine zT ?_|refine skipI rfl ?_)
  refine zR ?_
  repeat' (first|with_reducible refine pN ?_|refine pD ?_|refine pC (by omega) ?_)
  repeat with_reducible refine cN ?_
  simp only [hii]
  obtain ⟨s,hs⟩:∃ s:StepT,s=getI ss tStep.dflt i:=⟨_,rfl⟩
  rw [← hs] at h1 h2 h3 htk ⊢
  have h2':0≤getI s.2.1 (Ty.dflt Fl.tInt) (Int.toNat 0):=h2
  have h3':getI s.2.1 (Ty.dflt Fl.tInt) (Int.toNat 0)≤5:=h3
  have h4':In64 (getI s.2.1 (Ty.dflt Fl.tInt) (Int.toNat 0)+2):=by
   have h5:0≤getI (α:=Int) s.2.1 0 0:=h2
   have h6:getI (α:=Int) s.2.1 0 0≤5:=h3
   show In64 (getI (α:=Int) s.2.1 0 0+2)
   unfold In64
   omega
  repeat' (first|refine zN ?_|refine zE ?_|refine zP ?_|refine zS ?_|refine zO ?_|refine zB ?_|refine zX ?_|refine zT ?_|refine skipI rfl ?_)
  refine zR ?_
  repeat' (first|with_reducible refine pN ?_|refine pD ?_|refine pC (by first|(first|exact h4'|omega|(unfold In64;omega))) ?_)
  repeat with_reducible refine cN ?_
  refine freezeI 27 rfl ?_
  repeat' (first|refine zN ?_|refine zE ?_|refine zP ?_|refine pD ?_|refine pC (by first|omega|(simp only [hml,List.length_cons,List.length_nil];omega)) ?_|refine zS ?_|refine zR ?_|refine zO ?_|refine zB ?_|refine zX ?_|refine zT ?_|refine skipI rfl ?_)
  refine roundI (i+1) rfl ?_ ?_ ?_
  ·show i+1≤List.length (α:=StepT) ss
   omega
  ·show List.length (α:=StepT) ss - (i+1) < List.length (α:=StepT) ss - i
   omega
  ·repeat' (first|exact trivial|with_reducible exact rfl|refine And.intro ?_ ?_)
   all_goals (first|rfl|(rw [htk,List.map_append];rfl))
 ·simp only [decide_eq_false_iff_not] at c1
  have e:List.take (α:=StepT) i ss=ss:=List.take_of_length_le (by omega)
  rw [e]
  repeat' (first|with_reducible refine cN ?_|refine skipI rfl ?_)
  refine freezeI 3000 rfl ?_
  repeat' (first|refine zN ?_|refine zE ?_|refine zP ?_|refine pD ?_|refine zS ?_|refine zR ?_|refine zO ?_|refine zB ?_|refine zX ?_|refine zT ?_|refine skipI rfl ?_)
  refine endR rfl ?_
  repeat' (first|exact trivial|exact rfl|refine ⟨rfl,?_⟩|refine And.intro ?_ ?_)
def lastIx (rt:List Int) (x:Int):Nat→Int
 | 0=>-1
 | m+1=>if getI rt 0 m=x then (m:Int) else lastIx rt x m
theorem lastIx_lt {rt:List Int} {x:Int}:∀ {m:Nat},lastIx rt x m < (m:Int)
 | 0=>by show (-1:Int) < 0;omega
 | m+1=>by
   have:=lastIx_lt (rt:=rt) (x:=x) (m:=m)
   unfold lastIx
   split
   ·omega
   ·omega
theorem last_from {w:WinT} {rt:List Int} {a n:Nat} (h:Opn w rt a n):∀ {m:Nat},a < m→m≤n→lastIx rt w.1 m=(a:Int)
 | 0,h1,_=>by omega
 | m+1,h1,h2=>by
   unfold lastIx
   by_cases e:m=a
   ·rw [e,if_pos h.2.1]
   ·rw [if_neg (h.2.2 m (by omega) (by omega)).1]
    exact last_from h (by omega) (by omega)
theorem last_to {w:WinT} {rt:List Int} {a n:Nat} (hw:w.1≠w.2.1) (h:Opn w rt a n):∀ {m:Nat},a < m→m≤n→lastIx rt w.2.1 m < (a:Int)
 | 0,h1,_=>by omega
 | m+1,h1,h2=>by
   unfold lastIx
   by_cases e:m=a
   ·rw [e,if_neg (fun e2=>hw (h.2.1.symm.trans e2))]
    exact lastIx_lt
   ·rw [if_neg (h.2.2 m (by omega) (by omega)).2]
    exact last_to hw h (by omega) (by omega)
def dnA (out:List VisT) (rt:List Int) (j:Nat):VisT:=(getI rt 0 j,(getI out Pl.tVisit.dflt j).2)
def dnL (out:List VisT) (rt:List Int) (n:Nat):List VisT:=(List.range n).map (dnA out rt)
theorem dn_get {out:List VisT} {rt:List Int} {n j:Nat} (h:j < n):getI (dnL out rt n) Fl.tVis.dflt j=dnA out rt j:=by
 unfold dnL
 simp [getI,List.getD,List.getElem?_map,List.getElem?_range h]
theorem dn_fst {out:List VisT} {rt:List Int}:(dnL out rt rt.length).map Prod.fst=rt:=by
 unfold dnL
 rw [List.map_map]
 refine List.ext_getElem (by simp) fun i h1 h2=>?_
 simp only [List.getElem_map,List.getElem_range,Function.comp_apply]
 show getI rt 0 i=_
 simp [getI,List.getD,List.getElem?_eq_getElem h2]
theorem dn_len {out:List VisT} {rt:List Int} {n:Nat}:(dnL out rt n).length=n:=by unfold dnL;rw [List.length_map,List.length_range]
theorem dn_take {out:List VisT} {rt:List Int} {n:Nat}:dnL out rt (n+1)=dnL out rt n++[dnA out rt n]:=by
 unfold dnL
 rw [List.range_succ,List.map_append]
 rfl
theorem dn_time {out:List VisT} {rt:List Int} {n:Nat} (h:∀ j,j < n→(0≤(getI out Pl.tVisit.dflt j).2.2.1∧(getI out Pl.tVisit.dflt j).2.2.1≤1000000)∧0≤(getI out Pl.tVisit.dflt j).2.2.2∧(getI out Pl.tVisit.dflt j).2.2.2≤1000000):TimeOk (dnL out rt n):=by
 intro v hv
 unfold dnL at hv
 obtain ⟨j,hj,rfl⟩:=List.mem_map.1 hv
 have hj:=h j (List.mem_range.1 hj)
 exact ⟨Fl.time_iff.2 hj.1,Fl.time_iff.2 hj.2⟩
theorem dn_late {mn mx:Int} {ss:List StepT} {ws:List WinT} (hv:Fl.validF mn mx ss ws=true) {out:List VisT} {rt:List Int} (h1:1≤rt.length) (ht:TimeOk (dnL out rt rt.length))
 (hk:∀ k,k < (winAll (linksF rt ws) ((0:Nat):Int) rt.length rt.length).length→∀ w:WiT,w=getI (winAll (linksF rt ws) ((0:Nat):Int) rt.length rt.length) tWin.dflt k→(0≤w.1∧w.1 < (rt.length:Int)∧0≤w.2.1∧w.2.1 < (rt.length:Int))∧(getI out Pl.tVisit.dflt w.2.1.toNat).2.2.1 - (getI out Pl.tVisit.dflt w.1.toNat).2.2.2≤w.2.2):lateQ (watL (dnL out rt rt.length) 0 ws)=[]:=by
 have e0:rt.length - 1+1 - 0=rt.length:=by omega
 refine Fl.kept_late hv (rt:=rt) (f:=0) (t:=rt.length - 1) ?_ (Nat.zero_le _) (by omega) (by rw [dn_len,e0]) ht ?_
 ·rw [dn_fst,List.drop_zero,show rt.length - 1+1=rt.length by omega,List.take_length]
 ·rw [e0]
  intro e he
  obtain ⟨k,hk1,hk2⟩:=Fl.mem_getI (d:=tWin.dflt) he
  obtain ⟨⟨a1,a2,a3,a4⟩,a5⟩:=hk k hk1 e hk2.symm
  rw [dn_get (show e.2.1.toNat < rt.length by omega),dn_get (show e.1.toNat < rt.length by omega)]
  exact a5
def sigWi:List (Nat × Spec):=[(5,saneS),(6,bookedS),(16,makeFS),(15,wide2S),(17,pickP),(18,reqS),(9,rvalidS),(11,makeS),
 (20,scenS),(19,Pl.runS),(21,lateS),(22,openS)]
theorem sigWiOk:SigOk Tryz.prog (look sigWi):=sigCons (sigCons (sigCons (sigCons (sigCons (sigCons (sigCons (sigCons (sigCons (sigCons (sigCons (sigCons sigNil
 Tryz.func22 (by kernel_rfl) (c:=body Tryz.f22) rfl openOk)
 Tryz.func21 (by kernel_rfl) (c:=body Tryz.f21) rfl lateOk)
 Tryz.func19 (by kernel_rfl) (c:=body Tryz.f19) rfl Pl.runOk)
 Tryz.func20 (by kernel_rfl) (c:=body Tryz.f20) rfl scenOk)
 Tryz.func11 (by kernel_rfl) (c:=body Tryz.f11) rfl makeOk)
 Tryz.func9 (by kernel_rfl) (c:=body Tryz.f9) rfl rvalidOk)
 Tryz.func18 (by kernel_rfl) (c:=body Tryz.f18) rfl reqOk)
 Tryz.func17 (by kernel_rfl) (c:=body Tryz.f17) rfl pickLOk)
 Tryz.func15 (by kernel_rfl) (c:=body Tryz.f15) rfl wide2Ok)
 Tryz.func16 (by kernel_rfl) (c:=body Tryz.f16) rfl makeFOk)
 Tryz.func6 (by kernel_rfl) (c:=body Tryz.f6) rfl bookedOk)
 Tryz.func5 (by kernel_rfl) (c:=body Tryz.f5) rfl saneOk
def lwiS:Spec:=plain fun
 | [.sl (.pair (.int .i64) (.pair (.int .i64) (.pair (.int .i64) (.int .i64)))) _,.sl (.pair (.int .i64) (.pair (.int .i64) (.pair (.int .i64) (.pair (.int .i64) (.pair (.int .i64) (.int .i64)))))) _,.sl (.pair (.int .i64) (.pair (.int .i64) (.int .i64))) _,.sl (.int .i64) _,.sl (.pair (.int .i64) (.pair (.int .i64) (.pair (.int .i64) (.pair (.int .i64) (.pair (.int .i64) (.int .i64)))))) _]=>outV True (.bool true)
 | _=>none
theorem lwiOk:SpecSound Tryz.prog 4 lwiS:=by
 refine soundP (envOf sigWiOk) Tryz.func4 (c:=body Tryz.f4) rfl (by kernel_rfl) rfl ?_
 intro args out hf hpre
 split at hf <;> try (cases hf;done)
 rename_i bk x w ch scs
 cases hf
 refine ⟨Nat.le_of_ble_eq_true rfl,initI (args:=[.sl t4 bk,.sl tS6 x,.sl tS3 w,.sl Fl.tInt ch,.sl tS6 scs]) rfl ?_⟩
 obtain ⟨c,hc⟩:∃ c,c=calOf bk:=⟨_,rfl⟩
 obtain ⟨hcg,hcl⟩:=calOf_good bk
 rw [← hc] at hcg hcl
 have hv:=wd_valid (k:=2) (by omega) (by omega) (x:=x) (w:=w)
 have F:=flow_sm hv
 have hpre2:(∀ i,i < (mkSs x).length→0 < (getI (mkSs x) tStep.dflt i).2.1.length∧0≤getI (getI (mkSs x) tStep.dflt i).2.1 0 0∧getI (getI (mkSs x) tStep.dflt i).2.1 0 0≤5)∧(mkSs x).length≤100:=by
  refine ⟨fun i hi=>?_,by rw [Fl.mkSs_len];have:=Fl.mkN_b (x:=x);omega⟩
  have hm:getI (mkSs x) tStep.dflt i∈mkSs x:=Fl.fl_mem hi
  have hsm:=(flow_sm (Fl.mk_valid (x:=x) (w:=w))).st _ hm
  unfold mkSs at hm
  obtain ⟨j,hj,he⟩:=List.mem_map.1 hm
  have ht:=mkTl0 (n:=(Fl.mkN x:Int)) (i:=j) (y:=getI x tS6.dflt j)
  have he:Fl.mkSt (Fl.mkN x) j (getI x tS6.dflt j)=getI (mkSs x) tStep.dflt i:=he
  rw [he] at ht
  exact ⟨hsm.tl.1,ht⟩
 repeat' (first|refine zN ?_|refine zE ?_|refine zP ?_|refine zS ?_|refine zO ?_|refine zB ?_|refine zX ?_|refine zT ?_|refine skipI rfl ?_)
 refine zR ?_
 repeat' (first|with_reducible refine pN ?_|refine pD ?_|fail)
 repeat with_reducible refine cN ?_
 repeat' (first|refine zN ?_|refine zE ?_|refine zP ?_|refine zS ?_|refine zO ?_|refine zB ?_|refine zX ?_|refine zT ?_|refine skipI rfl ?_)
 refine zR ?_
 repeat' (first|with_reducible refine pN ?_|refine pD ?_|fail)
 repeat with_reducible refine cN ?_
 repeat' (first|refine zN ?_|refine zE ?_|refine zP ?_|refine zS ?_|refine zO ?_|refine zB ?_|refine zX ?_|refine zT ?_|refine skipI rfl ?_)
 refine zR ?_
 repeat' (first|with_reducible refine pN ?_|refine pD ?_|fail)
 repeat with_reducible refine cN ?_
 rw [← hc]
 repeat' (first|refine zN ?_|refine zE ?_|refine zP ?_|refine zS ?_|refine zO ?_|refine zB ?_|refine zX ?_|refine zT ?_|refine skipI rfl ?_)
 refine zR ?_
 repeat' (first|with_reducible refine pN ?_|refine pD ?_|refine pC (by exact hpre2) ?_)
 repeat with_reducible refine cN ?_
 rw [show List.map (wdS 2) (mkSs x)=wdSs 2 x from rfl]
 have hsl:=wd_len (k:=2) (x:=x)
 have hwl4:=mkWs_len (x:=x) (w:=w)
 have hrvd:=fun (rt:List Int) (hin:Ins (wdSs 2 x) rt) (h1:1≤rt.length) (h4:rt.length≤4) (hW:(winAll (linksF rt (mkWs x w)) ((0:Nat):Int) rt.length rt.length).length≤20)=>req_rvalid (k:=2) (by omega) (by omega) hin (f:=0) h1 h4 (by omega) (e:=7) (by omega) hW
 generalize wdSs 2 x=ss at *
 generalize mkWs x w=ws at *
 repeat' (first|refine zN ?_|refine zE ?_|refine zP ?_|refine zS ?_|refine zO ?_|refine zB ?_|refine zX ?_|refine zT ?_|refine skipI rfl ?_)
 refine zR ?_
 repeat' (first|with_reducible refine pN ?_|refine pD ?_|fail)
 repeat with_reducible refine cN ?_
 repeat' (first|refine zN ?_|refine zE ?_|refine zP ?_|refine zS ?_|refine zO ?_|refine zB ?_|refine zX ?_|refine zT ?_|refine skipI rfl ?_)
 refine zR ?_
 repeat' (first|with_reducible refine pN ?_|refine pD ?_|fail)
 repeat with_reducible refine cN ?_
 repeat' (first|with_reducible refine cN ?_|refine zS ?_|fail)
 refine joinC (fun _:List Int=>[(15,.own 3000),(16,.junk)]) (fun R=>[(3000,.seq Fl.tInt R)]) (fun R=>Ins ss R∧1≤R.length∧R.length≤4) (fun _=>rfl) ?_ (fun R hR=>?_)
 ·repeat' (first|refine zN ?_|refine zE ?_|refine zP ?_|refine pD ?_|refine zS ?_|refine zR ?_|refine zO ?_|refine zB ?_|refine zX ?_|refine zT ?_|refine skipI rfl ?_)
  refine loopI (σ:=Nat × List Int) (fun z=>[(15,.own 3000),(16,.int .i64 z.1)]) (fun z=>[(3000,.seq Fl.tInt z.2)]) (fun z=>(z.1≤List.length (α:=Int) ch∧z.1 < z.2.length)∧Ins ss z.2∧1≤z.2.length∧z.2.length≤4) (fun z=>List.length (α:=Int) ch - z.1) (0,[0]) rfl (fun _=>rfl) rfl ?_ ?_ ?_
  ·exact ⟨⟨Nat.zero_le _,Nat.zero_lt_one⟩,fun s hs=>by rw [List.mem_singleton.1 hs];omega,Nat.le_refl _,by decide⟩
  ·repeat' (first|exact trivial|with_reducible exact rfl|refine And.intro ?_ ?_)
   all_goals rfl
  rintro ⟨i,R⟩ ⟨⟨hi,hiR⟩,hR,hR1,hR4⟩
  dsimp only at hi hiR hR hR1 hR4 ⊢
  have hRn:((List.length (α:=Int) R:Int) - 1).toNat=List.length (α:=Int) R - 1:=by omega
  repeat' (first|refine zN ?_|refine zE ?_|refine zP ?_|refine pD ?_|refine zS ?_|refine zR ?_|refine zO ?_|refine zB ?_|refine zX ?_|refine zT ?_|refine skipI rfl ?_)
  refine condI rfl (fun c1=>?_) (fun c1=>?_)
  ·simp only [Bool.and_eq_true,decide_eq_true_eq] at c1
   have hic:i < List.length (α:=Int) ch:=by omega
   have hii:((i:Int)).toNat=i:=by omega
   have hls:0≤getI (α:=Int) R 0 (List.length (α:=Int) R - 1)∧getI (α:=Int) R 0 (List.length (α:=Int) R - 1) < (List.length (α:=StepT) ss:Int):=hR _ (Fl.fl_mem (d:=(0:Int)) (show R.length - 1 < R.length by omega))
   have hl1:0≤getI R (Ty.dflt Fl.tInt) (List.length (α:=Int) R - 1):=hls.1
   have hl2:getI R (Ty.dflt Fl.tInt) (List.length (α:=Int) R - 1) < (List.length (α:=StepT) ss:Int):=hls.2
   have hst:=F.st _ (Fl.fl_mem (d:=tStep.dflt) (show (getI (α:=Int) R 0 (List.length (α:=Int) R - 1)).toNat < List.length (α:=StepT) ss by omega))
   repeat' (first|refine zN ?_|refine zE ?_|refine zP ?_|refine zS ?_|refine zO ?_|refine zB ?_|refine zX ?_|refine zT ?_|refine skipI rfl ?_)
   refine zR ?_
   repeat' (first|with_reducible refine pN ?_|refine pD ?_|refine pC (by first|(first|omega|(simp only [hRn];exact hl1)|(simp only [hRn];exact hl2)|(unfold In64;omega))) ?_)
   repeat with_reducible refine cN ?_
   simp only [hRn]
   obtain ⟨s,hs⟩:∃ s:StepT,s=getI ss tStep.dflt (getI R (Ty.dflt Fl.tInt) (List.length (α:=Int) R - 1)).toNat:=⟨_,rfl⟩
   rw [← hs]
   have hst:Fl.StepSm ss.length s:=by rw [hs];exact hst
   have hnl:List.length (α:=Int) s.2.2.2.2.1≤4:=hst.nl
   repeat' (first|refine zN ?_|refine zE ?_|refine zP ?_|refine zS ?_|refine zO ?_|refine zB ?_|refine zX ?_|refine zT ?_|refine skipI rfl ?_)
   refine zR ?_
   repeat' (first|with_reducible refine pN ?_|refine pD ?_|refine pC (by first|(first|omega|(simp only [List.length_nil];omega))) ?_)
   repeat with_reducible refine cN ?_
   rw [List.nil_append]
   repeat' (first|refine zN ?_|refine zE ?_|refine zP ?_|refine zS ?_|refine zO ?_|refine zB ?_|refine zX ?_|refine zT ?_|refine skipI rfl ?_)
   refine zR ?_
   repeat' (first|with_reducible refine pN ?_|refine pD ?_|fail)
   repeat with_reducible refine cN ?_
   repeat' (first|with_reducible refine cN ?_|refine zS ?_|fail)
   refine joinC (fun _:List Int=>[(18,.own 3100)]) (fun L=>[(3100,.seq Fl.tInt L)]) (fun L=>(∀ n∈L,0≤n∧n < (ss.length:Int))∧L.length≤5) (fun _=>rfl) ?_ (fun L hL=>?_)
   ·refine condI rfl (fun c2=>?_) (fun c2=>?_)
    ·have c2:=of_decide_eq_true c2
     repeat' (first|refine zN ?_|refine zE ?_|refine zP ?_|refine pD ?_|refine pC (by first|omega|(simp only [List.length_cons,List.length_nil];omega)) ?_|refine zS ?_|refine zR ?_|refine zO ?_|refine zB ?_|refine zX ?_|refine zT ?_|refine skipI rfl ?_)
     refine meetI (s.2.2.2.2.1++[s.2.2.2.2.2.1]) rfl ⟨fun n hn=>?_,by rw [List.length_append,List.length_singleton];omega⟩ ?_
     ·rcases List.mem_append.1 hn with hn|hn
      ·exact hst.nx n hn
      ·rw [List.mem_singleton.1 hn]
       have hb:=hst.bk
       unfold Fl.stBk at hb
       have c2:s.2.2.2.2.2.1≥0:=c2
       omega
     ·repeat' (first|exact trivial|with_reducible exact rfl|refine And.intro ?_ ?_)
    ·repeat' (first|refine zN ?_|refine zE ?_|refine zP ?_|refine pD ?_|refine zS ?_|refine zR ?_|refine zO ?_|refine zB ?_|refine zX ?_|refine zT ?_|refine skipI rfl ?_)
     refine meetI s.2.2.2.2.1 rfl ⟨fun n hn=>hst.nx n hn,by omega⟩ ?_
     repeat' (first|exact trivial|with_reducible exact rfl|refine And.intro ?_ ?_)
   obtain ⟨hLi,hLl⟩:=hL
   repeat' (first|refine zN ?_|refine zE ?_|refine zP ?_|refine pD ?_|refine zS ?_|refine zR ?_|refine zO ?_|refine zB ?_|refine zX ?_|refine zT ?_|refine skipI rfl ?_)
   refine condI rfl (fun c3=>?_) (fun c3=>?_)
   ·repeat' (first|refine zN ?_|refine zE ?_|refine zP ?_|refine pD ?_|refine zS ?_|refine zR ?_|refine zO ?_|refine zB ?_|refine zX ?_|refine zT ?_|refine skipI rfl ?_)
    refine meetI R rfl ⟨hR,hR1,hR4⟩ ?_
    repeat' (first|exact trivial|with_reducible exact rfl|refine And.intro ?_ ?_)
   ·have hL0:0 < List.length (α:=Int) L:=by simp at c3;exact List.length_pos_iff.2 c3
    have hpk:=pick_b (c:=getI ch (Ty.dflt Fl.tInt) i) (n:=(List.length (α:=Int) L:Int)) (by omega)
    repeat' (first|refine zN ?_|refine zE ?_|refine zP ?_|refine zS ?_|refine zO ?_|refine zB ?_|refine zX ?_|refine zT ?_|refine skipI rfl ?_)
    refine zR ?_
    repeat' (first|with_reducible refine pN ?_|refine pD ?_|refine pC (by first|(first|omega|(simp only [hii];omega)|(simp only [List.length_cons,List.length_nil];omega))) ?_)
    repeat with_reducible refine cN ?_
    simp only [hii]
    obtain ⟨nx,hnx⟩:∃ nx:Int,nx=getI L (Ty.dflt Fl.tInt) (pickF (getI ch (Ty.dflt Fl.tInt) i) (List.length (α:=Int) L:Int)).toNat:=⟨_,rfl⟩
    rw [← hnx]
    have hni:0≤nx∧nx < (ss.length:Int):=by rw [hnx];exact hLi _ (Fl.fl_mem (d:=(0:Int)) (by omega))
    repeat' (first|refine zN ?_|refine zE ?_|refine zP ?_|refine pD ?_|refine zS ?_|refine zR ?_|refine zO ?_|refine zB ?_|refine zX ?_|refine zT ?_|refine skipI rfl ?_)
    refine roundI (i+1,R++[nx]) rfl ?_ ?_ ?_
    ·refine ⟨⟨by show i+1≤_;omega,by show i+1 < (R++[nx]).length;rw [List.length_append,List.length_singleton];omega⟩,fun y hy=>?_,by rw [List.length_append];omega,by show (R++[nx]).length≤4;rw [List.length_append,List.length_singleton];omega⟩
     rcases List.mem_append.1 hy with hy|hy
     ·exact hR y hy
     ·rw [List.mem_singleton.1 hy];exact hni
    ·show List.length (α:=Int) ch - (i+1) < List.length (α:=Int) ch - i
     omega
    ·repeat' (first|exact trivial|with_reducible exact rfl|refine And.intro ?_ ?_)
     all_goals rfl
  ·repeat' (first|refine zN ?_|refine zE ?_|refine zP ?_|refine pD ?_|refine zS ?_|refine zR ?_|refine zO ?_|refine zB ?_|refine zX ?_|refine zT ?_|refine skipI rfl ?_)
   refine meetI R rfl ⟨hR,hR1,hR4⟩ ?_
   repeat' (first|exact trivial|with_reducible exact rfl|refine And.intro ?_ ?_)
 obtain ⟨hRi,hR1,hR4⟩:=hR
 refine freezeI 3000 rfl ?_
 obtain ⟨n,hn⟩:∃ n,n=R.length:=⟨_,rfl⟩
 have hWl:(winAll (linksF R ws) ((0:Nat):Int) R.length R.length).length≤20:=by
  have h9:=Fl.winAll_ws (fun u hu=>Fl.win_ne F hu) (rt:=R) (f:=((0:Nat):Int)) (n:=R.length) (k:=R.length)
  have h8:R.length * ws.length≤4 * 4:=Nat.mul_le_mul hR4 hwl4
  omega
 have hrv:=hrvd R hRi hR1 hR4 hWl
 have hRn:((R.length:Int) - 1 - 0+1).toNat=R.length:=by omega
 have hB:reqB 2 5 ss ws R 0 ((R.length:Int) - 1) 7=true:=by
  have h1:lineB 2 5 ss ws R=true:=by
   unfold lineB
   rw [hv,show R.any (Fl.badN ss.length)=false by
    rw [List.any_eq_false]
    intro y hy
    have:=hRi y hy
    unfold Fl.badN
    rw [decide_eq_false (by omega),decide_eq_false (by omega)]
    exact Bool.false_ne_true]
   rfl
  have h2:argB R 0 ((R.length:Int) - 1) 7=true:=by
   unfold argB hasB
   simp only [Bool.and_eq_true,decide_eq_true_eq]
   omega
  have h3:decide ((reqW R ws 0 ((R.length:Int) - 1)).length≤20)=true:=by
   unfold reqW
   rw [hRn]
   exact decide_eq_true hWl
  unfold reqB
  rw [h1,h2,h3]
  rfl
 have e1:reqF 2 5 ss ws R 0 ((R.length:Int) - 1) 7=(7,2,5,needsF ss R ((0:Nat):Int) R.length,winAll (linksF R ws) ((0:Nat):Int) R.length R.length):=by unfold reqF reqW;rw [hB,hRn];rfl
 have e2:reqE 2 5 ss ws R 0 ((R.length:Int) - 1) 7=0:=by unfold reqE;rw [hB];rfl
 have hnl:(needsF ss R ((0:Nat):Int) R.length).length=R.length:=by unfold needsF;rw [List.length_map,List.length_range]
 have hlate:=fun (out:List VisT)=>dn_late hv (out:=out) hR1
 have hopen:=fun (l:List VisT) (h:TimeOk l) (d:Int × Int) (hd:d∈openQ (watL l 0 ws))=>Fl.open_at hv h hd
 repeat' (first|refine zN ?_|refine zE ?_|refine zP ?_|refine zS ?_|refine zO ?_|refine zB ?_|refine zX ?_|refine zT ?_|refine skipI rfl ?_)
 refine zR ?_
 repeat' (first|with_reducible refine pN ?_|refine pD ?_|fail)
 repeat with_reducible refine cN ?_
 rw [e1,e2]
 dsimp only
 generalize needsF ss R ((0:Nat):Int) R.length=ns at *
 generalize winAll (linksF R ws) ((0:Nat):Int) R.length R.length=W at *
 repeat' (first|refine zN ?_|refine zE ?_|refine zP ?_|refine zS ?_|refine zO ?_|refine zB ?_|refine zX ?_|refine zT ?_|refine skipI rfl ?_)
 refine zR ?_
 repeat' (first|with_reducible refine pN ?_|refine pD ?_|refine pC (by exact ⟨by omega,by omega⟩) ?_)
 repeat with_reducible refine cN ?_
 rw [hrv]
 refine condF rfl ?_
 repeat' (first|with_reducible refine cN ?_|refine zS ?_|refine skipI rfl ?_)
 repeat' (first|refine zN ?_|refine zE ?_|refine zP ?_|refine zS ?_|refine zO ?_|refine zB ?_|refine zX ?_|refine zT ?_|refine skipI rfl ?_)
 refine zR ?_
 repeat' (first|with_reducible refine pN ?_|refine pD ?_|refine pC (by (show (CalG c∧lenF c≤800000)∧ns.length≤1000000∧W.length≤1000000;exact ⟨⟨hcg,by omega⟩,by omega,by omega⟩)) ?_)
 repeat with_reducible refine cN ?_
 cases ho:makeG c 7 2 5 ns W with
 | none =>
   repeat' (first|refine zN ?_|refine zE ?_|refine zP ?_|refine pD ?_|refine zS ?_|refine zR ?_|refine zO ?_|refine zB ?_|refine zX ?_|refine zT ?_|refine skipI rfl ?_)
   refine condT rfl ?_
   repeat' (first|refine zN ?_|refine zE ?_|refine zP ?_|refine pD ?_|refine zS ?_|refine zR ?_|refine zO ?_|refine zB ?_|refine zX ?_|refine zT ?_|refine skipI rfl ?_)
   refine endR rfl ?_
   repeat' (first|exact trivial|exact rfl|refine ⟨rfl,?_⟩|refine And.intro ?_ ?_)
 | some y =>
   have m:=made hcg ho
   obtain ⟨xs,ov⟩:=y
   dsimp only at m
   have hxl:xs.length=R.length:=by rw [m.len];exact hnl
   have hx6:xs.length≤1000000:=by omega
   refine tidyI [(22,.int .i64 0)] [(21,.box [.int .i64 7,.int .i64 2,.int .i64 5,.sl tStage xs,.sl tWin W])] rfl rfl ?_ ?_
   ·repeat' (first|exact trivial|exact rfl|refine ⟨rfl,?_⟩|refine And.intro ?_ ?_)
   repeat' (first|refine zN ?_|refine zE ?_|refine zP ?_|refine pD ?_|refine zS ?_|refine zR ?_|refine zO ?_|refine zB ?_|refine zX ?_|refine zT ?_|refine skipI rfl ?_)
   refine condF rfl ?_
   repeat' (first|with_reducible refine cN ?_|refine zS ?_|refine skipI rfl ?_)
   repeat' (first|refine zN ?_|refine zE ?_|refine zP ?_|refine pD ?_|refine zS ?_|refine zR ?_|refine zO ?_|refine zB ?_|refine zX ?_|refine zT ?_|refine skipI rfl ?_)
   refine loopI (σ:=Nat) (fun i=>[(23,.int .i64 i)]) (fun i=>[]) (fun i=>i≤6) (fun i=>6 - i) 0 rfl (fun _=>rfl) rfl ?_ ?_ ?_
   ·exact Nat.zero_le _
   ·repeat' (first|exact trivial|with_reducible exact rfl|refine And.intro ?_ ?_)
    all_goals rfl
   intro i hi
   repeat' (first|refine zN ?_|refine zE ?_|refine zP ?_|refine pD ?_|refine zS ?_|refine zR ?_|refine zO ?_|refine zB ?_|refine zX ?_|refine zT ?_|refine skipI rfl ?_)
   refine condI rfl (fun c1=>?_) (fun c1=>?_)
   ·simp only [Bool.and_eq_true,decide_eq_true_eq] at c1
    have hil:i < scs.length:=by omega
    have hin:((i:Int)).toNat=i:=by omega
    obtain ⟨z,hz⟩:∃ z:Int6,z=getI scs tS6.dflt i:=⟨_,rfl⟩
    have hz':getI scs tS6.dflt ((i:Int)).toNat=z:=by rw [hin];exact hz.symm
    repeat' (first|refine zN ?_|refine zE ?_|refine zP ?_|refine zS ?_|refine zO ?_|refine zB ?_|refine zX ?_|refine zT ?_|refine skipI rfl ?_)
    refine zR ?_
    repeat' (first|with_reducible refine pN ?_|refine pD ?_|refine pC (by first|(simp only [hin];omega)|exact m.valid|exact hx6) ?_)
    repeat with_reducible refine cN ?_
    simp only [hz']
    obtain ⟨du,hdu⟩:∃ du,du=duL xs z.1:=⟨_,rfl⟩
    obtain ⟨mo,hmo⟩:∃ mo,mo=moL 2 5 z.2.1 xs.length:=⟨_,rfl⟩
    obtain ⟨de,hde⟩:∃ de,de=2+pickF z.2.2.1 (5 - 2+1):=⟨_,rfl⟩
    obtain ⟨tl,htl⟩:∃ tl,tl=scT xs z.2.2.2.1 z.2.2.2.2.1:=⟨_,rfl⟩
    obtain ⟨fa,hfa⟩:∃ fa,fa=scF xs z.2.2.2.1 z.2.2.2.2.2:=⟨_,rfl⟩
    have hp:=scen_poss m.valid z.1 z.2.1 z.2.2.1 z.2.2.2.1 z.2.2.2.2.1 z.2.2.2.2.2
    rw [← hdu,← hmo,← hde,← htl,← hfa] at hp
    have C:=Pl.poss_facts hp
    obtain ⟨out,hr,hol,hvk⟩:=run_never m.safe hp
    have hvw:=(vis_win (out:=out) m.safe C hvk).2
    have hvt:=vis_time (out:=out) C hvk
    simp only [← hdu,← hmo,← hde,← htl,← hfa,hr]
    have hoR:out.length=R.length:=by omega
    have htm:TimeOk (dnL out R R.length):=dn_time (fun j hj=>hvt j (by omega))
    have hla:=hlate out htm (fun k hk w hw=>by
     obtain ⟨⟨a1,a2,a3,a4⟩,a5⟩:=hvw k hk w hw
     exact ⟨⟨a1,by omega,a3,by omega⟩,a5⟩)
    have hop:=hopen _ htm
    have hv1:∀ j,j < out.length→(getI out Pl.tVisit.dflt j).1=(j:Int):=fun j hj=>(hvk j (by omega)).1
    repeat' (first|refine zN ?_|refine zE ?_|refine zP ?_|refine pD ?_|refine zS ?_|refine zR ?_|refine zO ?_|refine zB ?_|refine zX ?_|refine zT ?_|refine skipI rfl ?_)
    refine condI rfl (fun c2=>?_) (fun c2=>?_)
    ·exfalso
     simp [hoR] at c2
    repeat' (first|refine zN ?_|refine zE ?_|refine zP ?_|refine pD ?_|refine zS ?_|refine zR ?_|refine zO ?_|refine zB ?_|refine zX ?_|refine zT ?_|refine skipI rfl ?_)
    refine loopI (σ:=Nat) (fun k=>[(27,.own 4000),(28,.int .i64 k)]) (fun k=>[(4000,.seq Fl.tVis (dnL out R k))]) (fun k=>k≤out.length) (fun k=>out.length - k) 0 rfl (fun _=>rfl) rfl ?_ ?_ ?_
    ·exact Nat.zero_le _
    ·repeat' (first|exact trivial|with_reducible exact rfl|refine And.intro ?_ ?_)
     all_goals rfl
    intro k hk
    repeat' (first|refine zN ?_|refine zE ?_|refine zP ?_|refine pD ?_|refine zS ?_|refine zR ?_|refine zO ?_|refine zB ?_|refine zX ?_|refine zT ?_|refine skipI rfl ?_)
    refine condI rfl (fun c3=>?_) (fun c3=>?_)
    ·simp only [decide_eq_true_eq] at c3
     have hkl:k < out.length:=by omega
     have hkn:((k:Int)).toNat=k:=by omega
     have hk1:=hv1 k hkl
     repeat' (first|refine zN ?_|refine zE ?_|refine zP ?_|refine zS ?_|refine zO ?_|refine zB ?_|refine zX ?_|refine zT ?_|refine skipI rfl ?_)
     refine zR ?_
     repeat' (first|with_reducible refine pN ?_|refine pD ?_|refine pC (by (simp only [hkn];omega)) ?_)
     repeat with_reducible refine cN ?_
     simp only [hkn]
     obtain ⟨v,hvv⟩:∃ v:VisT,v=getI out Pl.tVisit.dflt k:=⟨_,rfl⟩
     rw [← hvv] at hk1 ⊢
     repeat' (first|refine zN ?_|refine zE ?_|refine zP ?_|refine pD ?_|refine zS ?_|refine zR ?_|refine zO ?_|refine zB ?_|refine zX ?_|refine zT ?_|refine skipI rfl ?_)
     refine condI rfl (fun c4=>?_) (fun c4=>?_)
     ·exfalso
      simp [hk1] at c4
     ·have hdl:(dnL out R k).length=k:=dn_len
      repeat' (first|refine zN ?_|refine zE ?_|refine zP ?_|refine pD ?_|refine pC (by first|omega|(simp only [hkn];omega)|(simp only [hdl,List.length_cons,List.length_nil];omega)) ?_|refine zS ?_|refine zR ?_|refine zO ?_|refine zB ?_|refine zX ?_|refine zT ?_|refine skipI rfl ?_)
      refine roundI (k+1) rfl ?_ ?_ ?_
      ·show k+1≤out.length
       omega
      ·show out.length - (k+1) < out.length - k
       omega
      ·repeat' (first|exact trivial|with_reducible exact rfl|refine And.intro ?_ ?_)
       all_goals (first|rfl|(rw [dn_take];unfold dnA;simp only [hkn,← hvv];rfl))
    ·have hke:k=List.length (α:=Int) R:=by simp only [decide_eq_false_iff_not] at c3;omega
     rw [hke]
     refine freezeI 4000 rfl ?_
     have hdf:=dn_fst (out:=out) (rt:=R)
     have hdl:=dn_len (out:=out) (rt:=R) (n:=R.length)
     generalize dnL out R (List.length (α:=Int) R)=l at *
     have ew:watA 2 5 ss ws l=watL l 0 ws:=by unfold watA;rw [hv];rfl
     repeat' (first|refine zN ?_|refine zE ?_|refine zP ?_|refine zS ?_|refine zO ?_|refine zB ?_|refine zX ?_|refine zT ?_|refine skipI rfl ?_)
     refine zR ?_
     repeat' (first|with_reducible refine pN ?_|refine pD ?_|fail)
     repeat with_reducible refine cN ?_
     rw [ew,hla]
     repeat' (first|refine zN ?_|refine zE ?_|refine zP ?_|refine pD ?_|refine zS ?_|refine zR ?_|refine zO ?_|refine zB ?_|refine zX ?_|refine zT ?_|refine skipI rfl ?_)
     refine condI rfl (fun c5=>?_) (fun c5=>?_)
     ·exact absurd c5 (by decide)
     repeat' (first|refine zN ?_|refine zE ?_|refine zP ?_|refine zS ?_|refine zO ?_|refine zB ?_|refine zX ?_|refine zT ?_|refine skipI rfl ?_)
     refine zR ?_
     repeat' (first|with_reducible refine pN ?_|refine pD ?_|fail)
     repeat with_reducible refine cN ?_
     rw [ew]
     refine freezeI (key 190 0) rfl ?_
     rw [hdf,hdl] at hop
     have hDl:List.length (α:=Int × Int) (openQ (watL l 0 ws))≤4:=by
      have h1:=Fl.openQ_len (q:=watL l 0 ws)
      have h2:(watL l 0 ws).length=ws.length:=Fl.watL_len
      omega
     generalize openQ (watL l 0 ws)=D at *
     repeat' (first|refine zN ?_|refine zE ?_|refine zP ?_|refine pD ?_|refine zS ?_|refine zR ?_|refine zO ?_|refine zB ?_|refine zX ?_|refine zT ?_|refine skipI rfl ?_)
     refine loopI (σ:=Nat) (fun k=>[(31,.int .i64 k)]) (fun k=>[]) (fun k=>k≤List.length (α:=Int × Int) D) (fun k=>List.length (α:=Int × Int) D - k) 0 rfl (fun _=>rfl) rfl ?_ ?_ ?_
     ·exact Nat.zero_le _
     ·repeat' (first|exact trivial|with_reducible exact rfl|refine And.intro ?_ ?_)
      all_goals rfl
     intro k hk
     repeat' (first|refine zN ?_|refine zE ?_|refine zP ?_|refine pD ?_|refine zS ?_|refine zR ?_|refine zO ?_|refine zB ?_|refine zX ?_|refine zT ?_|refine skipI rfl ?_)
     refine condI rfl (fun c6=>?_) (fun c6=>?_)
     ·simp only [decide_eq_true_eq] at c6
      have hkl:k < List.length (α:=Int × Int) D:=by omega
      have hk4:k < 4:=by omega
      have hkn:((k:Int)).toNat=k:=by omega
      obtain ⟨d,hd⟩:∃ d:Int × Int,d=getI D (Ty.pair Fl.tInt Fl.tInt).dflt k:=⟨_,rfl⟩
      obtain ⟨q,hq1,hq2,a,hopn⟩:=hop d (by rw [hd];exact Fl.fl_mem hkl)
      have hqn:d.1.toNat=q:=by omega
      obtain ⟨w,hw⟩:∃ w:WinT,w=getI ws Fl.tWin.dflt q:=⟨_,rfl⟩
      have hwm:w∈ws:=by rw [hw];exact Fl.fl_mem hq2
      have hne:=Fl.win_ne F hwm
      rw [← hw] at hopn
      have hlf:=last_from hopn (m:=R.length) hopn.1 (Nat.le_refl _)
      have hlt:=last_to hne hopn (m:=R.length) hopn.1 (Nat.le_refl _)
      repeat' (first|refine zN ?_|refine zE ?_|refine zP ?_|refine pD ?_|refine zS ?_|refine zR ?_|refine zO ?_|refine zB ?_|refine zX ?_|refine zT ?_|refine skipI rfl ?_)
      refine loopI (σ:=Nat) (fun m=>[(32,.int .i64 (lastIx R w.1 m)),(33,.int .i64 (lastIx R w.2.1 m)),(34,.int .i64 m)]) (fun m=>[]) (fun m=>m≤List.length (α:=Int) R) (fun m=>List.length (α:=Int) R - m) 0 rfl (fun _=>rfl) rfl ?_ ?_ ?_
      ·exact Nat.zero_le _
      ·repeat' (first|exact trivial|with_reducible exact rfl|refine And.intro ?_ ?_)
       all_goals rfl
      intro m hm
      repeat' (first|refine zN ?_|refine zE ?_|refine zP ?_|refine pD ?_|refine zS ?_|refine zR ?_|refine zO ?_|refine zB ?_|refine zX ?_|refine zT ?_|refine skipI rfl ?_)
      refine condI rfl (fun c7=>?_) (fun c7=>?_)
      ·simp only [decide_eq_true_eq] at c7
       have hml:m < List.length (α:=Int) R:=by omega
       have hmn:((m:Int)).toNat=m:=by omega
       have l1:lastIx R w.1 (m+1)=if getI (α:=Int) R 0 m=w.1 then (m:Int) else lastIx R w.1 m:=rfl
       have l2:lastIx R w.2.1 (m+1)=if getI (α:=Int) R 0 m=w.2.1 then (m:Int) else lastIx R w.2.1 m:=rfl
       repeat' (first|refine zN ?_|refine zE ?_|refine zP ?_|refine zS ?_|refine zO ?_|refine zB ?_|refine zX ?_|refine zT ?_|refine skipI rfl ?_)
       refine zR ?_
       repeat' (first|with_reducible refine pN ?_|refine pD ?_|refine pC (by (simp only [hkn,hmn,← hd,hqn];omega)) ?_)
       repeat with_reducible refine cN ?_
       simp only [hkn,hmn,← hd,hqn,← hw]
       refine condI rfl (fun c8=>?_) (fun c8=>?_)
       ·have c8:getI (α:=Int) R 0 m=w.1:=of_decide_eq_true c8
        repeat' (first|refine zN ?_|refine zE ?_|refine zP ?_|refine zS ?_|refine zO ?_|refine zB ?_|refine zX ?_|refine zT ?_|refine skipI rfl ?_)
        refine zR ?_
        repeat' (first|with_reducible refine pN ?_|refine pD ?_|fail)
        repeat with_reducible refine cN ?_
        repeat' (first|refine zN ?_|refine zE ?_|refine zP ?_|refine zS ?_|refine zO ?_|refine zB ?_|refine zX ?_|refine zT ?_|refine skipI rfl ?_)
        refine zR ?_
        repeat' (first|with_reducible refine pN ?_|refine pD ?_|refine pC (by (simp only [hkn,hmn,← hd,hqn];omega)) ?_)
        repeat with_reducible refine cN ?_
        simp only [hkn,hmn,← hd,hqn,← hw]
        refine condI rfl (fun c9=>?_) (fun c9=>?_)
        ·have c9:getI (α:=Int) R 0 m=w.2.1:=of_decide_eq_true c9
         repeat' (first|refine zN ?_|refine zE ?_|refine zP ?_|refine pD ?_|refine zS ?_|refine zR ?_|refine zO ?_|refine zB ?_|refine zX ?_|refine zT ?_|refine skipI rfl ?_)
         refine roundI (m+1) rfl ?_ ?_ ?_
         ·show m+1≤List.length (α:=Int) R
          omega
         ·show List.length (α:=Int) R - (m+1) < List.length (α:=Int) R - m
          omega
         ·rw [l1,l2,if_pos c8,if_pos c9]
          repeat' (first|exact trivial|with_reducible exact rfl|refine And.intro ?_ ?_)
          all_goals rfl
        ·have c9:¬ getI (α:=Int) R 0 m=w.2.1:=of_decide_eq_false c9
         repeat' (first|refine zN ?_|refine zE ?_|refine zP ?_|refine pD ?_|refine zS ?_|refine zR ?_|refine zO ?_|refine zB ?_|refine zX ?_|refine zT ?_|refine skipI rfl ?_)
         refine roundI (m+1) rfl ?_ ?_ ?_
         ·show m+1≤List.length (α:=Int) R
          omega
         ·show List.length (α:=Int) R - (m+1) < List.length (α:=Int) R - m
          omega
         ·rw [l1,l2,if_pos c8,if_neg c9]
          repeat' (first|exact trivial|with_reducible exact rfl|refine And.intro ?_ ?_)
          all_goals rfl
       ·have c8:¬ getI (α:=Int) R 0 m=w.1:=of_decide_eq_false c8
        repeat' (first|refine zN ?_|refine zE ?_|refine zP ?_|refine zS ?_|refine zO ?_|refine zB ?_|refine zX ?_|refine zT ?_|refine skipI rfl ?_)
        refine zR ?_
        repeat' (first|with_reducible refine pN ?_|refine pD ?_|refine pC (by (simp only [hkn,hmn,← hd,hqn];omega)) ?_)
        repeat with_reducible refine cN ?_
        simp only [hkn,hmn,← hd,hqn,← hw]
        refine condI rfl (fun c9=>?_) (fun c9=>?_)
        ·have c9:getI (α:=Int) R 0 m=w.2.1:=of_decide_eq_true c9
         repeat' (first|refine zN ?_|refine zE ?_|refine zP ?_|refine pD ?_|refine zS ?_|refine zR ?_|refine zO ?_|refine zB ?_|refine zX ?_|refine zT ?_|refine skipI rfl ?_)
         refine roundI (m+1) rfl ?_ ?_ ?_
         ·show m+1≤List.length (α:=Int) R
          omega
         ·show List.length (α:=Int) R - (m+1) < List.length (α:=Int) R - m
          omega
         ·rw [l1,l2,if_neg c8,if_pos c9]
          repeat' (first|exact trivial|with_reducible exact rfl|refine And.intro ?_ ?_)
          all_goals rfl
        ·have c9:¬ getI (α:=Int) R 0 m=w.2.1:=of_decide_eq_false c9
         repeat' (first|refine zN ?_|refine zE ?_|refine zP ?_|refine pD ?_|refine zS ?_|refine zR ?_|refine zO ?_|refine zB ?_|refine zX ?_|refine zT ?_|refine skipI rfl ?_)
         refine roundI (m+1) rfl ?_ ?_ ?_
         ·show m+1≤List.length (α:=Int) R
          omega
         ·show List.length (α:=Int) R - (m+1) < List.length (α:=Int) R - m
          omega
         ·rw [l1,l2,if_neg c8,if_neg c9]
          repeat' (first|exact trivial|with_reducible exact rfl|refine And.intro ?_ ?_)
          all_goals rfl
      ·have hme:m=List.length (α:=Int) R:=by simp only [decide_eq_false_iff_not] at c7;omega
       rw [hme,hlf]
       repeat' (first|refine zN ?_|refine zE ?_|refine zP ?_|refine pD ?_|refine zS ?_|refine zR ?_|refine zO ?_|refine zB ?_|refine zX ?_|refine zT ?_|refine skipI rfl ?_)
       refine condI rfl (fun c10=>?_) (fun c10=>?_)
       ·exfalso
        have c10:(a:Int) < lastIx R w.2.1 R.length:=of_decide_eq_true c10
        omega
       repeat' (first|refine zN ?_|refine zE ?_|refine zP ?_|refine pD ?_|refine zS ?_|refine zR ?_|refine zO ?_|refine zB ?_|refine zX ?_|refine zT ?_|refine skipI rfl ?_)
       refine roundI (k+1) rfl ?_ ?_ ?_
       ·show k+1≤List.length (α:=Int × Int) D
        omega
       ·show List.length (α:=Int × Int) D - (k+1) < List.length (α:=Int × Int) D - k
        omega
       ·repeat' (first|exact trivial|with_reducible exact rfl|refine And.intro ?_ ?_)
        all_goals rfl
     ·repeat' (first|refine zN ?_|refine zE ?_|refine zP ?_|refine pD ?_|refine zS ?_|refine zR ?_|refine zO ?_|refine zB ?_|refine zX ?_|refine zT ?_|refine skipI rfl ?_)
      refine roundI (i+1) rfl ?_ ?_ ?_
      ·show i+1≤6
       omega
      ·show 6 - (i+1) < 6 - i
       omega
      ·repeat' (first|exact trivial|with_reducible exact rfl|refine And.intro ?_ ?_)
       all_goals rfl
   ·repeat' (first|refine zN ?_|refine zE ?_|refine zP ?_|refine pD ?_|refine zS ?_|refine zR ?_|refine zO ?_|refine zB ?_|refine zX ?_|refine zT ?_|refine skipI rfl ?_)
    refine endR rfl ?_
    repeat' (first|exact trivial|exact rfl|refine ⟨rfl,?_⟩|refine And.intro ?_ ?_)
end Go.AM.YtmohhhbgcehnpaaGreat.Re
