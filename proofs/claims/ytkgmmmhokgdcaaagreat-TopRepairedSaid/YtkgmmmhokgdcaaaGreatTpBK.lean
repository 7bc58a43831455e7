/- The theorem TopRepaired: her function. -/
import Derived.Test.YtkgmmmhokgdcaaaGreatTpAK
import Derived.Test.YtkgmmmhokgdcaaaGreatPa31
import Derived.Test.YtkgmmmhokgdcaaaGreatReWK
import Derived.Test.YtkgmmmhokgdcaaaGreatReYK
import Derived.Test.YtkgmmmhokgdcaaaGreatWkRunK
set_option linter.all false
namespace Go.AM.YtkgmmmhokgdcaaaGreat.Tp
open Go.Proofs
open Go.AM.YtkgmmmhokgdcaaaGreat.Re
set_option maxRecDepth 100000
set_option maxHeartbeats 8000000
abbrev VisT:=Int × Int × Int × Int
theorem chosen0 {e a b:Int} {xs:List StT} {ws:List WiT} (hv:Pl.validF e a b xs ws=true) (y:List (Int × Int)) :
    Pl.possF e a b xs ws (Pl.cDu xs y xs.length) (Pl.cMo a b y xs.length) (Pl.cDe a b y) (Pl.cTl xs 0) (Pl.cFa xs 0 0)=true:=by
  have F:=Pl.valid_facts hv
  have h:¬ 0 < Pl.pickF 0 4:=by decide
  refine Pl.poss_of hv (Pl.cDu_len _) (Pl.cMo_len _) (Pl.cDe_b F y) (Pl.chosen_at F y) (.inl ⟨?_,?_⟩)
  · unfold Pl.cTl;rw [if_neg h]
  · unfold Pl.cFa;rw [if_neg h]
theorem vis_key {e a b:Int} {xs:List tStage.El} {ws:List tWin.El} {du mo:List Int} {de tl fa:Int} (hs:safeF e a b xs ws=true) (C:Pl.Chance e a b xs ws du mo de tl fa) {out:List VisT} (hv:∀ j,j < xs.length→VisOk xs du tl fa j (getI out Pl.tVisit.dflt j)) :
    ∀ j,j < xs.length→∀ x:StT,x=getI xs tStage.dflt j→∀ v:VisT,v=getI out Pl.tVisit.dflt j→(mSt x≤v.2.2.1∧v.2.2.1≤sSt x)∧(mSt x+sMin x≤v.2.2.2)∧(0≤v.2.2.1∧v.2.2.1≤1000000)∧0≤v.2.2.2∧v.2.2.2≤2000000:=by
  unfold safeF at hs
  simp only [Bool.and_eq_true,Bool.not_eq_true'] at hs
  obtain ⟨⟨hv1,hs1⟩,hs2⟩:=hs
  unfold slotsF at hs1
  rw [List.any_cons,Bool.or_eq_false_iff] at hs1
  obtain ⟨mg1,_⟩:=slotsG_mg hs1.2
  have hab:=C.ab
  intro j hj x hx v hvv
  have h1:=hv j hj
  rw [← hvv] at h1
  obtain ⟨_,v2,v3⟩:=h1
  rw [← hx] at v3
  have hg:=mg1 j hj
  rw [← hx] at hg
  unfold Mg1 at hg
  have hst:=C.st j hj
  unfold Pl.StOk at hst
  have hat:=C.at' j hj
  unfold Pl.AtOk at hat
  have a1:sMin x≤getI du 0 j:=by rw [hx];exact hat.1.1
  have a2:getI du 0 j≤sMax x:=by rw [hx];exact hat.1.2
  have a3:1≤sMin x:=by rw [hx];exact hst.1.1
  have a4:0≤mSt x:=by rw [hx];exact hst.2.1.2.2.1
  have a5:sSt x≤1000000 - sMax x:=by rw [hx];exact hst.2.2.1.2.2.2
  have a6:sMax x≤10000:=by rw [hx];exact hst.1.2.2
  rcases v3 with ⟨_,h6,_⟩|⟨_,h6,_⟩ <;> refine ⟨⟨by omega,by omega⟩,by omega,⟨by omega,by omega⟩,by omega,by omega⟩
theorem calT_own {x:List t4.El} {o:Int} (h:o≠90):ownedF (calT x) o=[]:=by
  unfold calT
  rw [owned_all noCal_good (fun b hb=>?_)]
  · clear h
    unfold ownedF
    rw [show noCal.flatten=[] by rfl]
    rfl
  · unfold bksT at hb
    obtain ⟨c,_,rfl⟩:=List.mem_map.1 hb
    unfold ownsB own90
    exact decide_eq_false (fun e=>h e.symm)
theorem cnt5 {c:CalT} (hc:CalG c) {xs:List StT} {ow:Int} (h0:ownedF c ow=[]) (hf:allFree c (bks xs ow)=true):(ownedF (bookAll (bks xs ow) c) ow).length=2 * xs.length:=by
  rw [owned_len,(all_book hc hf).2.2,bks_cnt,← owned_len,h0]
  simp
def sigTr:List (Nat × Spec):=[(6,awakeS),(11,pickP),(7,bookedTS),(8,mkReqS),(9,makeS),(10,reBookS),(15,repairS),
  (13,Pl.chosenS),(12,Pl.runS),(14,ownedS),(16,checkS)]
theorem sigTrOk:SigOk Tryz.prog (look sigTr):=sigCons (sigCons (sigCons (sigCons (sigCons (sigCons (sigCons (sigCons (sigCons (sigCons (sigCons sigNil
  Tryz.func16 (by kernel_rfl) (c:=body Tryz.f16) rfl checkOk)
  Tryz.func14 (by kernel_rfl) (c:=body Tryz.f14) rfl ownedOk)
  Tryz.func12 (by kernel_rfl) (c:=body Tryz.f12) rfl Pl.runOk)
  Tryz.func13 (by kernel_rfl) (c:=body Tryz.f13) rfl Pl.chosenOk)
  Tryz.func15 (by kernel_rfl) (c:=body Tryz.f15) rfl repairOk)
  Tryz.func10 (by kernel_rfl) (c:=body Tryz.f10) rfl reBookOk)
  Tryz.func9 (by kernel_rfl) (c:=body Tryz.f9) rfl makeOk)
  Tryz.func8 (by kernel_rfl) (c:=body Tryz.f8) rfl mkReqOk)
  Tryz.func7 (by kernel_rfl) (c:=body Tryz.f7) rfl bookedTOk)
  Tryz.func11 (by kernel_rfl) (c:=body Tryz.f11) rfl pickTOk)
  Tryz.func6 (by kernel_rfl) (c:=body Tryz.f6) rfl awakeOk
def ltrS:Spec:=plain fun
  | [.sl (.pair (.int .i64) (.pair (.int .i64) (.pair (.int .i64) (.int .i64)))) _,.agg [.int .i64 _,.int .i64 _,.int .i64 _,.int .i64 _],.sl (.pair (.int .i64) (.pair (.int .i64) (.pair (.int .i64) (.int .i64)))) _,.sl (.pair (.int .i64) (.int .i64)) _,.sl (.pair (.int .i64) (.int .i64)) _,.sl (.pair (.int .i64) (.int .i64)) _,.int .i64 _,.int .i64 _]=>outV True (.bool true)
  | _=>none
theorem ltrOk:SpecSound Tryz.prog 3 ltrS:=by
  refine soundP (envOf sigTrOk) Tryz.func3 (c:=body Tryz.f3) rfl (by kernel_rfl) rfl ?_
  intro args out hf hpre
  split at hf <;> try (cases hf;done)
  rename_i bk y0 y1 y2 y3 needs ws ya za n0 n1
  cases hf
  refine ⟨Nat.le_of_ble_eq_true rfl,initI (args:=[.sl t4 bk,.agg [.int .i64 y0,.int .i64 y1,.int .i64 y2,.int .i64 y3],.sl t4 needs,.sl tP2 ws,.sl tP2 ya,.sl tP2 za,.int .i64 n0,.int .i64 n1]) rfl ?_⟩
  obtain ⟨c,hc⟩:∃ c,c=calT bk:=⟨_,rfl⟩
  obtain ⟨hcg,hcl⟩:=calT_good bk
  have hc5:=calT_own (x:=bk) (o:=5) (by decide)
  rw [← hc] at hcg hcl hc5
  obtain ⟨ns,hns⟩:∃ ns,ns=ndL (y0,y1,y2,y3) needs:=⟨_,rfl⟩
  obtain ⟨wl,hwl⟩:∃ wl,wl=winL (ndN needs) ws:=⟨_,rfl⟩
  obtain ⟨e,he⟩:∃ e,e=rqE (y0,y1,y2,y3):=⟨_,rfl⟩
  obtain ⟨a,ha⟩:∃ a,a=rqA (y0,y1,y2,y3):=⟨_,rfl⟩
  obtain ⟨b,hb⟩:∃ b,b=rqB (y0,y1,y2,y3):=⟨_,rfl⟩
  have hnl:=ndL_len (y0,y1,y2,y3) needs
  have hwll:=winL_len (ndN needs) ws
  rw [← hns] at hnl
  rw [← hwl] at hwll
  repeat' (first|with_reducible (first|apply pN|apply cN|apply bN|apply cE|apply cR|apply bR|apply lE|apply lR|apply jE|apply jR)|refine bE rfl ?_|refine bP rfl ?_|refine seqI rfl ?_|refine scopeI rfl ?_|refine blockI rfl ?_|refine exitI rfl ?_|refine retI rfl ?_|refine skipI rfl ?_)
  refine regI rfl ?_
  repeat' (first|with_reducible refine pN ?_|refine pD ?_)
  repeat with_reducible refine cN ?_
  repeat' (first|with_reducible (first|apply pN|apply cN|apply bN|apply cE|apply cR|apply bR|apply lE|apply lR|apply jE|apply jR)|refine bE rfl ?_|refine bP rfl ?_|refine seqI rfl ?_|refine scopeI rfl ?_|refine blockI rfl ?_|refine exitI rfl ?_|refine retI rfl ?_|refine skipI rfl ?_)
  refine regI rfl ?_
  repeat' (first|with_reducible refine pN ?_|refine pD ?_)
  repeat with_reducible refine cN ?_
  repeat' (first|with_reducible (first|apply pN|apply cN|apply bN|apply cE|apply cR|apply bR|apply lE|apply lR|apply jE|apply jR)|refine bE rfl ?_|refine bP rfl ?_|refine seqI rfl ?_|refine scopeI rfl ?_|refine blockI rfl ?_|refine exitI rfl ?_|refine retI rfl ?_|refine skipI rfl ?_)
  refine regI rfl ?_
  repeat' (first|with_reducible refine pN ?_|refine pD ?_)
  repeat with_reducible refine cN ?_
  rw [← hc]
  repeat' (first|with_reducible (first|apply pN|apply cN|apply bN|apply cE|apply cR|apply bR|apply lE|apply lR|apply jE|apply jR)|refine bE rfl ?_|refine bP rfl ?_|refine seqI rfl ?_|refine scopeI rfl ?_|refine blockI rfl ?_|refine exitI rfl ?_|refine retI rfl ?_|refine skipI rfl ?_)
  refine regI rfl ?_
  repeat' (first|with_reducible refine pN ?_|refine pD ?_)
  repeat with_reducible refine cN ?_
  rw [← hns,← hwl,← he,← ha,← hb]
  repeat' (first|with_reducible (first|apply pN|apply cN|apply bN|apply cE|apply cR|apply bR|apply lE|apply lR|apply jE|apply jR)|refine bE rfl ?_|refine bP rfl ?_|refine seqI rfl ?_|refine scopeI rfl ?_|refine blockI rfl ?_|refine exitI rfl ?_|refine retI rfl ?_|refine skipI rfl ?_)
  refine regI rfl ?_
  repeat' (first|with_reducible refine pN ?_|refine pD ?_|refine pC (by exact ⟨⟨hcg,by omega⟩,by omega,by omega⟩) ?_)
  repeat with_reducible refine cN ?_
  cases ho:makeG c e a b ns wl with
  | none =>
    repeat' (first|with_reducible (first|apply pN|apply cN|apply bN|apply cE|apply cR|apply bR|apply lE|apply lR|apply jE|apply jR)|refine bE rfl ?_|refine bP rfl ?_|refine pD ?_|refine seqI rfl ?_|refine regI rfl ?_|refine scopeI rfl ?_|refine blockI rfl ?_|refine exitI rfl ?_|refine retI rfl ?_|refine skipI rfl ?_)
    refine condT rfl ?_
    repeat' (first|with_reducible (first|apply pN|apply cN|apply bN|apply cE|apply cR|apply bR|apply lE|apply lR|apply jE|apply jR)|refine bE rfl ?_|refine bP rfl ?_|refine pD ?_|refine seqI rfl ?_|refine regI rfl ?_|refine scopeI rfl ?_|refine blockI rfl ?_|refine exitI rfl ?_|refine retI rfl ?_|refine skipI rfl ?_)
    refine endR rfl ?_
    repeat' (first|exact trivial|exact rfl|refine ⟨rfl,?_⟩|refine And.intro ?_ ?_)
  | some y =>
    have m:=made hcg ho
    obtain ⟨xs,ov⟩:=y
    dsimp only at m
    have F:=Pl.valid_facts m.valid
    have hm:=m.len
    have hpos:=m.pos
    have hn8:=F.n
    obtain ⟨rv1,rv2,rv3,rv4⟩:=rvalid_facts m.rv
    have rvw:=rvalid_win m.rv
    obtain ⟨hE1,hC1⟩:=m.book hcg (ow:=5) (by omega) (by omega)
    obtain ⟨c1,hc1⟩:∃ c1,c1=bookAll (bks xs 5) c:=⟨_,rfl⟩
    rw [← hc1] at hC1
    have hc1g:CalG c1∧lenF c1≤200:=by
      obtain ⟨k1,k2⟩:=bookAll_good (l:=bks xs 5) hcg
      rw [bks_len] at k2
      rw [hc1]
      exact ⟨k1,by omega⟩
    have h5:(ownedF c1 5).length=2 * xs.length:=by rw [hc1];exact cnt5 hcg hc5 (m.free 5 (by omega) (by omega))
    refine tidyI [(21,.int .i64 0)] [(20,.box [.int .i64 e,.int .i64 a,.int .i64 b,.sl tStage xs,.sl tWin wl])] rfl rfl ?_ ?_
    · repeat' (first|exact trivial|exact rfl|refine ⟨rfl,?_⟩|refine And.intro ?_ ?_)
    repeat' (first|with_reducible (first|apply pN|apply cN|apply bN|apply cE|apply cR|apply bR|apply lE|apply lR|apply jE|apply jR)|refine bE rfl ?_|refine bP rfl ?_|refine pD ?_|refine seqI rfl ?_|refine regI rfl ?_|refine scopeI rfl ?_|refine blockI rfl ?_|refine exitI rfl ?_|refine retI rfl ?_|refine skipI rfl ?_)
    refine condF rfl ?_
    repeat' (first|with_reducible refine cN ?_|refine seqI rfl ?_|refine skipI rfl ?_)
    repeat' (first|with_reducible (first|apply pN|apply cN|apply bN|apply cE|apply cR|apply bR|apply lE|apply lR|apply jE|apply jR)|refine bE rfl ?_|refine bP rfl ?_|refine seqI rfl ?_|refine scopeI rfl ?_|refine blockI rfl ?_|refine exitI rfl ?_|refine retI rfl ?_|refine skipI rfl ?_)
    refine regI rfl ?_
    repeat' (first|with_reducible refine pN ?_|refine pD ?_|refine pC (by exact ⟨hcg,by omega⟩) ?_)
    repeat with_reducible refine cN ?_
    rw [hE1,hC1]
    repeat' (first|with_reducible refine cN ?_|refine seqI rfl ?_|refine skipI rfl ?_)
    refine condF rfl ?_
    have p0:=pick_b (c:=n0) (n:=(ns.length:Int)) (by omega)
    obtain ⟨done,hdone⟩:∃ d,d=pickF n0 (ns.length:Int):=⟨_,rfl⟩
    rw [← hdone] at p0
    repeat' (first|with_reducible (first|apply pN|apply cN|apply bN|apply cE|apply cR|apply bR|apply lE|apply lR|apply jE|apply jR)|refine bE rfl ?_|refine bP rfl ?_|refine seqI rfl ?_|refine scopeI rfl ?_|refine blockI rfl ?_|refine exitI rfl ?_|refine retI rfl ?_|refine skipI rfl ?_)
    refine regI rfl ?_
    repeat' (first|with_reducible refine pN ?_|refine pD ?_|refine pC (by omega) ?_)
    repeat with_reducible refine cN ?_
    rw [← hdone]
    repeat' (first|with_reducible (first|apply pN|apply cN|apply bN|apply cE|apply cR|apply bR|apply lE|apply lR|apply jE|apply jR)|refine bE rfl ?_|refine bP rfl ?_|refine seqI rfl ?_|refine scopeI rfl ?_|refine blockI rfl ?_|refine exitI rfl ?_|refine retI rfl ?_|refine skipI rfl ?_)
    refine regI rfl ?_
    repeat' (first|with_reducible refine pN ?_|refine pD ?_|refine pC (by decide) ?_)
    repeat with_reducible refine cN ?_
    obtain ⟨failed,hfailed⟩:∃ f,f=pickF n1 9:=⟨_,rfl⟩
    rw [← hfailed]
    have hp:=chosen0 m.valid ya
    obtain ⟨du,hdu⟩:∃ du,du=Pl.cDu xs ya xs.length:=⟨_,rfl⟩
    obtain ⟨mo,hmo⟩:∃ mo,mo=Pl.cMo a b ya xs.length:=⟨_,rfl⟩
    obtain ⟨de,hde⟩:∃ de,de=Pl.cDe a b ya:=⟨_,rfl⟩
    obtain ⟨tl,htl⟩:∃ tl,tl=Pl.cTl xs 0:=⟨_,rfl⟩
    obtain ⟨fa,hfa⟩:∃ fa,fa=Pl.cFa xs 0 0:=⟨_,rfl⟩
    rw [← hdu,← hmo,← hde,← htl,← hfa] at hp
    have C:=Pl.poss_facts hp
    obtain ⟨out,hr,hol,hv⟩:=run_never m.safe hp
    have hkey:=vis_key m.safe C hv
    repeat' (first|with_reducible (first|apply pN|apply cN|apply bN|apply cE|apply cR|apply bR|apply lE|apply lR|apply jE|apply jR)|refine bE rfl ?_|refine bP rfl ?_|refine seqI rfl ?_|refine scopeI rfl ?_|refine blockI rfl ?_|refine exitI rfl ?_|refine retI rfl ?_|refine skipI rfl ?_)
    refine regI rfl ?_
    repeat' (first|with_reducible refine pN ?_|refine pD ?_|refine pC (by first|exact m.valid|(show xs.length≤_;omega)) ?_)
    repeat with_reducible refine cN ?_
    simp only [← hdu,← hmo,← hde,← htl,← hfa,hr]
    repeat' (first|with_reducible (first|apply pN|apply cN|apply bN|apply cE|apply cR|apply bR|apply lE|apply lR|apply jE|apply jR)|refine bE rfl ?_|refine bP rfl ?_|refine pD ?_|refine seqI rfl ?_|refine regI rfl ?_|refine scopeI rfl ?_|refine blockI rfl ?_|refine exitI rfl ?_|refine retI rfl ?_|refine skipI rfl ?_)
    refine condI rfl (fun c2=>?_) (fun c2=>?_)
    · exfalso
      simp [hol,hm] at c2
    repeat' (first|with_reducible refine cN ?_|refine seqI rfl ?_|refine skipI rfl ?_)
    repeat' (first|with_reducible (first|apply pN|apply cN|apply bN|apply cE|apply cR|apply bR|apply lE|apply lR|apply jE|apply jR)|refine bE rfl ?_|refine bP rfl ?_|refine seqI rfl ?_|refine scopeI rfl ?_|refine blockI rfl ?_|refine exitI rfl ?_|refine retI rfl ?_|refine skipI rfl ?_)
    refine regI rfl ?_
    repeat' (first|with_reducible refine pN ?_|refine pD ?_)
    repeat with_reducible refine cN ?_
    repeat' (first|with_reducible (first|apply pN|apply cN|apply bN|apply cE|apply cR|apply bR|apply lE|apply lR|apply jE|apply jR)|refine bE rfl ?_|refine bP rfl ?_|refine seqI rfl ?_|refine scopeI rfl ?_|refine blockI rfl ?_|refine exitI rfl ?_|refine retI rfl ?_|refine skipI rfl ?_)
    refine regI rfl ?_
    repeat' (first|with_reducible refine pN ?_|refine pD ?_)
    repeat with_reducible refine cN ?_
    repeat' (first|with_reducible refine cN ?_|refine seqI rfl ?_|refine skipI rfl ?_)
    refine joinC (fun f:Int=>[(25,.int .i64 f)]) (fun _=>[]) (fun f=>In64 f) (fun _=>rfl) ?_ (fun entry hentry=>?_)
    · refine condI rfl (fun c3=>?_) (fun c3=>?_)
      · simp only [decide_eq_true_eq] at c3
        have hk:=hkey (done - 1).toNat (by omega) _ rfl _ rfl
        repeat' (first|with_reducible (first|apply pN|apply cN|apply bN|apply cE|apply cR|apply bR|apply lE|apply lR|apply jE|apply jR)|refine bE rfl ?_|refine bP rfl ?_|refine pD ?_|refine pC (by first|(unfold In64;omega)|(rw [hol];omega)|omega) ?_|refine seqI rfl ?_|refine regI rfl ?_|refine scopeI rfl ?_|refine blockI rfl ?_|refine exitI rfl ?_|refine retI rfl ?_|refine skipI rfl ?_)
        refine meetI (getI out Pl.tVisit.dflt (done - 1).toNat).2.2.2 rfl (by unfold In64;omega) ?_
        repeat' (first|exact trivial|exact rfl|refine ⟨rfl,?_⟩|refine And.intro ?_ ?_)
      · repeat' (first|with_reducible (first|apply pN|apply cN|apply bN|apply cE|apply cR|apply bR|apply lE|apply lR|apply jE|apply jR)|refine bE rfl ?_|refine bP rfl ?_|refine pD ?_|refine seqI rfl ?_|refine regI rfl ?_|refine scopeI rfl ?_|refine blockI rfl ?_|refine exitI rfl ?_|refine retI rfl ?_|refine skipI rfl ?_)
        refine meetI e rfl (by unfold In64;omega) ?_
        repeat' (first|exact trivial|exact rfl|refine ⟨rfl,?_⟩|refine And.intro ?_ ?_)
    repeat' (first|with_reducible (first|apply pN|apply cN|apply bN|apply cE|apply cR|apply bR|apply lE|apply lR|apply jE|apply jR)|refine bE rfl ?_|refine bP rfl ?_|refine seqI rfl ?_|refine scopeI rfl ?_|refine blockI rfl ?_|refine exitI rfl ?_|refine retI rfl ?_|refine skipI rfl ?_)
    refine regI rfl ?_
    repeat' (first|with_reducible refine pN ?_|refine pD ?_|refine pC (by exact hc1g.1.cal (by have:=hc1g.2;omega)) ?_)
    repeat with_reducible refine cN ?_
    repeat' (first|with_reducible (first|apply pN|apply cN|apply bN|apply cE|apply cR|apply bR|apply lE|apply lR|apply jE|apply jR)|refine bE rfl ?_|refine bP rfl ?_|refine seqI rfl ?_|refine scopeI rfl ?_|refine blockI rfl ?_|refine exitI rfl ?_|refine retI rfl ?_|refine skipI rfl ?_)
    refine regI rfl ?_
    repeat' (first|with_reducible refine pN ?_|refine pD ?_|refine pC (by exact ⟨⟨hc1g.1,by have:=hc1g.2;omega⟩,by omega,by omega⟩) ?_)
    repeat with_reducible refine cN ?_
    cases hrr:repG c1 e a b xs wl e a b ns wl 5 done entry failed with
    | none =>
      rw [show repCal c1 none entry a b (restF xs wl done).2 5=c1 from rfl]
      refine tidyI [(28,.int .i64 100)] [] rfl rfl ?_ ?_
      · repeat' (first|exact trivial|exact rfl|refine ⟨rfl,?_⟩|refine And.intro ?_ ?_)
      repeat' (first|with_reducible (first|apply pN|apply cN|apply bN|apply cE|apply cR|apply bR|apply lE|apply lR|apply jE|apply jR)|refine bE rfl ?_|refine bP rfl ?_|refine pD ?_|refine pC (by exact hc1g.1.cal (by have:=hc1g.2;omega)) ?_|refine seqI rfl ?_|refine regI rfl ?_|refine scopeI rfl ?_|refine blockI rfl ?_|refine exitI rfl ?_|refine retI rfl ?_|refine skipI rfl ?_)
      refine condI rfl (fun c4=>?_) (fun _=>?_)
      · exfalso
        simp at c4
      repeat' (first|with_reducible (first|apply pN|apply cN|apply bN|apply cE|apply cR|apply bR|apply lE|apply lR|apply jE|apply jR)|refine bE rfl ?_|refine bP rfl ?_|refine pD ?_|refine seqI rfl ?_|refine regI rfl ?_|refine scopeI rfl ?_|refine blockI rfl ?_|refine exitI rfl ?_|refine retI rfl ?_|refine skipI rfl ?_)
      refine condT rfl ?_
      repeat' (first|with_reducible (first|apply pN|apply cN|apply bN|apply cE|apply cR|apply bR|apply lE|apply lR|apply jE|apply jR)|refine bE rfl ?_|refine bP rfl ?_|refine pD ?_|refine pC (by first|exact hc1g.1.cal (by have:=hc1g.2;omega)|(unfold In64;omega)|(intros;unfold In64;omega)) ?_|refine seqI rfl ?_|refine regI rfl ?_|refine scopeI rfl ?_|refine blockI rfl ?_|refine exitI rfl ?_|refine retI rfl ?_|refine skipI rfl ?_)
      refine endR rfl ?_
      repeat' (first|exact trivial|exact rfl|refine ⟨rfl,?_⟩|refine And.intro ?_ ?_)
      simp [h5]
    | some z =>
      obtain ⟨zs,ov2⟩:=z
      have X:=fixed (by omega) (by omega) hc1g.1 hrr
      dsimp only at X
      have hzv:Pl.validF entry a b zs (restF xs wl done).2=true:=by have:=X.safe;unfold safeF at this;simp only [Bool.and_eq_true] at this;exact this.1.1
      have Fz:=Pl.valid_facts hzv
      obtain ⟨c2,hc2⟩:∃ c2,c2=bookAll (bks zs 5) (freedF c1 5):=⟨_,rfl⟩
      have hrc:repCal c1 (some (zs,ov2)) entry a b (restF xs wl done).2 5=c2:=by rw [hc2,← X.eq];rfl
      have hzl:=X.len
      have hz8:=Fz.n
      have hc2g:CalG c2∧lenF c2≤1000:=by
        rw [hc2]
        have:=X.good
        have:=hc1g.2
        exact ⟨X.good.1,by omega⟩
      have h90:ownedF c2 90=ownedF c1 90:=by rw [hc2];exact X.owned _ (by omega)
      have h55:(ownedF c2 5).length=2 * zs.length:=by rw [owned_len,hc2];exact X.seven
      obtain ⟨rw',hrw'⟩:∃ rw',rw'=(restF xs wl done).2:=⟨_,rfl⟩
      rw [hrc]
      refine tidyI [(28,.int .i64 0)] [(27,.box [.int .i64 entry,.int .i64 a,.int .i64 b,.sl tStage zs,.sl tWin (restF xs wl done).2])] rfl rfl ?_ ?_
      · repeat' (first|exact trivial|exact rfl|refine ⟨rfl,?_⟩|refine And.intro ?_ ?_)
      repeat' (first|with_reducible (first|apply pN|apply cN|apply bN|apply cE|apply cR|apply bR|apply lE|apply lR|apply jE|apply jR)|refine bE rfl ?_|refine bP rfl ?_|refine pD ?_|refine pC (by first|exact hc1g.1.cal (by have:=hc1g.2;omega)|exact hc2g.1.cal (by have:=hc2g.2;omega)) ?_|refine seqI rfl ?_|refine regI rfl ?_|refine scopeI rfl ?_|refine blockI rfl ?_|refine exitI rfl ?_|refine retI rfl ?_|refine skipI rfl ?_)
      rw [h90]
      refine condI rfl (fun c4=>?_) (fun _=>?_)
      · exfalso
        simp at c4
      repeat' (first|with_reducible (first|apply pN|apply cN|apply bN|apply cE|apply cR|apply bR|apply lE|apply lR|apply jE|apply jR)|refine bE rfl ?_|refine bP rfl ?_|refine pD ?_|refine seqI rfl ?_|refine regI rfl ?_|refine scopeI rfl ?_|refine blockI rfl ?_|refine exitI rfl ?_|refine retI rfl ?_|refine skipI rfl ?_)
      refine condF rfl ?_
      have hpz:=chosen0 hzv za
      obtain ⟨du2,hdu2⟩:∃ du,du=Pl.cDu zs za zs.length:=⟨_,rfl⟩
      obtain ⟨mo2,hmo2⟩:∃ mo,mo=Pl.cMo a b za zs.length:=⟨_,rfl⟩
      obtain ⟨de2,hde2⟩:∃ de,de=Pl.cDe a b za:=⟨_,rfl⟩
      obtain ⟨tl2,htl2⟩:∃ tl,tl=Pl.cTl zs 0:=⟨_,rfl⟩
      obtain ⟨fa2,hfa2⟩:∃ fa,fa=Pl.cFa zs 0 0:=⟨_,rfl⟩
      rw [← hdu2,← hmo2,← hde2,← htl2,← hfa2] at hpz
      have C2:=Pl.poss_facts hpz
      obtain ⟨out2,hr2,hol2,hv2⟩:=run_never X.safe hpz
      have hkey2:=vis_key X.safe C2 hv2
      repeat' (first|with_reducible refine cN ?_|refine seqI rfl ?_|refine skipI rfl ?_)
      repeat' (first|with_reducible (first|apply pN|apply cN|apply bN|apply cE|apply cR|apply bR|apply lE|apply lR|apply jE|apply jR)|refine bE rfl ?_|refine bP rfl ?_|refine seqI rfl ?_|refine scopeI rfl ?_|refine blockI rfl ?_|refine exitI rfl ?_|refine retI rfl ?_|refine skipI rfl ?_)
      refine regI rfl ?_
      repeat' (first|with_reducible refine pN ?_|refine pD ?_|refine pC (by first|exact hzv|(show zs.length≤_;omega)) ?_)
      repeat with_reducible refine cN ?_
      simp only [← hdu2,← hmo2,← hde2,← htl2,← hfa2,hr2]
      repeat' (first|with_reducible (first|apply pN|apply cN|apply bN|apply cE|apply cR|apply bR|apply lE|apply lR|apply jE|apply jR)|refine bE rfl ?_|refine bP rfl ?_|refine seqI rfl ?_|refine scopeI rfl ?_|refine blockI rfl ?_|refine exitI rfl ?_|refine retI rfl ?_|refine skipI rfl ?_)
      refine regI rfl ?_
      repeat' (first|with_reducible refine pN ?_|refine pD ?_)
      repeat with_reducible refine cN ?_
      rw [X.safe]
      have hguard:(((decide ((0:Int)≠0)||decide ((0:Int)≠0))||!true)||decide ((out2.length:Int)≠(ns.length:Int) - done))=false:=by
        rw [decide_eq_false (show ¬ ((out2.length:Int)≠(ns.length:Int) - done) by omega)];rfl
      repeat' (first|with_reducible refine cN ?_|refine seqI rfl ?_|refine skipI rfl ?_)
      refine regH [(167,false)] rfl ?_
      repeat' (first|with_reducible refine pN ?_|refine pC (by first|exact True.intro|exact hguard|exact hc2g.1.cal (by have:=hc2g.2;omega)|(intros;exact hc2g.1.cal (by have:=hc2g.2;omega))|(unfold In64;omega)|(intros;unfold In64;omega)) ?_)
      repeat' (first|with_reducible refine cN ?_|refine seqI rfl ?_|refine skipI rfl ?_)
      refine condI rfl (fun c3=>?_) (fun c3=>?_)
      · exfalso
        simp [h55] at c3
      repeat' (first|with_reducible (first|apply pN|apply cN|apply bN|apply cE|apply cR|apply bR|apply lE|apply lR|apply jE|apply jR)|refine bE rfl ?_|refine bP rfl ?_|refine pD ?_|refine seqI rfl ?_|refine regI rfl ?_|refine scopeI rfl ?_|refine blockI rfl ?_|refine exitI rfl ?_|refine retI rfl ?_|refine skipI rfl ?_)
      refine loopI (σ:=Nat) (fun i=>[(34,.int .i64 i)]) (fun i=>[]) (fun i=>i≤zs.length) (fun i=>zs.length - i) 0 rfl (fun _=>rfl) rfl ?_ ?_ ?_
      · exact Nat.zero_le _
      · repeat' (first|exact trivial|exact rfl|refine ⟨rfl,?_⟩|refine And.intro ?_ ?_)
      intro i hi
      repeat' (first|with_reducible (first|apply pN|apply cN|apply bN|apply cE|apply cR|apply bR|apply lE|apply lR|apply jE|apply jR)|refine bE rfl ?_|refine bP rfl ?_|refine pD ?_|refine seqI rfl ?_|refine regI rfl ?_|refine scopeI rfl ?_|refine blockI rfl ?_|refine exitI rfl ?_|refine retI rfl ?_|refine skipI rfl ?_)
      refine condI rfl (fun c4=>?_) (fun c4=>?_)
      · simp only [decide_eq_true_eq] at c4
        have hil:i < zs.length:=by omega
        have hin:((i:Int)).toNat=i:=by omega
        obtain ⟨z,hz⟩:∃ z:StT,z=getI zs tStage.dflt i:=⟨_,rfl⟩
        have hz':getI zs tStage.dflt ((i:Int)).toNat=z:=by rw [hin];exact hz.symm
        obtain ⟨ht1,ht2⟩:=X.tools z (by rw [hz];exact Pl.getI_mem hil)
        repeat' (first|with_reducible (first|apply pN|apply cN|apply bN|apply cE|apply cR|apply bR|apply lE|apply lR|apply jE|apply jR)|refine bE rfl ?_|refine bP rfl ?_|refine pD ?_|refine seqI rfl ?_|refine regI rfl ?_|refine scopeI rfl ?_|refine blockI rfl ?_|refine exitI rfl ?_|refine retI rfl ?_|refine skipI rfl ?_)
        simp only [hz']
        refine condI rfl (fun c5=>?_) (fun c5=>?_)
        · exfalso
          simp only [Bool.or_eq_true,decide_eq_true_eq] at c5
          rcases c5 with h|h
          · exact ht1 h
          · exact ht2 h
        repeat' (first|with_reducible (first|apply pN|apply cN|apply bN|apply cE|apply cR|apply bR|apply lE|apply lR|apply jE|apply jR)|refine bE rfl ?_|refine bP rfl ?_|refine pD ?_|refine seqI rfl ?_|refine regI rfl ?_|refine scopeI rfl ?_|refine blockI rfl ?_|refine exitI rfl ?_|refine retI rfl ?_|refine skipI rfl ?_)
        refine roundI (i+1) rfl ?_ ?_ ?_
        · show i+1≤zs.length
          omega
        · show zs.length - (i+1) < zs.length - i
          omega
        · repeat' (first|exact trivial|with_reducible exact rfl|refine And.intro ?_ ?_)
          all_goals rfl
      · repeat' (first|with_reducible (first|apply pN|apply cN|apply bN|apply cE|apply cR|apply bR|apply lE|apply lR|apply jE|apply jR)|refine bE rfl ?_|refine bP rfl ?_|refine pD ?_|refine seqI rfl ?_|refine regI rfl ?_|refine scopeI rfl ?_|refine blockI rfl ?_|refine exitI rfl ?_|refine retI rfl ?_|refine skipI rfl ?_)
        refine loopI (σ:=Nat) (fun k=>[(35,.int .i64 k)]) (fun k=>[]) (fun k=>k≤wl.length) (fun k=>wl.length - k) 0 rfl (fun _=>rfl) rfl ?_ ?_ ?_
        · exact Nat.zero_le _
        · repeat' (first|exact trivial|exact rfl|refine ⟨rfl,?_⟩|refine And.intro ?_ ?_)
        intro k hk
        repeat' (first|with_reducible (first|apply pN|apply cN|apply bN|apply cE|apply cR|apply bR|apply lE|apply lR|apply jE|apply jR)|refine bE rfl ?_|refine bP rfl ?_|refine pD ?_|refine seqI rfl ?_|refine regI rfl ?_|refine scopeI rfl ?_|refine blockI rfl ?_|refine exitI rfl ?_|refine retI rfl ?_|refine skipI rfl ?_)
        refine condI rfl (fun c6=>?_) (fun c6=>?_)
        · simp only [decide_eq_true_eq] at c6
          have hkl:k < wl.length:=by omega
          have hkn:((k:Int)).toNat=k:=by omega
          obtain ⟨w,hw⟩:∃ w:WiT,w=getI wl tWin.dflt k:=⟨_,rfl⟩
          have hw':getI wl tWin.dflt ((k:Int)).toNat=w:=by rw [hkn];exact hw.symm
          have hwm:w∈wl:=by rw [hw];exact Pl.getI_mem hkl
          have hW:=rvw w hwm
          unfold WiSm at hW
          have hkF:=hkey w.1.toNat (by omega) _ rfl _ rfl
          repeat' (first|with_reducible (first|apply pN|apply cN|apply bN|apply cE|apply cR|apply bR|apply lE|apply lR|apply jE|apply jR)|refine bE rfl ?_|refine bP rfl ?_|refine seqI rfl ?_|refine scopeI rfl ?_|refine blockI rfl ?_|refine exitI rfl ?_|refine retI rfl ?_|refine skipI rfl ?_)
          refine regI rfl ?_
          repeat' (first|with_reducible refine pN ?_|refine pD ?_)
          repeat with_reducible refine cN ?_
          simp only [hw']
          obtain ⟨v,hvv⟩:∃ v:VisT,v=getI out Pl.tVisit.dflt w.1.toNat:=⟨_,rfl⟩
          obtain ⟨u,huu⟩:∃ u:VisT,u=getI out2 Pl.tVisit.dflt (w.2.1 - done).toNat:=⟨_,rfl⟩
          rw [← hvv] at hkF
          have hpath:∀ h:(decide (w.1 < done)&&decide (w.2.1≥done))=true,((0≤w.2.1 - done∧w.2.1 - done < (out2.length:Int))∧0≤w.1∧w.1 < (out.length:Int))∧((w.2.1 - done).toNat < out2.length∧w.1.toNat < out.length)∧In64 (u.2.2.1 - v.2.2.2)∧u.2.2.1 - v.2.2.2≤w.2.2:=fun h=>by
            simp only [Bool.and_eq_true,decide_eq_true_eq] at h
            obtain ⟨g1,g2⟩:=h
            have hj:(w.2.1 - done).toNat < zs.length:=by omega
            have e3:w.2.1=done+((w.2.1 - done).toNat:Int):=by omega
            have q:=hkey2 _ hj _ rfl _ rfl
            rw [← huu] at q
            have k:=X.kept _ hj w hwm g1 e3
            unfold dlOf at k
            refine ⟨by omega,by omega,by unfold In64;omega,by omega⟩
          have hin1:In64 (w.2.1 - done):=by unfold In64;omega
          repeat' (first|with_reducible (first|apply pN|apply cN|apply bN|apply cE|apply cR|apply bR|apply lE|apply lR|apply jE|apply jR)|refine bE rfl ?_|refine bP rfl ?_|refine seqI rfl ?_|refine scopeI rfl ?_|refine blockI rfl ?_|refine exitI rfl ?_|refine retI rfl ?_|refine skipI rfl ?_)
          refine regI rfl ?_
          repeat' (first|with_reducible refine pN ?_|refine pD ?_|refine pC (by first|exact fun _=>hin1|exact fun h=>(hpath h).1.1.1|exact fun h=>(hpath h).1.1.2|exact fun h=>(hpath h).1.2.1|exact fun h=>(hpath h).1.2.2|exact fun h=>(hpath h).2.1.1|exact fun h=>(hpath h).2.1.2|(intro h;rw [← hvv,← huu];exact (hpath h).2.2.1)) ?_)
          repeat with_reducible refine cN ?_
          simp only [← hvv,← huu]
          refine condI rfl (fun c7=>?_) (fun c7=>?_)
          · exfalso
            have c7:((decide (w.1 < done)&&decide (w.2.1≥done))&&decide (u.2.2.1 - v.2.2.2 > w.2.2))=true:=c7
            rw [Bool.and_eq_true,decide_eq_true_eq] at c7
            have:=(hpath c7.1).2.2.2
            omega
          repeat' (first|with_reducible (first|apply pN|apply cN|apply bN|apply cE|apply cR|apply bR|apply lE|apply lR|apply jE|apply jR)|refine bE rfl ?_|refine bP rfl ?_|refine pD ?_|refine seqI rfl ?_|refine regI rfl ?_|refine scopeI rfl ?_|refine blockI rfl ?_|refine exitI rfl ?_|refine retI rfl ?_|refine skipI rfl ?_)
          refine roundI (k+1) rfl ?_ ?_ ?_
          · show k+1≤wl.length
            omega
          · show wl.length - (k+1) < wl.length - k
            omega
          · repeat' (first|exact trivial|with_reducible exact rfl|refine And.intro ?_ ?_)
            all_goals rfl
        · repeat' (first|with_reducible (first|apply pN|apply cN|apply bN|apply cE|apply cR|apply bR|apply lE|apply lR|apply jE|apply jR)|refine bE rfl ?_|refine bP rfl ?_|refine pD ?_|refine seqI rfl ?_|refine regI rfl ?_|refine scopeI rfl ?_|refine blockI rfl ?_|refine exitI rfl ?_|refine retI rfl ?_|refine skipI rfl ?_)
          refine endR rfl ?_
          repeat' (first|exact trivial|exact rfl|refine ⟨rfl,?_⟩|refine And.intro ?_ ?_)
end Go.AM.YtkgmmmhokgdcaaaGreat.Tp
