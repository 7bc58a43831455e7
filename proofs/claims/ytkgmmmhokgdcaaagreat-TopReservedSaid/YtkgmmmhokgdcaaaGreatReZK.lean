/- The law ReserveWindows: flows whose steps have two tools, requests of their routes. -/
import Derived.Test.YtkgmmmhokgdcaaaGreatReXK
import Derived.Test.YtkgmmmhokgdcaaaGreatWnXK
import Derived.Test.YtkgmmmhokgdcaaaGreatPc35
set_option linter.all false
namespace Go.AM.YtkgmmmhokgdcaaaGreat.Re
open Go.Proofs
open Go.AM.YtkgmmmhokgdcaaaGreat.Fl (StepT tStep stTl stNx stBk stMn stMx stLm stRc mkSs mkWs mkSt mkN mkN_b mk_step mk_wins mk_valid mkSs_len tS6 Int6 Int3 step_of step_sm flow_sm FlowSm StepSm valid_of asc_two asc_one WOk wok_nil inW_iff winAll winRow winAt winAll_mem winRow_mem winAt_mem linksF needsF needAt reqF reqE reqB reqW lineB argB hasB badN win_ne winAll_ws)
set_option maxRecDepth 100000
set_option maxHeartbeats 4000000
def Ins (ss:List StepT) (l:List Int):Prop:=∀ s∈l,0≤s∧s < (ss.length:Int)
abbrev VisT:=Int × Int × Int × Int
theorem vis_win {e a b:Int} {xs:List tStage.El} {ws:List tWin.El} {du mo:List Int} {de tl fa:Int} (hs:safeF e a b xs ws=true) (C:Pl.Chance e a b xs ws du mo de tl fa) {out:List VisT} (hv:∀ j,j < xs.length→VisOk xs du tl fa j (getI out Pl.tVisit.dflt j)) :
 (∀ j,j < xs.length→(0≤(getI out Pl.tVisit.dflt j).2.2.1∧(getI out Pl.tVisit.dflt j).2.2.1≤1000000)∧0≤(getI out Pl.tVisit.dflt j).2.2.2∧(getI out Pl.tVisit.dflt j).2.2.2≤2000000) ∧
 ∀ k,k < ws.length→∀ w:WiT,w=getI ws tWin.dflt k→(0≤w.1∧w.1 < (xs.length:Int)∧0≤w.2.1∧w.2.1 < (xs.length:Int))∧(getI out Pl.tVisit.dflt w.2.1.toNat).2.2.1 - (getI out Pl.tVisit.dflt w.1.toNat).2.2.2≤w.2.2:=by
 unfold safeF at hs
 simp only [Bool.and_eq_true,Bool.not_eq_true'] at hs
 obtain ⟨⟨hv1,hs1⟩,hs2⟩:=hs
 unfold slotsF at hs1
 rw [List.any_cons,Bool.or_eq_false_iff] at hs1
 obtain ⟨mg1,_⟩:=slotsG_mg hs1.2
 have hab:=C.ab
 have key:∀ j,j < xs.length→∀ x:StT,x=getI xs tStage.dflt j→∀ v:VisT,v=getI out Pl.tVisit.dflt j→(mSt x≤v.2.2.1∧v.2.2.1≤sSt x)∧(mSt x+sMin x≤v.2.2.2)∧(0≤v.2.2.1∧v.2.2.1≤1000000)∧0≤v.2.2.2∧v.2.2.2≤2000000:=fun j hj x hx v hvv=>by
  have h1:=hv j hj
  rw [← hvv] at h1
  obtain ⟨_,v2,v3⟩:=h1
  rw [← hx] at v3
  have hg:=mg1 j hj
  rw [← hx] at hg
  unfold Mg1 at hg
  have hst:=C.st j hj
  unfold Pl.StOk at hst
  have hat:=C.at' j hj
  unfold Pl.AtOk at hat
  have a1:sMin x≤getI du 0 j:=by rw [hx];exact hat.1.1
  have a2:getI du 0 j≤sMax x:=by rw [hx];exact hat.1.2
  have a3:1≤sMin x:=by rw [hx];exact hst.1.1
  have a4:0≤mSt x:=by rw [hx];exact hst.2.1.2.2.1
  have a5:sSt x≤1000000 - sMax x:=by rw [hx];exact hst.2.2.1.2.2.2
  have a6:sMax x≤10000:=by rw [hx];exact hst.1.2.2
  rcases v3 with ⟨_,h6,_⟩|⟨_,h6,_⟩ <;> refine ⟨⟨by omega,by omega⟩,by omega,⟨by omega,by omega⟩,by omega,by omega⟩
 refine ⟨fun j hj=>(key j hj _ rfl _ rfl).2.2,fun k hk w hw=>?_⟩
 have hW:=C.ws k hk
 unfold Pl.WiOk at hW
 rw [← hw] at hW
 have k1:(0:Int)≤w.1:=hW.1
 have k2:(w.1:Int) < w.2.1:=hW.2.1
 have k3:(w.2.1:Int) < (xs.length:Int):=hW.2.2.1
 refine ⟨⟨k1,by omega,by omega,k3⟩,?_⟩
 have f1:=key w.1.toNat (by omega) _ rfl _ rfl
 have f2:=key w.2.1.toNat (by omega) _ rfl _ rfl
 have hm:=List.any_eq_false.1 hs2 (winM xs w) (List.mem_map.2 ⟨w,by rw [hw];exact Pl.getI_mem hk,rfl⟩)
 unfold negB at hm
 rw [decide_eq_true_eq] at hm
 unfold winM at hm
 have hm:¬ (mSt (getI xs tStage.dflt w.1.toNat)+sMin (getI xs tStage.dflt w.1.toNat)+w.2.2 - sSt (getI xs tStage.dflt w.2.1.toNat) < 0):=hm
 omega
def wdS (k:Int) (s:StepT):StepT:=(s.1,[getI s.2.1 0 0,getI s.2.1 0 0+k],s.2.2.1,s.2.2.2.1,s.2.2.2.2.1,s.2.2.2.2.2.1,s.2.2.2.2.2.2)
theorem mkTl0 {n:Int} {i:Nat} {y:Int6}:0≤getI (stTl (mkSt n i y)) 0 0∧getI (stTl (mkSt n i y)) 0 0≤5:=by
 have p:=pick_b (c:=y.2.2.1) (n:=6) (by omega)
 have e:getI (stTl (mkSt n i y)) 0 0=pickF y.2.2.1 6:=by
  show getI (Fl.mkTl y) 0 0=_
  unfold Fl.mkTl
  cases decide (pickF (y.2.2.1.tdiv 6) 2=0) <;> rfl
 rw [e]
 omega
theorem wd_step {n:Int} {k:Int} {s:StepT} (h1:1≤k) (h2:k≤2) (h:Fl.stepF s n=true) (ht:0≤getI s.2.1 0 0∧getI s.2.1 0 0≤5):Fl.stepF (wdS k s) n=true:=by
 unfold Fl.stepF at h ⊢
 simp only [Bool.and_eq_true,Bool.or_eq_true,decide_eq_true_eq,inW_iff] at h ⊢
 obtain ⟨⟨⟨⟨⟨⟨⟨g1,g2⟩,g3⟩,g4⟩,g5⟩,g6⟩,g7⟩,g8⟩:=h
 refine ⟨⟨⟨⟨⟨⟨⟨g1,⟨⟨?_,?_⟩,g2.2⟩⟩,g3⟩,asc_two ht.1 (by omega) (by omega)⟩,g5⟩,g6⟩,g7⟩,g8⟩
 ·show (1:Int)≤((2:Nat):Int)
  omega
 ·show ((2:Nat):Int)≤8
  omega
def wdSs (k:Int) (x:List Int6):List StepT:=(mkSs x).map (wdS k)
theorem wd_valid {k:Int} (h1:1≤k) (h2:k≤2) {x:List Int6} {w:List Int3}:Fl.validF 2 5 (wdSs k x) (mkWs x w)=true:=by
 have hn:=mkN_b (x:=x)
 have hw:=mk_wins (n:=mkN x) hn.1 (r:=w.take 4) (acc:=[]) wok_nil (by intro v hv;cases hv)
 have hl:(wdSs k x).length=mkN x:=by unfold wdSs;rw [List.length_map,mkSs_len]
 refine valid_of (by omega) (by omega) (by omega) (by omega) (by omega) ?_ ?_ ?_
 ·show (List.foldl (Fl.step4 (mkN x)) [] (w.take 4)).length≤20
  have h1:=hw.2.2
  have h2:(w.take 4).length≤4:=by rw [List.length_take];omega
  simp only [List.length_nil] at h1
  omega
 ·rw [hl]
  intro s hs
  unfold wdSs at hs
  obtain ⟨s0,hs0,rfl⟩:=List.mem_map.1 hs
  unfold mkSs at hs0
  obtain ⟨i,hi,rfl⟩:=List.mem_map.1 hs0
  exact wd_step h1 h2 (mk_step (List.mem_range.1 hi) hn.2) mkTl0
 ·rw [hl]
  exact hw.1
theorem wd_len {k:Int} {x:List Int6}:1≤(wdSs k x).length∧(wdSs k x).length≤8:=by
 unfold wdSs
 rw [List.length_map,mkSs_len]
 exact mkN_b
theorem mkWs_len {x:List Int6} {w:List Int3}:(mkWs x w).length≤4:=by
 have hw:=(mk_wins (n:=mkN x) mkN_b.1 (r:=w.take 4) (acc:=[]) wok_nil (by intro v hv;cases hv)).2.2
 have h2:(w.take 4).length≤4:=by rw [List.length_take];omega
 simp only [List.length_nil] at hw
 show (List.foldl (Fl.step4 (mkN x)) [] (w.take 4)).length≤4
 omega
theorem wd_two {k:Int} {x:List Int6} {i:Nat} (h:i < (wdSs k x).length):∃ t,0≤t∧t≤5∧(getI (wdSs k x) tStep.dflt i).2.1=[t,t+k]:=by
 have hm:getI (wdSs k x) tStep.dflt i∈wdSs k x:=Fl.fl_mem h
 unfold wdSs at hm
 obtain ⟨s0,hs0,he⟩:=List.mem_map.1 hm
 unfold mkSs at hs0
 obtain ⟨j,hj,hs⟩:=List.mem_map.1 hs0
 have ht:=mkTl0 (n:=(mkN x:Int)) (i:=j) (y:=getI x tS6.dflt j)
 have hs:mkSt (mkN x) j (getI x tS6.dflt j)=s0:=hs
 rw [hs] at ht
 exact ⟨getI s0.2.1 0 0,ht.1,ht.2,by unfold wdSs;rw [← he];rfl⟩
theorem vis_time {e a b:Int} {xs:List tStage.El} {ws:List tWin.El} {du mo:List Int} {de tl fa:Int} (C:Pl.Chance e a b xs ws du mo de tl fa) {out:List VisT} (hv:∀ j,j < xs.length→VisOk xs du tl fa j (getI out Pl.tVisit.dflt j)) :
 ∀ j,j < xs.length→(0≤(getI out Pl.tVisit.dflt j).2.2.1∧(getI out Pl.tVisit.dflt j).2.2.1≤1000000)∧0≤(getI out Pl.tVisit.dflt j).2.2.2∧(getI out Pl.tVisit.dflt j).2.2.2≤1000000:=by
 intro j hj
 obtain ⟨_,v2,v3⟩:=hv j hj
 have hst:=C.st j hj
 unfold Pl.StOk at hst
 have hat:=C.at' j hj
 unfold Pl.AtOk at hat
 have a1:sMin (getI xs tStage.dflt j)≤getI du 0 j:=hat.1.1
 have a2:getI du 0 j≤sMax (getI xs tStage.dflt j):=hat.1.2
 have a3:1≤sMin (getI xs tStage.dflt j):=hst.1.1
 have a4:0≤mSt (getI xs tStage.dflt j):=hst.2.1.2.2.1
 have a5:mSt (getI xs tStage.dflt j)≤1000000 - sMax (getI xs tStage.dflt j):=hst.2.1.2.2.2
 have a6:0≤sSt (getI xs tStage.dflt j):=hst.2.2.1.2.2.1
 have a7:sSt (getI xs tStage.dflt j)≤1000000 - sMax (getI xs tStage.dflt j):=hst.2.2.1.2.2.2
 rcases v3 with ⟨_,h6,_⟩|⟨_,h6,_⟩ <;> omega
end Go.AM.YtkgmmmhokgdcaaaGreat.Re
