/- The law ReserveWindows: flows whose steps have two tools, requests of their routes. -/
import Derived.Test.YtmohhhbgcehnpaaGreatReXK
import Derived.Test.YtmohhhbgcehnpaaGreatWnXK
import Derived.Test.YtmohhhbgcehnpaaGreatPw36
set_option linter.all false
namespace Go.AM.YtmohhhbgcehnpaaGreat.Re
open Go.Proofs
open Go.AM.YtmohhhbgcehnpaaGreat.Fl (StepT tStep stTl stNx stBk stMn stMx stLm stRc mkSs mkWs mkSt mkN mkN_b mk_step mk_wins mk_valid mkSs_len tS6 Int6 Int3 step_of step_sm flow_sm FlowSm StepSm valid_of asc_two asc_one WOk wok_nil inW_iff winAll winRow winAt winAll_mem winRow_mem winAt_mem linksF needsF needAt reqF reqE reqB reqW lineB argB hasB badN win_ne winAll_ws)
set_option maxRecDepth 100000
set_option maxHeartbeats 4000000
def Ins (ss:List StepT) (l:List Int):Prop:=∀ s∈l,0≤s∧s < (ss.length:Int)
abbrev VisT:=Int × Int × Int × Int
theorem vis_win {e a b:Int} {xs:List tStage.El} {ws:List tWin.El} {du mo:List Int} {de tl fa:Int} (hs:safeF e a b xs ws=true) (C:Pl.Chance e a b xs ws du mo de tl fa) {out:List VisT} (hv:∀ j,j < xs.length→VisOk xs du tl fa j (getI out Pl.tVisit.dflt j)) :
 (∀ j,j < xs.length→(0≤(getI out Pl.tVisit.dflt j).2.2.1∧(getI out Pl.tVisit.dflt j).2.2.1≤1000000)∧0≤(getI out Pl.tVisit.dflt j).2.2.2∧(getI out Pl.tVisit.dflt j).2.2.2≤2000000) ∧
 ∀ k,k < ws.length→∀ w:WiT,w=getI ws tWin.dflt k→(0≤w.1∧w.1 < (xs.length:Int)∧0≤w.2.1∧w.2.1 < (xs.length:Int))∧(getI out Pl.tVisit.dflt w.2.1.toNat).2.2.1 - (getI out Pl.tVisit.dflt w.1.toNat).2.2.2≤w.2.2:=by
 unfold safeF at hs
 simp only [Bool.and_eq_true,Bool.not_eq_true'] at hs
 obtain ⟨⟨hv1,hs1⟩,hs2⟩:=hs
 unfold slotsF at hs1
 rw [List.any_cons,Bool.or_eq_false_iff] at hs1
 obtain ⟨mg1,_⟩:=slotsG_mg hs1.2
 have hab:=C.ab
 have key:∀ j,j < xs.length→∀ x:StT,x=getI xs tStage.dflt j→∀ v:VisT,v=getI out Pl.tVisit.dflt j→(mSt x≤v.2.2.1∧v.2.2.1≤sSt x)∧(mSt x+sMin x≤v.2.2.2)∧(0≤v.2.2.1∧v.2.2.1≤1000000)∧0≤v.2.2.2∧v.2.2.2≤2000000:=fun j hj x hx v hvv=>by
  have h1:=hv j hj
  rw [← hvv] at h1
  obtain ⟨_,v2,v3⟩:=h1
  rw [← hx] at v3
  have hg:=mg1 j hj
  rw [← hx] at hg
  unfold Mg1 at hg
  have hst:=C.st j hj
  unfold Pl.StOk at hst
  have hat:=C.at' j hj
  unfold Pl.AtOk at hat
  have a1:sMin x≤getI du 0 j:=by rw [hx];exact hat.1.1
  have a2:getI du 0 j≤sMax x:=by rw [hx];exact hat.1.2
  have a3:1≤sMin x:=by rw [hx];exact hst.1.1
  have a4:0≤mSt x:=by rw [hx];exact hst.2.1.2.2.1
  have a5:sSt x≤1000000 - sMax x:=by rw [hx];exact hst.2.2.1.2.2.2
  have a6:sMax x≤10000:=by rw [hx];exact hst.1.2.2
  rcases v3 with ⟨_,h6,_⟩|⟨_,h6,_⟩ <;> refine ⟨⟨by omega,by omega⟩,by omega,⟨by omega,by omega⟩,by omega,by omega⟩
 refine ⟨fun j hj=>(key j hj _ rfl _ rfl).2.2,fun k hk w hw=>?_⟩
 have hW:=C.ws k hk
 unfold Pl.WiOk at hW
 rw [← hw] at hW
 have k1:(0:Int)≤w.1:=hW.1
 have k2:(w.1:Int) < w.2.1:=hW.2.1
 have k3:(w.2.1:Int) < (xs.length:Int):=hW.2.2.1
 refine ⟨⟨k1,by omega,by omega,k3⟩,?_⟩
 have f1:=key w.1.toNat (by omega) _ rfl _ rfl
 have f2:=key w.2.1.toNat (by omega) _ rfl _ rfl
 have hm:=List.any_eq_false.1 hs2 (winM xs w) (List.mem_map.2 ⟨w,by rw [hw];exact Pl.getI_mem hk,rfl⟩)
 unfold negB at hm
 rw [decide_eq_true_eq] at hm
 unfold winM at hm
 have hm:¬ (mSt (getI xs tStage.dflt w.1.toNat)+sMin (getI xs tStage.dflt w.1.toNat)+w.2.2 - sSt (getI xs tStage.dflt w.2.1.toNat) < 0):=hm
 omega
def wdS (k:Int) (s:StepT):StepT:=(s.1,[getI s.2.1 0 0,getI s.2.1 0 0+k],s.2.2.1,s.2.2.2.1,s.2.2.2.2.1,s.2.2.2.2.2.1,s.2.2.2.2.2.2)
theorem mkTl0 {n:Int} {i:Nat} {y:Int6}:0≤getI (stTl (mkSt n i y)) 0 0∧getI (stTl (mkSt n i y)) 0 0≤5:=by
 have p:=pick_b (c:=y.2.2.1) (n:=6) (by omega)
 have e:getI (stTl (mkSt n i y)) 0 0=pickF y.2.2.1 6:=by
  show getI (Fl.mkTl y) 0 0=_
  unfold Fl.mkTl
  cases decide (pickF (y.2.2.1.tdiv 6) 2=0) <;> rfl
 rw [e]
 omega
theorem wd_step {n:Int} {k:Int} {s:StepT} (h1:1≤k) (h2:k≤2) (h:Fl.stepF s n=true) (ht:0≤getI s.2.1 0 0∧getI s.2.1 0 0≤5):Fl.stepF (wdS k s) n=true:=by
 unfold Fl.stepF at h ⊢
 simp only [Bool.and_eq_true,Bool.or_eq_true,decide_eq_true_eq,inW_iff] at h ⊢
 obtain ⟨⟨⟨⟨⟨⟨⟨g1,g2⟩,g3⟩,g4⟩,g5⟩,g6⟩,g7⟩,g8⟩:=h
 refine ⟨⟨⟨⟨⟨⟨⟨g1,⟨⟨?_,?_⟩,g2.2⟩⟩,g3⟩,asc_two ht.1 (by omega) (by omega)⟩,g5⟩,g6⟩,g7⟩,g8⟩
 ·show (1:Int)≤((2:Nat):Int)
  omega
 ·show ((2:Nat):Int)≤8
  omega
def wdSs (k:Int) (x:List Int6):List StepT:=(mkSs x).map (wdS k)
theorem wd_valid {k:Int} (h1:1≤k) (h2:k≤2) {x:List Int6} {w:List Int3}:Fl.validF 2 5 (wdSs k x) (mkWs x w)=true:=by
 have hn:=mkN_b (x:=x)
 have hw:=mk_wins (n:=mkN x) hn.1 (r:=w.take 4) (acc:=[]) wok_nil (by intro v hv;cases hv)
 have hl:(wdSs k x).length=mkN x:=by unfold wdSs;rw [List.length_map,mkSs_len]
 refine valid_of (by omega) (by omega) (by omega) (by omega) (by omega) ?_ ?_ ?_
 ·show (List.foldl (Fl.step4 (mkN x)) [] (w.take 4)).length≤20
  have h1:=hw.2.2
  have h2:(w.take 4).length≤4:=by rw [List.length_take];omega
  simp only [List.length_nil] at h1
  omega
 ·rw [hl]
  intro s hs
  unfold wdSs at hs
  obtain ⟨s0,hs0,rfl⟩:=List.mem_map.1 hs
  unfold mkSs at hs0
  obtain ⟨i,hi,rfl⟩:=List.mem_map.1 hs0
  exact wd_step h1 h2 (mk_step (List.mem_range.1 hi) hn.2) mkTl0
 ·rw [hl]
  exact hw.1
theorem wd_len {k:Int} {x:List Int6}:1≤(wdSs k x).length∧(wdSs k x).length≤8:=by
 unfold wdSs
 rw [List.length_map,mkSs_len]
 exact mkN_b
theorem mkWs_len {x:List Int6} {w:List Int3}:(mkWs x w).length≤4:=by
 have hw:=(mk_wins (n:=mkN x) mkN_b.1 (r:=w.take 4) (acc:=[]) wok_nil (by intro v hv;cases hv)).2.2
 have h2:(w.take 4).length≤4:=by rw [List.length_take];omega
 simp only [List.length_nil] at hw
 show (List.foldl (Fl.step4 (mkN x)) [] (w.take 4)).length≤4
 omega
theorem wd_two {k:Int} {x:List Int6} {i:Nat} (h:i < (wdSs k x).length):∃ t,0≤t∧t≤5∧(getI (wdSs k x) tStep.dflt i).2.1=[t,t+k]:=by
 have hm:getI (wdSs k x) tStep.dflt i∈wdSs k x:=Fl.fl_mem h
 unfold wdSs at hm
 obtain ⟨s0,hs0,he⟩:=List.mem_map.1 hm
 unfold mkSs at hs0
 obtain ⟨j,hj,hs⟩:=List.mem_map.1 hs0
 have ht:=mkTl0 (n:=(mkN x:Int)) (i:=j) (y:=getI x tS6.dflt j)
 have hs:mkSt (mkN x) j (getI x tS6.dflt j)=s0:=hs
 rw [hs] at ht
 exact ⟨getI s0.2.1 0 0,ht.1,ht.2,by unfold wdSs;rw [← he];rfl⟩
def lexW (v w:Fl.WinT):Prop:=v.1 < w.1∨(v.1=w.1∧v.2.1 < w.2.1)
theorem winRow_lex {m:Fl.LkM} {f:Int} {i:Nat}:∀ {k:Nat},(winRow m f i k).Pairwise lexW
 | 0=>.nil
 | k+1=>by
   show (winRow m f i k++winAt m f i k).Pairwise lexW
   refine List.pairwise_append.2 ⟨winRow_lex,?_,fun a ha b hb=>?_⟩
   ·unfold winAt
    split
    ·exact List.pairwise_singleton _ _
    ·exact .nil
   ·obtain ⟨j,hj,ha⟩:=winRow_mem.1 ha
    obtain ⟨l1,_,rfl⟩:=winAt_mem.1 ha
    obtain ⟨l2,_,rfl⟩:=winAt_mem.1 hb
    exact .inr ⟨rfl,by show (j:Int) < (k:Int);omega⟩
theorem winAll_lex {m:Fl.LkM} {f:Int} {n:Nat}:∀ {k:Nat},(winAll m f n k).Pairwise lexW
 | 0=>.nil
 | k+1=>by
   show (winAll m f n k++winRow m f k n).Pairwise lexW
   refine List.pairwise_append.2 ⟨winAll_lex,winRow_lex,fun a ha b hb=>?_⟩
   obtain ⟨i,hi,j,_,ha⟩:=winAll_mem.1 ha
   obtain ⟨j2,_,hb⟩:=winRow_mem.1 hb
   obtain ⟨l1,_,rfl⟩:=winAt_mem.1 ha
   obtain ⟨l2,_,rfl⟩:=winAt_mem.1 hb
   exact .inl (by show (i:Int) < (k:Int);omega)
theorem inF_of {n lo hi:Int} (h1:lo≤n) (h2:n≤hi):inF n lo hi=true:=by unfold inF;rw [decide_eq_true h1,decide_eq_true h2];rfl
theorem req_rvalid {k:Int} (hk1:1≤k) (hk2:k≤2) {x:List Int6} {w:List Int3} {rt:List Int} (hin:Ins (wdSs k x) rt) {f n:Nat} (h1:1≤n) (h4:n≤4) (hfn:f+n≤rt.length) {e:Int} (he:0≤e∧e≤1000000) (hW:(winAll (linksF rt (mkWs x w)) (f:Int) n n).length≤20) :
 rvalidF e 2 5 (needsF (wdSs k x) rt (f:Int) n) (winAll (linksF rt (mkWs x w)) (f:Int) n n)=true:=by
 have hv:=wd_valid hk1 hk2 (x:=x) (w:=w)
 have F:=flow_sm hv
 have hnl:(needsF (wdSs k x) rt (f:Int) n).length=n:=by unfold needsF;rw [List.length_map,List.length_range]
 unfold rvalidF
 have a1:headBad e 2 5 (needsF (wdSs k x) rt (f:Int) n).length (winAll (linksF rt (mkWs x w)) (f:Int) n n).length=false:=by
  unfold headBad
  rw [hnl,inF_of he.1 he.2,inF_of (by omega) (by omega),inF_of (show (1:Int)≤(n:Int) by omega) (by omega),decide_eq_false (by omega),decide_eq_false (by omega)]
  rfl
 have a2:(needsF (wdSs k x) rt (f:Int) n).any needBad=false:=by
  rw [List.any_eq_false]
  intro y hy
  unfold needsF at hy
  obtain ⟨i,hi,rfl⟩:=List.mem_map.1 hy
  have hi:=List.mem_range.1 hi
  have hr:=hin _ (Fl.fl_mem (d:=(0:Int)) (show f+i < rt.length by omega))
  have hsl:(getI rt 0 (f+i)).toNat < (wdSs k x).length:=by omega
  obtain ⟨t,t0,t1,ht⟩:=wd_two hsl
  have hst:=F.st _ (Fl.fl_mem (d:=tStep.dflt) hsl)
  have m1:1≤(getI (wdSs k x) tStep.dflt (getI rt 0 (f+i)).toNat).2.2.1:=hst.mn
  have m2:(getI (wdSs k x) tStep.dflt (getI rt 0 (f+i)).toNat).2.2.1≤(getI (wdSs k x) tStep.dflt (getI rt 0 (f+i)).toNat).2.2.2.1:=hst.mm
  have m3:(getI (wdSs k x) tStep.dflt (getI rt 0 (f+i)).toNat).2.2.2.1≤10000:=hst.mx
  have e1:needAt (wdSs k x) rt (f:Int) i=([t,t+k],(getI (wdSs k x) tStep.dflt (getI rt 0 (f+i)).toNat).2.2.1,(getI (wdSs k x) tStep.dflt (getI rt 0 (f+i)).toNat).2.2.2.1):=by
   show ((getI (wdSs k x) tStep.dflt (getI rt 0 (f+i)).toNat).2.1,_,_)=_
   rw [ht]
   rfl
  rw [e1]
  unfold needBad needHd
  have b1:(List.range ([t,t+k]:List Int).length).any (toolBad [t,t+k])=false:=by
   rw [List.any_eq_false]
   intro j hj
   have hj:j < 2:=List.mem_range.1 hj
   have:j=0∨j=1:=by omega
   unfold toolBad
   rcases this with rfl|rfl
   ·rw [show getI [t,t+k] 0 0=t from rfl,inF_of t0 (by omega),decide_eq_false (by omega)]
    exact Bool.false_ne_true
   ·rw [show getI [t,t+k] 0 1=t+k from rfl,show getI [t,t+k] 0 (1 - 1)=t from rfl,inF_of (by omega) (by omega),decide_eq_false (show ¬ t+k≤t by omega)]
    simp
  dsimp only
  rw [b1,inF_of (show (2:Int)≤(([t,t+k]:List Int).length:Int) by simp) (by simp),inF_of m1 m2,decide_eq_false (by omega)]
  exact Bool.false_ne_true
 have a3:(List.range (winAll (linksF rt (mkWs x w)) (f:Int) n n).length).any (winBad (needsF (wdSs k x) rt (f:Int) n).length (winAll (linksF rt (mkWs x w)) (f:Int) n n))=false:=by
  have hlex:=winAll_lex (m:=linksF rt (mkWs x w)) (f:=(f:Int)) (n:=n) (k:=n)
  have hmem:=fun u hu=>Fl.rq_win2 hv (rt:=rt) (f:=f) (n:=n) (e:=u) hu
  rw [hnl]
  generalize winAll (linksF rt (mkWs x w)) (f:Int) n n=W at *
  rw [List.any_eq_false]
  intro i hi
  have hi:=List.mem_range.1 hi
  obtain ⟨p,q,lim,hu,hpq,hqn,l0,l1⟩:=hmem _ (Fl.fl_mem (d:=tWin.dflt) hi)
  unfold winBad
  rw [hu]
  dsimp only
  rw [inF_of (show (0:Int)≤(p:Int) by omega) (by omega),inF_of (show (p:Int)+1≤(q:Int) by omega) (by omega),inF_of l0 l1]
  by_cases h0:i=0
  ·rw [decide_eq_false (by omega)]
   exact Bool.false_ne_true
  ·have hl2:=List.pairwise_iff_getElem.1 hlex (i - 1) i (by omega) hi (by omega)
   have g1:getI W tWin.dflt (i - 1)=W[i - 1]:=by simp [getI,List.getD,List.getElem?_eq_getElem (show i - 1 < W.length by omega)]
   have g2:getI W tWin.dflt i=W[i]:=by simp [getI,List.getD,List.getElem?_eq_getElem hi]
   rw [← g1,← g2,hu] at hl2
   have:befF (getI W tWin.dflt (i - 1)).1 (getI W tWin.dflt (i - 1)).2.1 (p:Int) (q:Int)=true:=by
    unfold befF
    rw [Bool.or_eq_true,Bool.and_eq_true,decide_eq_true_eq,decide_eq_true_eq,decide_eq_true_eq]
    exact hl2
   rw [this]
   simp
 rw [a1,a2,a3]
 rfl
theorem vis_time {e a b:Int} {xs:List tStage.El} {ws:List tWin.El} {du mo:List Int} {de tl fa:Int} (C:Pl.Chance e a b xs ws du mo de tl fa) {out:List VisT} (hv:∀ j,j < xs.length→VisOk xs du tl fa j (getI out Pl.tVisit.dflt j)) :
 ∀ j,j < xs.length→(0≤(getI out Pl.tVisit.dflt j).2.2.1∧(getI out Pl.tVisit.dflt j).2.2.1≤1000000)∧0≤(getI out Pl.tVisit.dflt j).2.2.2∧(getI out Pl.tVisit.dflt j).2.2.2≤1000000:=by
 intro j hj
 obtain ⟨_,v2,v3⟩:=hv j hj
 have hst:=C.st j hj
 unfold Pl.StOk at hst
 have hat:=C.at' j hj
 unfold Pl.AtOk at hat
 have a1:sMin (getI xs tStage.dflt j)≤getI du 0 j:=hat.1.1
 have a2:getI du 0 j≤sMax (getI xs tStage.dflt j):=hat.1.2
 have a3:1≤sMin (getI xs tStage.dflt j):=hst.1.1
 have a4:0≤mSt (getI xs tStage.dflt j):=hst.2.1.2.2.1
 have a5:mSt (getI xs tStage.dflt j)≤1000000 - sMax (getI xs tStage.dflt j):=hst.2.1.2.2.2
 have a6:0≤sSt (getI xs tStage.dflt j):=hst.2.2.1.2.2.1
 have a7:sSt (getI xs tStage.dflt j)≤1000000 - sMax (getI xs tStage.dflt j):=hst.2.2.1.2.2.2
 rcases v3 with ⟨_,h6,_⟩|⟨_,h6,_⟩ <;> omega
end Go.AM.YtmohhhbgcehnpaaGreat.Re
