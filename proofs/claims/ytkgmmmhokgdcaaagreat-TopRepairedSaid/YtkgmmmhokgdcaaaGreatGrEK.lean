/- Package graph: the quickest ways; what is known of them. -/
import Derived.Test.YtkgmmmhokgdcaaaGreatGrDK
set_option linter.all false
namespace Go.AM.YtkgmmmhokgdcaaaGreat.Fl
open Go.Proofs
set_option maxRecDepth 100000
set_option maxHeartbeats 4000000
theorem inW_iff {n lo hi:Int}:inW n lo hi=true↔lo≤n∧n≤hi:=by
  unfold inW;rw [Bool.and_eq_true,decide_eq_true_eq,decide_eq_true_eq]
theorem ascF_in {l:List Int} {lo hi:Int} (h:ascF l lo hi=true):∀ n∈l,lo≤n∧n≤hi:=by
  intro n hn
  unfold ascF at h
  rw [Bool.not_eq_true',List.any_eq_false] at h
  obtain ⟨i,hi,rfl⟩:=List.getElem_of_mem hn
  have h1:=h i (List.mem_range.2 hi)
  unfold ascBad at h1
  rw [Bool.or_eq_true,not_or,Bool.not_eq_true',Bool.not_eq_false] at h1
  have h2:=inW_iff.1 h1.1
  have h3:getI l 0 i=l[i]:=by simp [getI,List.getD,List.getElem?_eq_getElem hi]
  rw [h3] at h2
  exact h2
structure StepSm (n:Nat) (s:StepT):Prop where
  mn:1≤stMn s
  mm:stMn s≤stMx s
  mx:stMx s≤10000
  nx:∀ m∈stNx s,0≤m∧m < n
  nl:(stNx s).length≤4
  tl:1≤(stTl s).length∧(stTl s).length≤8
  bk:(stBk s=-1∧stLm s=0)∨(0≤stBk s∧stBk s < n∧1≤stLm s∧stLm s≤9)
  rc:1≤stRc s∧stRc s≤1000000
  ts:∀ m∈stTl s,0≤m∧m≤59
theorem step_sm {n:Nat} {s:StepT} (h:stepF s n=true):StepSm n s:=by
  unfold stepF at h
  simp only [Bool.and_eq_true,Bool.or_eq_true,decide_eq_true_eq,inW_iff] at h
  obtain ⟨⟨⟨⟨⟨⟨⟨h1,h2⟩,h3⟩,h4⟩,h5⟩,h6⟩,h7⟩,h8⟩:=h
  refine ⟨h6,h7,h8,fun m hm=>?_,by omega,by omega,?_,h3,ascF_in h4⟩
  · have:=ascF_in h5 m hm
    omega
  · rcases h1 with h1|h1
    · exact .inl h1
    · exact .inr (by omega)
structure FlowSm (mn mx:Int) (ss:List StepT) (ws:List WinT):Prop where
  mn0:0≤mn
  mm:mn≤mx
  mx1:mx≤10000
  n1:1≤ss.length
  n2:ss.length≤40
  wl:ws.length≤20
  st:∀ s∈ss,StepSm ss.length s
  wn:∀ i,i < ws.length→rwF (getI ws tWin.dflt i) ss.length=true
theorem flow_sm {mn mx:Int} {ss:List StepT} {ws:List WinT} (h:validF mn mx ss ws=true):FlowSm mn mx ss ws:=by
  unfold validF movF at h
  simp only [Bool.and_eq_true,Bool.not_eq_true',Bool.or_eq_false_iff,Bool.not_eq_false',decide_eq_true_eq,decide_eq_false_iff_not,inW_iff,List.any_eq_false] at h
  obtain ⟨⟨⟨⟨h1,h2⟩,h3⟩,h4⟩,h5⟩:=h
  refine ⟨h1.1.1,h1.1.2,h1.2,by omega,by omega,by omega,fun s hs=>step_sm ?_,fun i hi=>?_⟩
  · have:=h4 s hs
    simpa using this
  · have:=h5 i (List.mem_range.2 hi)
    unfold winsBad at this
    simp only [Bool.not_eq_true,Bool.or_eq_false_iff,Bool.not_eq_false'] at this
    exact this.1
theorem aftL_mem {n:Int}:∀ {l:List Int} {b:Int},n∈aftL b l→(n=b∧0≤b)∨n∈l
  | [],b,h=>by
    unfold aftL at h
    cases hb:decide (b≥0)
    · rw [hb] at h;cases h
    · rw [hb] at h
      have:n=b:=by simpa using h
      exact .inl ⟨this,of_decide_eq_true hb⟩
  | m::r,b,h=>by
    unfold aftL at h
    cases hb:(decide (b≥0)&&decide (b < m))
    · rw [hb] at h
      rcases List.mem_cons.1 h with h|h
      · exact .inr (by simp [h])
      · cases h2:decide (b≤m)
        · rw [h2] at h
          rcases aftL_mem h with h|h
          · exact .inl h
          · exact .inr (by simp [h])
        · rw [h2] at h
          rcases aftL_mem h with h|h
          · have:=h.2;exact absurd this (by show ¬ (0≤(-1:Int));omega)
          · exact .inr (by simp [h])
    · rw [hb] at h
      rw [Bool.and_eq_true] at hb
      rcases List.mem_cons.1 h with h|h
      · exact .inl ⟨h,of_decide_eq_true hb.1⟩
      · rcases List.mem_cons.1 h with h|h
        · exact .inr (by simp [h])
        · rcases aftL_mem h with h|h
          · have:=h.2;omega
          · exact .inr (by simp [h])
theorem after_in {n:Nat} {s:StepT} (h:StepSm n s):∀ m∈aftL (stBk s) (stNx s),0≤m∧m < n:=by
  intro m hm
  rcases aftL_mem hm with ⟨h1,h2⟩|h1
  · have:=h.bk;omega
  · exact h.nx m h1
def pickW (out:List (Option WayT)) (done:List Bool):Nat→Int
  | 0=>-1
  | i+1=>bif (!(getI out none i).isNone&&!getI done false i)&&(decide (pickW out done i < 0)||decide (ordF ((getI out none i).getD w0) ((getI out none (pickW out done i).toNat).getD w0) < 0)) then (i:Int) else pickW out done i
theorem pickW_spec {out:List (Option WayT)} {done:List Bool}:∀ k:Nat,pickW out done k=-1∨∃ a:Nat,pickW out done k=a∧a < k∧(getI out none a).isSome=true∧getI done false a=false
  | 0=>.inl rfl
  | k+1=>by
    unfold pickW
    cases h:((!(getI out none k).isNone&&!getI done false k)&&(decide (pickW out done k < 0)||decide (ordF ((getI out none k).getD w0) ((getI out none (pickW out done k).toNat).getD w0) < 0)))
    · rcases pickW_spec k with h1|⟨a,h1,h2,h3⟩
      · exact .inl h1
      · exact .inr ⟨a,h1,by omega,h3⟩
    · rw [Bool.and_eq_true,Bool.and_eq_true,Bool.not_eq_true',Bool.not_eq_true'] at h
      exact .inr ⟨k,rfl,by omega,some_of h.1.1,h.1.2⟩
def nextW (mn:Int) (ss:List StepT) (out:List (Option WayT)) (a:Nat):WayT :=
  (((getI out none a).getD w0).1+stMn (getI ss tStep.dflt a)+mn,((getI out none a).getD w0).2++[(a:Int)])
def wLoop (mn:Int) (ss:List StepT):Nat→List (Option WayT)→List Bool→List (Option WayT)
  | 0,out,_=>out
  | f+1,out,done=>bif decide (pickW out done out.length < 0) then out else
    wLoop mn ss f (addW out (nextW mn ss out (pickW out done out.length).toNat) (afterL (getI ss tStep.dflt (pickW out done out.length).toNat))) (done.set (pickW out done out.length).toNat true)
def startW (mn:Int) (ss:List StepT) (from':Int):List (Option WayT):=addW (List.replicate ss.length none) (mn,[]) (afterL (getI ss tStep.dflt from'.toNat))
def waysF (mn:Int) (ss:List StepT) (from':Int):List (Option WayT):=wLoop mn ss (ss.length+1) (startW mn ss from') (List.replicate ss.length false)
def wayOk (k:Nat) (out:List (Option WayT)):Prop:=∀ w:WayT,some w∈out→(0≤w.1∧w.1≤20000 * (k+1))∧w.2.length≤k
theorem wayOk_mono {k m:Nat} {out:List (Option WayT)} (h:k≤m) (hk:wayOk k out):wayOk m out:=fun w hw=>by
  have:=hk w hw
  omega
theorem addStep_ok {k:Nat} {w:WayT} {out:List (Option WayT)} {n:Int} (h:wayOk k out) (hw:(0≤w.1∧w.1≤20000 * (k+1))∧w.2.length≤k):wayOk k (addStep w out n):=by
  unfold addStep
  cases ((getI out none n.toNat).isNone||decide (ordF w ((getI out none n.toNat).getD w0) < 0))
  · exact h
  · intro v hv
    rcases List.mem_or_eq_of_mem_set hv with h1|h1
    · exact h v h1
    · cases h1;exact hw
theorem addW_ok {k:Nat} {w:WayT}:∀ {ns:List Int} {out:List (Option WayT)},wayOk k out→(0≤w.1∧w.1≤20000 * (k+1))∧w.2.length≤k→wayOk k (addW out w ns)
  | [],_,h,_=>h
  | n::ns,out,h,hw=>by
    show wayOk k (addW (addStep w out n) w ns)
    exact addW_ok (addStep_ok h hw) hw
theorem getD_ok {k:Nat} {out:List (Option WayT)} (h:wayOk k out) (a:Nat):(0≤((getI out none a).getD w0).1∧((getI out none a).getD w0).1≤20000 * (k+1))∧((getI out none a).getD w0).2.length≤k:=by
  cases hg:getI out none a with
  | none=>exact ⟨⟨Int.le_refl _,by show (0:Int)≤_;omega⟩,Nat.zero_le _⟩
  | some w =>
    refine h w ?_
    by_cases ha:a < out.length
    · have:getI out none a=out[a]:=by simp [getI,List.getD,List.getElem?_eq_getElem ha]
      rw [← hg,this];exact List.getElem_mem ha
    · have:getI out none a=none:=by simp [getI,List.getD,List.getElem?_eq_none (Nat.le_of_not_lt ha)]
      rw [this] at hg;cases hg
theorem nextW_ok {k:Nat} {mn mx:Int} {ss:List StepT} {ws:List WinT} (F:FlowSm mn mx ss ws) {out:List (Option WayT)} (h:wayOk k out) {a:Nat} (ha:a < ss.length) :
    (0≤(nextW mn ss out a).1∧(nextW mn ss out a).1≤20000 * ((k+1:Nat)+1))∧(nextW mn ss out a).2.length≤k+1:=by
  have h1:=getD_ok h a
  have h2:=F.st _ (fl_mem (d:=tStep.dflt) ha)
  have h3:=h2.mn
  have h4:=h2.mm
  have h5:=h2.mx
  have h6:=F.mn0
  have h7:=F.mm
  have h8:=F.mx1
  unfold nextW
  refine ⟨⟨?_,?_⟩,?_⟩
  · show 0≤((getI out none a).getD w0).1+stMn (getI ss tStep.dflt a)+mn
    omega
  · show ((getI out none a).getD w0).1+stMn (getI ss tStep.dflt a)+mn≤_
    omega
  · show (((getI out none a).getD w0).2++[(a:Int)]).length≤_
    rw [List.length_append]
    have:=h1.2
    show _+1≤_
    omega
theorem wLoop_ok {mn mx:Int} {ss:List StepT} {ws:List WinT} (F:FlowSm mn mx ss ws):∀ (f k:Nat) (out:List (Option WayT)) (done:List Bool),out.length=ss.length→wayOk k out→(wLoop mn ss f out done).length=ss.length∧wayOk (k+f) (wLoop mn ss f out done)
  | 0,k,out,done,hl,h=>⟨hl,h⟩
  | f+1,k,out,done,hl,h=>by
    unfold wLoop
    cases hp:decide (pickW out done out.length < 0)
    · rcases pickW_spec (out:=out) (done:=done) out.length with h1|⟨a,h1,h2,_⟩
      · rw [h1] at hp;exact absurd hp (by decide)
      · have hat:(pickW out done out.length).toNat=a:=by rw [h1];rfl
        rw [hat]
        have:=wLoop_ok F f (k+1) (addW out (nextW mn ss out a) (afterL (getI ss tStep.dflt a))) (done.set a true) (by rw [addW_len,hl]) (addW_ok (wayOk_mono (by omega) h) (nextW_ok F h (by omega)))
        rw [show k+(f+1)=k+1+f by omega]
        exact this
    · exact ⟨hl,wayOk_mono (by omega) h⟩
theorem start_ok {mn mx:Int} {ss:List StepT} {ws:List WinT} (F:FlowSm mn mx ss ws) (f:Int):(startW mn ss f).length=ss.length∧wayOk 0 (startW mn ss f):=by
  unfold startW
  refine ⟨by rw [addW_len,List.length_replicate],addW_ok (fun w hw=>?_) ⟨⟨F.mn0,?_⟩,Nat.le_refl _⟩⟩
  · have:=List.eq_of_mem_replicate hw
    cases this
  · have:=F.mm
    have:=F.mx1
    show mn≤_
    omega
theorem waysF_ok {mn mx:Int} {ss:List StepT} {ws:List WinT} (F:FlowSm mn mx ss ws) (f:Int):(waysF mn ss f).length=ss.length∧wayOk 41 (waysF mn ss f):=by
  obtain ⟨h1,h2⟩:=start_ok F f
  obtain ⟨h3,h4⟩:=wLoop_ok F (ss.length+1) 0 _ (List.replicate ss.length false) h1 h2
  exact ⟨h3,wayOk_mono (by have:=F.n2;omega) h4⟩
theorem count_set {l:List Bool} {a:Nat} (ha:a < l.length) (h:getI l false a=false):(l.set a true).count true=l.count true+1:=by
  have h1:l[a]=false:=by
    have:getI l false a=l[a]:=by simp [getI,List.getD,List.getElem?_eq_getElem ha]
    rw [← this];exact h
  rw [List.count_set ha,h1]
  simp
end Go.AM.YtkgmmmhokgdcaaaGreat.Fl
