/- GrD, GrE, CaB, CaC, CaE, PlBase, PlA, PlB, PlC, PlD, PlE, PlF, ReA. -/
import Derived.Test.YtdohkcddjoammaaPw16
import Derived.Test.YtdohkcddjoammaaPw14

section
set_option linter.all false
namespace Go.AM.Ytdohkcddjoammaa.Fl
open Go.Proofs
set_option maxRecDepth 100000
set_option maxHeartbeats 4000000
def w0:WayT:=tWay.dflt
def addStep (w:WayT) (out:List (Option WayT)) (n:Int):List (Option WayT) :=
  bif (getI out none n.toNat).isNone||decide (ordF w ((getI out none n.toNat).getD w0) < 0) then out.set n.toNat (some w) else out
def addW (out:List (Option WayT)) (w:WayT) (ns:List Int):List (Option WayT):=ns.foldl (addStep w) out
theorem addW_snoc {out:List (Option WayT)} {w:WayT} {p:List Int} {x:Int}:addW out w (p++[x])=addStep w (addW out w p) x:=by
  unfold addW;rw [List.foldl_append];rfl
theorem addStep_len {out:List (Option WayT)} {w:WayT} {n:Int}:(addStep w out n).length=out.length:=by
  unfold addStep
  cases (getI out none n.toNat).isNone||decide (ordF w ((getI out none n.toNat).getD w0) < 0) <;> simp
theorem addW_len {w:WayT}:∀ {p:List Int} {out:List (Option WayT)},(addW out w p).length=out.length
  | [],_=>rfl
  | n::p,out=>by
    show (addW (addStep w out n) w p).length=_
    rw [addW_len,addStep_len]
theorem cut_none {α:Type} {L:List α}:(cut (contOf (fun _:List α=>(none:Option AExit))) [] L).1=L:=by
  rw [cut_all (fun _ _ _ _=>rfl)];rfl
theorem some_of {α:Type} {y:Option α} (h:y.isNone=false):y.isSome=true:=by cases y <;> simp_all
def add1S:Spec:=⟨true,fun args rows=>match args,rows with
  | [.agg [.int .i64 t,.own 0],.agg [.int .i64 rc,.sl (.int .i64) tl,.int .i64 mn,.int .i64 mx,.sl (.int .i64) nx,.int .i64 bk,.int .i64 lm],.ptr 1 0,.ptr 2 0],[.seq (.int .i64) xs,.box [.own 3],.box [.fn 63 [] []],.seq (.opt (.pair (.int .i64) (.slice (.int .i64)))) out] =>
    some ⟨∀ n∈aftL bk nx,0≤n∧n < out.length,.tup [],[.dead,.box [.own 3],.box [.fn 63 [] []],.seq (.opt tWay) (addW out (t,xs) (aftL bk nx))],true⟩
  | [.agg [.int .i64 t,.nilsl],.agg [.int .i64 rc,.sl (.int .i64) tl,.int .i64 mn,.int .i64 mx,.sl (.int .i64) nx,.int .i64 bk,.int .i64 lm],.ptr 0 0,.ptr 1 0],[.box [.own 2],.box [.fn 63 [] []],.seq (.opt (.pair (.int .i64) (.slice (.int .i64)))) out] =>
    some ⟨∀ n∈aftL bk nx,0≤n∧n < out.length,.tup [],[.box [.own 2],.box [.fn 63 [] []],.seq (.opt tWay) (addW out (t,[]) (aftL bk nx))],true⟩
  | _,_=>none⟩
def sigAdd:List (Nat × Spec):=[(63,ordS),(38,aftS),(61,aft1S)]
theorem sigAddOk:SigOk Try.prog (look sigAdd):=sigCons (sigCons (sigCons sigNil
  Try.func61 (by kernel_rfl) (c:=body Try.f61) rfl aft1Ok)
  Try.func38 (by kernel_rfl) (c:=body Try.f38) rfl aftOk)
  Try.func63 (by kernel_rfl) (c:=body Try.f63) rfl ordOk
theorem add1Ok:SpecSound Try.prog 64 add1S:=by
  refine soundR (envOf sigAddOk) Try.func64 (c:=body Try.f64) rfl (by kernel_rfl) rfl ?_
  intro args rows out hf hpre
  split at hf <;> try (cases hf;done)
  · rename_i t rc tl mn mx nx bk lm xs out
    cases hf
    refine ⟨Nat.le_of_ble_eq_true rfl,initI (args:=[.agg [.int .i64 t,.own 0],.agg [.int .i64 rc,.sl tInt tl,.int .i64 mn,.int .i64 mx,.sl tInt nx,.int .i64 bk,.int .i64 lm],.ptr 1 0,.ptr 2 0]) (rows:=[.seq tInt xs,.box [.own 3],.box [.fn 63 [] []],.seq (.opt tWay) out]) rfl ?_⟩
    refine freezeI 100000 rfl ?_
    repeat' (first|with_reducible (first|apply pN|apply cN|apply bN|apply cE|apply cR|apply bR|apply lE|apply lR|apply jE|apply jR)|refine zE ?_|refine zP ?_|refine pD ?_|refine zS ?_|refine zR ?_|refine zO ?_|refine zB ?_|refine zX ?_|refine zT ?_|refine skipI rfl ?_)
    refine rangeI (tInt) false (fun q=>[(100003,.seq (.opt tWay) (addW out (t,xs) q))]) (fun _=>none) (aftL bk nx) 8 rfl rfl rfl rfl rfl rfl rfl rfl rfl (fun _=>rfl) (fun _=>rfl) (fun _=>rfl) rfl rfl rfl ?_ ?_ ?_ ?_ ?_ ?_
    · exact ⟨rfl,rfl,rfl,by repeat' (first|exact trivial|exact rfl|refine And.intro ?_ ?_),by repeat' (first|exact trivial|exact rfl|refine And.intro ?_ ?_),rfl,rfl,rfl⟩
    · repeat' (first|exact trivial|exact rfl|refine ⟨rfl,?_⟩|refine And.intro ?_ ?_)
    · rfl
    · intro J
      exact ⟨_,_,rfl,fun h=>h,rfl,rfl⟩
    · intro l q x hq hjq hok
      refine ⟨_,rfl,?_⟩
      have hx:=hpre x (hq.subset (by simp))
      obtain ⟨o2,ho2⟩:∃ o2,o2=addW out (t,xs) q:=⟨_,rfl⟩
      have hlen:o2.length=out.length:=by rw [ho2,addW_len]
      rw [addW_snoc,← ho2]
      repeat' (first|with_reducible (first|apply pN|apply cN|apply bN|apply cE|apply cR|apply bR|apply lE|apply lR|apply jE|apply jR)|refine zE ?_|refine zP ?_|refine pD ?_|refine zS ?_|refine zR ?_|refine zO ?_|refine zB ?_|refine zX ?_|refine zT ?_|refine skipI rfl ?_)
      refine asN ?_
      repeat' (first|with_reducible (first|apply pN|apply cN|apply bN|apply cE|apply cR|apply bR|apply lE|apply lR|apply jE|apply jR)|refine zE ?_|refine zP ?_|refine pD ?_|refine pC (by first|exact some_of|(intros;exact True.intro)|omega) ?_|refine zS ?_|refine zR ?_|refine zO ?_|refine zB ?_|refine zX ?_|refine zT ?_|refine skipI rfl ?_)
      refine condI rfl (fun c3=>?_) (fun c3=>?_)
      · repeat' (first|with_reducible (first|apply pN|apply cN|apply bN|apply cE|apply cR|apply bR|apply lE|apply lR|apply jE|apply jR)|refine zE ?_|refine zP ?_|refine pD ?_|refine pC (by first|omega|(intros;omega)) ?_|refine zS ?_|refine zR ?_|refine zO ?_|refine zB ?_|refine zX ?_|refine zT ?_|refine skipI rfl ?_)
        refine yN rfl rfl ?_
        unfold addStep
        repeat' (first|exact trivial|exact rfl|refine ⟨rfl,?_⟩|refine And.intro ?_ ?_)
        rw [show ((getI o2 none (Int.toNat x)).isNone||decide (ordF (t,xs) ((getI o2 none (Int.toNat x)).getD w0) < 0))=true from c3]
        rfl
      · repeat' (first|with_reducible (first|apply pN|apply cN|apply bN|apply cE|apply cR|apply bR|apply lE|apply lR|apply jE|apply jR)|refine zE ?_|refine zP ?_|refine pD ?_|refine zS ?_|refine zR ?_|refine zO ?_|refine zB ?_|refine zX ?_|refine zT ?_|refine skipI rfl ?_)
        refine yN rfl rfl ?_
        unfold addStep
        repeat' (first|exact trivial|exact rfl|refine ⟨rfl,?_⟩|refine And.intro ?_ ?_)
        rw [show ((getI o2 none (Int.toNat x)).isNone||decide (ordF (t,xs) ((getI o2 none (Int.toNat x)).getD w0) < 0))=false from c3]
        rfl
    · rw [cut_none]
      repeat' (first|with_reducible (first|apply pN|apply cN|apply bN|apply cE|apply cR|apply bR|apply lE|apply lR|apply jE|apply jR)|refine zE ?_|refine zP ?_|refine pD ?_|refine zS ?_|refine zR ?_|refine zO ?_|refine zB ?_|refine zX ?_|refine zT ?_|refine skipI rfl ?_)
      refine endN rfl ?_
      repeat' (first|exact trivial|with_reducible exact rfl|refine And.intro ?_ ?_)
  · rename_i t rc tl mn mx nx bk lm out
    cases hf
    refine ⟨Nat.le_of_ble_eq_true rfl,initI (args:=[.agg [.int .i64 t,.nilsl],.agg [.int .i64 rc,.sl tInt tl,.int .i64 mn,.int .i64 mx,.sl tInt nx,.int .i64 bk,.int .i64 lm],.ptr 0 0,.ptr 1 0]) (rows:=[.box [.own 2],.box [.fn 63 [] []],.seq (.opt tWay) out]) rfl ?_⟩
    refine tidyI [(0,.agg [.int .i64 t,.sl tInt []])] [] rfl rfl ?_ ?_
    · repeat' (first|exact trivial|exact rfl|refine ⟨rfl,?_⟩|refine And.intro ?_ ?_)
    repeat' (first|with_reducible (first|apply pN|apply cN|apply bN|apply cE|apply cR|apply bR|apply lE|apply lR|apply jE|apply jR)|refine zE ?_|refine zP ?_|refine pD ?_|refine zS ?_|refine zR ?_|refine zO ?_|refine zB ?_|refine zX ?_|refine zT ?_|refine skipI rfl ?_)
    refine rangeI (tInt) false (fun q=>[(100002,.seq (.opt tWay) (addW out (t,[]) q))]) (fun _=>none) (aftL bk nx) 8 rfl rfl rfl rfl rfl rfl rfl rfl rfl (fun _=>rfl) (fun _=>rfl) (fun _=>rfl) rfl rfl rfl ?_ ?_ ?_ ?_ ?_ ?_
    · exact ⟨rfl,rfl,rfl,by repeat' (first|exact trivial|exact rfl|refine And.intro ?_ ?_),by repeat' (first|exact trivial|exact rfl|refine And.intro ?_ ?_),rfl,rfl,rfl⟩
    · repeat' (first|exact trivial|exact rfl|refine ⟨rfl,?_⟩|refine And.intro ?_ ?_)
    · rfl
    · intro J
      exact ⟨_,_,rfl,fun h=>h,rfl,rfl⟩
    · intro l q x hq hjq hok
      refine ⟨_,rfl,?_⟩
      have hx:=hpre x (hq.subset (by simp))
      obtain ⟨o2,ho2⟩:∃ o2,o2=addW out (t,[]) q:=⟨_,rfl⟩
      have hlen:o2.length=out.length:=by rw [ho2,addW_len]
      rw [addW_snoc,← ho2]
      repeat' (first|with_reducible (first|apply pN|apply cN|apply bN|apply cE|apply cR|apply bR|apply lE|apply lR|apply jE|apply jR)|refine zE ?_|refine zP ?_|refine pD ?_|refine zS ?_|refine zR ?_|refine zO ?_|refine zB ?_|refine zX ?_|refine zT ?_|refine skipI rfl ?_)
      refine asN ?_
      repeat' (first|with_reducible (first|apply pN|apply cN|apply bN|apply cE|apply cR|apply bR|apply lE|apply lR|apply jE|apply jR)|refine zE ?_|refine zP ?_|refine pD ?_|refine pC (by first|exact some_of|(intros;exact True.intro)|omega) ?_|refine zS ?_|refine zR ?_|refine zO ?_|refine zB ?_|refine zX ?_|refine zT ?_|refine skipI rfl ?_)
      refine condI rfl (fun c3=>?_) (fun c3=>?_)
      · repeat' (first|with_reducible (first|apply pN|apply cN|apply bN|apply cE|apply cR|apply bR|apply lE|apply lR|apply jE|apply jR)|refine zE ?_|refine zP ?_|refine pD ?_|refine pC (by first|omega|(intros;omega)) ?_|refine zS ?_|refine zR ?_|refine zO ?_|refine zB ?_|refine zX ?_|refine zT ?_|refine skipI rfl ?_)
        refine yN rfl rfl ?_
        unfold addStep
        repeat' (first|exact trivial|exact rfl|refine ⟨rfl,?_⟩|refine And.intro ?_ ?_)
        rw [show ((getI o2 none (Int.toNat x)).isNone||decide (ordF (t,[]) ((getI o2 none (Int.toNat x)).getD w0) < 0))=true from c3]
        rfl
      · repeat' (first|with_reducible (first|apply pN|apply cN|apply bN|apply cE|apply cR|apply bR|apply lE|apply lR|apply jE|apply jR)|refine zE ?_|refine zP ?_|refine pD ?_|refine zS ?_|refine zR ?_|refine zO ?_|refine zB ?_|refine zX ?_|refine zT ?_|refine skipI rfl ?_)
        refine yN rfl rfl ?_
        unfold addStep
        repeat' (first|exact trivial|exact rfl|refine ⟨rfl,?_⟩|refine And.intro ?_ ?_)
        rw [show ((getI o2 none (Int.toNat x)).isNone||decide (ordF (t,[]) ((getI o2 none (Int.toNat x)).getD w0) < 0))=false from c3]
        rfl
    · rw [cut_none]
      repeat' (first|with_reducible (first|apply pN|apply cN|apply bN|apply cE|apply cR|apply bR|apply lE|apply lR|apply jE|apply jR)|refine zE ?_|refine zP ?_|refine pD ?_|refine zS ?_|refine zR ?_|refine zO ?_|refine zB ?_|refine zX ?_|refine zT ?_|refine skipI rfl ?_)
      refine endN rfl ?_
      repeat' (first|exact trivial|with_reducible exact rfl|refine And.intro ?_ ?_)
end Go.AM.Ytdohkcddjoammaa.Fl
end

section
set_option linter.all false
namespace Go.AM.Ytdohkcddjoammaa.Fl
open Go.Proofs
set_option maxRecDepth 100000
set_option maxHeartbeats 4000000
theorem inW_iff {n lo hi:Int}:inW n lo hi=true↔lo≤n∧n≤hi:=by
  unfold inW;rw [Bool.and_eq_true,decide_eq_true_eq,decide_eq_true_eq]
theorem ascF_in {l:List Int} {lo hi:Int} (h:ascF l lo hi=true):∀ n∈l,lo≤n∧n≤hi:=by
  intro n hn
  unfold ascF at h
  rw [Bool.not_eq_true',List.any_eq_false] at h
  obtain ⟨i,hi,rfl⟩:=List.getElem_of_mem hn
  have h1:=h i (List.mem_range.2 hi)
  unfold ascBad at h1
  rw [Bool.or_eq_true,not_or,Bool.not_eq_true',Bool.not_eq_false] at h1
  have h2:=inW_iff.1 h1.1
  have h3:getI l 0 i=l[i]:=by simp [getI,List.getD,List.getElem?_eq_getElem hi]
  rw [h3] at h2
  exact h2
structure StepSm (n:Nat) (s:StepT):Prop where
  mn:1≤stMn s
  mm:stMn s≤stMx s
  mx:stMx s≤10000
  nx:∀ m∈stNx s,0≤m∧m < n
  nl:(stNx s).length≤4
  tl:1≤(stTl s).length∧(stTl s).length≤8
  bk:(stBk s=-1∧stLm s=0)∨(0≤stBk s∧stBk s < n∧1≤stLm s∧stLm s≤9)
  rc:1≤stRc s∧stRc s≤1000000
  ts:∀ m∈stTl s,0≤m∧m≤59
theorem step_sm {n:Nat} {s:StepT} (h:stepF s n=true):StepSm n s:=by
  unfold stepF at h
  simp only [Bool.and_eq_true,Bool.or_eq_true,decide_eq_true_eq,inW_iff] at h
  obtain ⟨⟨⟨⟨⟨⟨⟨h1,h2⟩,h3⟩,h4⟩,h5⟩,h6⟩,h7⟩,h8⟩:=h
  refine ⟨h6,h7,h8,fun m hm=>?_,by omega,by omega,?_,h3,ascF_in h4⟩
  · have:=ascF_in h5 m hm
    omega
  · rcases h1 with h1|h1
    · exact .inl h1
    · exact .inr (by omega)
structure FlowSm (mn mx:Int) (ss:List StepT) (ws:List WinT):Prop where
  mn0:0≤mn
  mm:mn≤mx
  mx1:mx≤10000
  n1:1≤ss.length
  n2:ss.length≤40
  wl:ws.length≤20
  st:∀ s∈ss,StepSm ss.length s
  wn:∀ i,i < ws.length→rwF (getI ws tWin.dflt i) ss.length=true
theorem flow_sm {mn mx:Int} {ss:List StepT} {ws:List WinT} (h:validF mn mx ss ws=true):FlowSm mn mx ss ws:=by
  unfold validF movF at h
  simp only [Bool.and_eq_true,Bool.not_eq_true',Bool.or_eq_false_iff,Bool.not_eq_false',decide_eq_true_eq,decide_eq_false_iff_not,inW_iff,List.any_eq_false] at h
  obtain ⟨⟨⟨⟨h1,h2⟩,h3⟩,h4⟩,h5⟩:=h
  refine ⟨h1.1.1,h1.1.2,h1.2,by omega,by omega,by omega,fun s hs=>step_sm ?_,fun i hi=>?_⟩
  · have:=h4 s hs
    simpa using this
  · have:=h5 i (List.mem_range.2 hi)
    unfold winsBad at this
    simp only [Bool.not_eq_true,Bool.or_eq_false_iff,Bool.not_eq_false'] at this
    exact this.1
theorem aftL_mem {n:Int}:∀ {l:List Int} {b:Int},n∈aftL b l→(n=b∧0≤b)∨n∈l
  | [],b,h=>by
    unfold aftL at h
    cases hb:decide (b≥0)
    · rw [hb] at h;cases h
    · rw [hb] at h
      have:n=b:=by simpa using h
      exact .inl ⟨this,of_decide_eq_true hb⟩
  | m::r,b,h=>by
    unfold aftL at h
    cases hb:(decide (b≥0)&&decide (b < m))
    · rw [hb] at h
      rcases List.mem_cons.1 h with h|h
      · exact .inr (by simp [h])
      · cases h2:decide (b≤m)
        · rw [h2] at h
          rcases aftL_mem h with h|h
          · exact .inl h
          · exact .inr (by simp [h])
        · rw [h2] at h
          rcases aftL_mem h with h|h
          · have:=h.2;exact absurd this (by show ¬ (0≤(-1:Int));omega)
          · exact .inr (by simp [h])
    · rw [hb] at h
      rw [Bool.and_eq_true] at hb
      rcases List.mem_cons.1 h with h|h
      · exact .inl ⟨h,of_decide_eq_true hb.1⟩
      · rcases List.mem_cons.1 h with h|h
        · exact .inr (by simp [h])
        · rcases aftL_mem h with h|h
          · have:=h.2;omega
          · exact .inr (by simp [h])
theorem after_in {n:Nat} {s:StepT} (h:StepSm n s):∀ m∈aftL (stBk s) (stNx s),0≤m∧m < n:=by
  intro m hm
  rcases aftL_mem hm with ⟨h1,h2⟩|h1
  · have:=h.bk;omega
  · exact h.nx m h1
def pickW (out:List (Option WayT)) (done:List Bool):Nat→Int
  | 0=>-1
  | i+1=>bif (!(getI out none i).isNone&&!getI done false i)&&(decide (pickW out done i < 0)||decide (ordF ((getI out none i).getD w0) ((getI out none (pickW out done i).toNat).getD w0) < 0)) then (i:Int) else pickW out done i
theorem pickW_spec {out:List (Option WayT)} {done:List Bool}:∀ k:Nat,pickW out done k=-1∨∃ a:Nat,pickW out done k=a∧a < k∧(getI out none a).isSome=true∧getI done false a=false
  | 0=>.inl rfl
  | k+1=>by
    unfold pickW
    cases h:((!(getI out none k).isNone&&!getI done false k)&&(decide (pickW out done k < 0)||decide (ordF ((getI out none k).getD w0) ((getI out none (pickW out done k).toNat).getD w0) < 0)))
    · rcases pickW_spec k with h1|⟨a,h1,h2,h3⟩
      · exact .inl h1
      · exact .inr ⟨a,h1,by omega,h3⟩
    · rw [Bool.and_eq_true,Bool.and_eq_true,Bool.not_eq_true',Bool.not_eq_true'] at h
      exact .inr ⟨k,rfl,by omega,some_of h.1.1,h.1.2⟩
def nextW (mn:Int) (ss:List StepT) (out:List (Option WayT)) (a:Nat):WayT :=
  (((getI out none a).getD w0).1+stMn (getI ss tStep.dflt a)+mn,((getI out none a).getD w0).2++[(a:Int)])
def wLoop (mn:Int) (ss:List StepT):Nat→List (Option WayT)→List Bool→List (Option WayT)
  | 0,out,_=>out
  | f+1,out,done=>bif decide (pickW out done out.length < 0) then out else
    wLoop mn ss f (addW out (nextW mn ss out (pickW out done out.length).toNat) (afterL (getI ss tStep.dflt (pickW out done out.length).toNat))) (done.set (pickW out done out.length).toNat true)
def startW (mn:Int) (ss:List StepT) (from':Int):List (Option WayT):=addW (List.replicate ss.length none) (mn,[]) (afterL (getI ss tStep.dflt from'.toNat))
def waysF (mn:Int) (ss:List StepT) (from':Int):List (Option WayT):=wLoop mn ss (ss.length+1) (startW mn ss from') (List.replicate ss.length false)
def wayOk (k:Nat) (out:List (Option WayT)):Prop:=∀ w:WayT,some w∈out→(0≤w.1∧w.1≤20000 * (k+1))∧w.2.length≤k
theorem wayOk_mono {k m:Nat} {out:List (Option WayT)} (h:k≤m) (hk:wayOk k out):wayOk m out:=fun w hw=>by
  have:=hk w hw
  omega
theorem addStep_ok {k:Nat} {w:WayT} {out:List (Option WayT)} {n:Int} (h:wayOk k out) (hw:(0≤w.1∧w.1≤20000 * (k+1))∧w.2.length≤k):wayOk k (addStep w out n):=by
  unfold addStep
  cases ((getI out none n.toNat).isNone||decide (ordF w ((getI out none n.toNat).getD w0) < 0))
  · exact h
  · intro v hv
    rcases List.mem_or_eq_of_mem_set hv with h1|h1
    · exact h v h1
    · cases h1;exact hw
theorem addW_ok {k:Nat} {w:WayT}:∀ {ns:List Int} {out:List (Option WayT)},wayOk k out→(0≤w.1∧w.1≤20000 * (k+1))∧w.2.length≤k→wayOk k (addW out w ns)
  | [],_,h,_=>h
  | n::ns,out,h,hw=>by
    show wayOk k (addW (addStep w out n) w ns)
    exact addW_ok (addStep_ok h hw) hw
theorem getD_ok {k:Nat} {out:List (Option WayT)} (h:wayOk k out) (a:Nat):(0≤((getI out none a).getD w0).1∧((getI out none a).getD w0).1≤20000 * (k+1))∧((getI out none a).getD w0).2.length≤k:=by
  cases hg:getI out none a with
  | none=>exact ⟨⟨Int.le_refl _,by show (0:Int)≤_;omega⟩,Nat.zero_le _⟩
  | some w =>
    refine h w ?_
    by_cases ha:a < out.length
    · have:getI out none a=out[a]:=by simp [getI,List.getD,List.getElem?_eq_getElem ha]
      rw [← hg,this];exact List.getElem_mem ha
    · have:getI out none a=none:=by simp [getI,List.getD,List.getElem?_eq_none (Nat.le_of_not_lt ha)]
      rw [this] at hg;cases hg
theorem nextW_ok {k:Nat} {mn mx:Int} {ss:List StepT} {ws:List WinT} (F:FlowSm mn mx ss ws) {out:List (Option WayT)} (h:wayOk k out) {a:Nat} (ha:a < ss.length) :
    (0≤(nextW mn ss out a).1∧(nextW mn ss out a).1≤20000 * ((k+1:Nat)+1))∧(nextW mn ss out a).2.length≤k+1:=by
  have h1:=getD_ok h a
  have h2:=F.st _ (fl_mem (d:=tStep.dflt) ha)
  have h3:=h2.mn
  have h4:=h2.mm
  have h5:=h2.mx
  have h6:=F.mn0
  have h7:=F.mm
  have h8:=F.mx1
  unfold nextW
  refine ⟨⟨?_,?_⟩,?_⟩
  · show 0≤((getI out none a).getD w0).1+stMn (getI ss tStep.dflt a)+mn
    omega
  · show ((getI out none a).getD w0).1+stMn (getI ss tStep.dflt a)+mn≤_
    omega
  · show (((getI out none a).getD w0).2++[(a:Int)]).length≤_
    rw [List.length_append]
    have:=h1.2
    show _+1≤_
    omega
theorem wLoop_ok {mn mx:Int} {ss:List StepT} {ws:List WinT} (F:FlowSm mn mx ss ws):∀ (f k:Nat) (out:List (Option WayT)) (done:List Bool),out.length=ss.length→wayOk k out→(wLoop mn ss f out done).length=ss.length∧wayOk (k+f) (wLoop mn ss f out done)
  | 0,k,out,done,hl,h=>⟨hl,h⟩
  | f+1,k,out,done,hl,h=>by
    unfold wLoop
    cases hp:decide (pickW out done out.length < 0)
    · rcases pickW_spec (out:=out) (done:=done) out.length with h1|⟨a,h1,h2,_⟩
      · rw [h1] at hp;exact absurd hp (by decide)
      · have hat:(pickW out done out.length).toNat=a:=by rw [h1];rfl
        rw [hat]
        have:=wLoop_ok F f (k+1) (addW out (nextW mn ss out a) (afterL (getI ss tStep.dflt a))) (done.set a true) (by rw [addW_len,hl]) (addW_ok (wayOk_mono (by omega) h) (nextW_ok F h (by omega)))
        rw [show k+(f+1)=k+1+f by omega]
        exact this
    · exact ⟨hl,wayOk_mono (by omega) h⟩
theorem start_ok {mn mx:Int} {ss:List StepT} {ws:List WinT} (F:FlowSm mn mx ss ws) (f:Int):(startW mn ss f).length=ss.length∧wayOk 0 (startW mn ss f):=by
  unfold startW
  refine ⟨by rw [addW_len,List.length_replicate],addW_ok (fun w hw=>?_) ⟨⟨F.mn0,?_⟩,Nat.le_refl _⟩⟩
  · have:=List.eq_of_mem_replicate hw
    cases this
  · have:=F.mm
    have:=F.mx1
    show mn≤_
    omega
theorem waysF_ok {mn mx:Int} {ss:List StepT} {ws:List WinT} (F:FlowSm mn mx ss ws) (f:Int):(waysF mn ss f).length=ss.length∧wayOk 41 (waysF mn ss f):=by
  obtain ⟨h1,h2⟩:=start_ok F f
  obtain ⟨h3,h4⟩:=wLoop_ok F (ss.length+1) 0 _ (List.replicate ss.length false) h1 h2
  exact ⟨h3,wayOk_mono (by have:=F.n2;omega) h4⟩
theorem count_set {l:List Bool} {a:Nat} (ha:a < l.length) (h:getI l false a=false):(l.set a true).count true=l.count true+1:=by
  have h1:l[a]=false:=by
    have:getI l false a=l[a]:=by simp [getI,List.getD,List.getElem?_eq_getElem ha]
    rw [← this];exact h
  rw [List.count_set ha,h1]
  simp
end Go.AM.Ytdohkcddjoammaa.Fl
end

section
set_option linter.all false
namespace Go.AM.Ytdohkcddjoammaa
open Go.Proofs
set_option maxRecDepth 100000
set_option maxHeartbeats 4000000
structure Cal (xss:List (List Bk.El)):Prop where
  len:xss.length=60
  small:∀ xs∈xss,List.length (α:=Bk.El) xs≤1000000
theorem Cal.get {xss:List (List Bk.El)} (h:Cal xss) {i:Nat} (hi:i < 60):(getI xss [] i)∈xss∧(getI xss [] i).length≤1000000:=by
  have h1:i < xss.length:=by rw [h.len];exact hi
  have h2:getI xss [] i=xss[i]:=by simp [getI,List.getD,List.getElem?_eq_getElem h1]
  rw [h2]
  exact ⟨List.getElem_mem h1,h.small _ (List.getElem_mem h1)⟩
def noCal:List (List Bk.El):=List.replicate 60 []
theorem noCal_ok:Cal noCal:=⟨by simp [noCal],fun xs h=>by have:=(List.mem_replicate.1 h).2;subst this;simp⟩
def newS:Spec:=plain fun
  | []=>some ⟨True,.ptr 0 0,[.arr Bk noCal none],false⟩
  | _=>none
def cloneN:Spec:=plain fun
  | [.ext (.nl (.pair (.int .i64) (.pair (.int .i64) (.pair (.int .i64) (.int .i64)))))]=>some ⟨True,.own 0,[.seq Bk []],false⟩
  | _=>none
def cloneM:Spec:=plain fun
  | [.ext (.nn (.pair (.int .i64) (.pair (.int .i64) (.pair (.int .i64) (.int .i64)))) xs)]=>some ⟨xs.length * 32≤140737488355328,.own 0,[.seq Bk xs],false⟩
  | _=>none
def cloneS:Spec:=plain fun
  | [.sl (.pair (.int .i64) (.pair (.int .i64) (.pair (.int .i64) (.int .i64)))) xs]=>some ⟨xs.length * 32≤140737488355328,.own 0,[.seq Bk xs],false⟩
  | _=>none
def toolL (xss:List (List Bk.El)) (tl:Int):List Bk.El:=getI xss [] tl.toNat
def busyF (xss:List (List Bk.El)) (tl s e:Int):Bool:=toolB tl&&(decide (s < e)&&(toolL xss tl).any (meetE s e))
def busyS:Spec:=plain fun
  | [.nilptr,.int .i64 tl,.int .i64 s,.int .i64 e]=>outV True (.bool false)
  | [.ext (.cref (.pair (.int .i64) (.pair (.int .i64) (.pair (.int .i64) (.int .i64)))) xss 0),.int .i64 tl,.int .i64 s,.int .i64 e]=>outV (Cal xss) (.bool (busyF xss tl s e))
  | _=>none
theorem toolB_true {tl:Int} (h:toolB tl=true):0≤tl∧tl < 60:=by
  unfold toolB at h;simpa using h
theorem toolB_of {tl:Int} (h:0≤tl) (k:tl < 60):toolB tl=true:=by
  unfold toolB;simp [h,k]
end Go.AM.Ytdohkcddjoammaa
end

section
set_option linter.all false
namespace Go.AM.Ytdohkcddjoammaa
open Go.Proofs
set_option maxRecDepth 100000
set_option maxHeartbeats 4000000
def listF (xss:List (List Bk.El)) (tl:Int):List Bk.El:=if toolB tl=true then toolL xss tl else []
def listS:Spec:=plain fun
  | [.nilptr,.int .i64 tl]=>some ⟨True,.own 0,[.seq Bk []],false⟩
  | [.ext (.cref (.pair (.int .i64) (.pair (.int .i64) (.pair (.int .i64) (.int .i64)))) xss 0),.int .i64 tl]=>some ⟨Cal xss,.own 0,[.seq Bk (listF xss tl)],false⟩
  | _=>none
def lenF (xss:List (List Bk.El)):Nat:=(xss.map List.length).sum
theorem lenF_take_succ {xss:List (List Bk.El)} {i:Nat} (h:i < xss.length):lenF (xss.take (i+1))=lenF (xss.take i)+(getI xss [] i).length:=by
  have:getI xss [] i=xss[i]:=by simp [getI,List.getD,List.getElem?_eq_getElem h]
  unfold lenF
  rw [List.take_succ_eq_append_getElem h,this,List.map_append,List.sum_append]
  simp only [List.map_cons,List.map_nil,List.sum_cons,List.sum_nil,Nat.add_zero]
theorem lenF_small {xss:List (List Bk.El)} (h:∀ xs∈xss,List.length (α:=Bk.El) xs≤1000000):lenF xss≤xss.length * 1000000:=by
  induction xss with
  | nil=>simp [lenF]
  | cons x r ih =>
    have h1:=ih fun xs hx=>h xs (by simp [hx])
    have h2:=h x (by simp)
    simp only [lenF,List.map_cons,List.sum_cons,List.length_cons] at *
    omega
def lenS:Spec:=plain fun
  | [.nilptr]=>outV True (.int .i64 0)
  | [.ext (.cref (.pair (.int .i64) (.pair (.int .i64) (.pair (.int .i64) (.int .i64)))) xss 0)]=>outV (Cal xss) (.int .i64 (lenF xss))
  | _=>none
def ownedF (xss:List (List Bk.El)) (o:Int):List Bk.El:=(xss.flatten).filter (ownsB o)
theorem flat_len (xss:List (List Bk.El)):xss.flatten.length=lenF xss:=by
  simp [lenF,List.length_flatten]
theorem flat_take_succ {xss:List (List Bk.El)} {i:Nat} (h:i < xss.length):(xss.take (i+1)).flatten=(xss.take i).flatten++getI xss [] i:=by
  have:getI xss [] i=xss[i]:=by simp [getI,List.getD,List.getElem?_eq_getElem h]
  rw [List.take_succ_eq_append_getElem h,this,List.flatten_append]
  simp only [List.flatten_cons,List.flatten_nil,List.append_nil]
theorem take_succ_getI {α:Type} {xs:List α} {d:α} {j:Nat} (h:j < xs.length):xs.take (j+1)=xs.take j++[getI xs d j]:=by
  have:getI xs d j=xs[j]:=by simp [getI,List.getD,List.getElem?_eq_getElem h]
  rw [List.take_succ_eq_append_getElem h,this]
def ownedS:Spec:=plain fun
  | [.nilptr,.int .i64 o]=>some ⟨True,.own 0,[.seq Bk []],false⟩
  | [.ext (.cref (.pair (.int .i64) (.pair (.int .i64) (.pair (.int .i64) (.int .i64)))) xss 0),.int .i64 o]=>some ⟨Cal xss,.own 0,[.seq Bk (ownedF xss o)],false⟩
  | _=>none
end Go.AM.Ytdohkcddjoammaa
end

section
set_option linter.all false
namespace Go.AM.Ytdohkcddjoammaa
open Go.Proofs
set_option maxRecDepth 100000
set_option maxHeartbeats 4000000
theorem idxF_cases {α:Type} {p:α→Bool} {d:α}:∀ {xs:List α},(idxF p xs=-1∧∀ x∈xs,p x=false)∨(∃ i:Nat,idxF p xs=i∧i < xs.length∧(∀ x∈xs.take i,p x=false)∧p (getI xs d i)=true)
  | []=>.inl ⟨rfl,by simp⟩
  | x::xs=>by
    by_cases hx:p x=true
    · exact .inr ⟨0,by simp [idxF,hx],by simp,by simp,hx⟩
    · have hx:p x=false:=by simpa using hx
      rcases idxF_cases (p:=p) (d:=d) (xs:=xs) with ⟨h1,h2⟩|⟨i,h1,h2,h3,h4⟩
      · refine .inl ⟨by simp [idxF,hx,h1],fun y hy=>?_⟩
        rcases List.mem_cons.1 hy with rfl|hy
        · exact hx
        · exact h2 y hy
      · refine .inr ⟨i+1,?_,by simp;omega,fun y hy=>?_,h4⟩
        · simp only [idxF,hx,h1]
          simp
          omega
        · rw [List.take_succ_cons] at hy
          rcases List.mem_cons.1 hy with rfl|hy
          · exact hx
          · exact h3 y hy
def delF (xs:List Bk.El) (o:Int):List Bk.El:=xs.filter fun b=>!ownsB o b
theorem take_set_succ {α:Type} {d:α} {L:List α} {i:Nat} {v:α} (h:i < L.length):(L.set i v).take (i+1)=L.take i++[v]:=by
  rw [List.take_succ_eq_append_getElem (by simpa using h),List.take_set_of_le (by omega)]
  simp
def freedF (xss:List (List Bk.El)) (o:Int):List (List Bk.El):=xss.map fun xs=>delF xs o
theorem delF_len (xs:List Bk.El) (o:Int):(delF xs o).length≤xs.length:=List.length_filter_le _ _
theorem freed_ok {xss:List (List Bk.El)} (h:Cal xss) (o:Int):Cal (freedF xss o):=⟨by unfold freedF;rw [List.length_map];exact h.len,fun xs hx=>by
  unfold freedF at hx
  obtain ⟨ys,hy,rfl⟩:=List.mem_map.1 hx
  exact Nat.le_trans (delF_len ys o) (h.small ys hy)⟩
def freeS:Spec:=⟨true,fun args rows=>match args,rows with
  | [.nilptr,.int .i64 o],[]=>some ⟨True,.int .i64 0,[],true⟩
  | [.ptr 0 0,.int .i64 o],[.arr (.pair (.int .i64) (.pair (.int .i64) (.pair (.int .i64) (.int .i64)))) xss none]=>some ⟨Cal xss,.int .i64 (lenF xss - lenF (freedF xss o)),[.arr Bk (freedF xss o) none],true⟩
  | _,_=>none⟩
theorem map_take_set {f:List Bk.El→List Bk.El} {xss:List (List Bk.El)} {i:Nat} (h:i < xss.length):((xss.take i).map f++xss.drop i).set i (f (getI xss [] i))=(xss.take (i+1)).map f++xss.drop (i+1):=by
  have h1:((xss.take i).map f).length=i:=by simp;omega
  rw [take_succ_getI (d:=[]) h,List.map_append,List.set_append_right _ _ (by omega),h1,Nat.sub_self,List.drop_eq_getElem_cons h,List.set_cons_zero]
  simp only [List.map_cons,List.map_nil,List.append_assoc,List.singleton_append]
theorem map_take_get {f:List Bk.El→List Bk.El} {xss:List (List Bk.El)} {i:Nat} (h:i < xss.length):getI ((xss.take i).map f++xss.drop i) [] i=getI xss [] i:=by
  have h1:((xss.take i).map f).length=i:=by simp;omega
  unfold getI
  rw [List.getD_eq_getElem?_getD,List.getD_eq_getElem?_getD,List.getElem?_append_right (by omega),h1,Nat.sub_self,List.getElem?_drop,Nat.add_zero]
theorem take_drop_set {xss yss:List (List Bk.El)} {i:Nat} (h:i < xss.length) (k:i < yss.length):(xss.take i++yss.drop i).set i (getI xss [] i)=xss.take (i+1)++yss.drop (i+1):=by
  have h1:(xss.take i).length=i:=by rw [List.length_take];omega
  rw [take_succ_getI (d:=[]) h,List.set_append_right _ _ (by omega),h1,Nat.sub_self,List.drop_eq_getElem_cons k,List.set_cons_zero]
  simp only [List.append_assoc,List.singleton_append]
def calCloneS:Spec:=plain fun
  | [.nilptr]=>outV True .nilptr
  | [.ext (.cref (.pair (.int .i64) (.pair (.int .i64) (.pair (.int .i64) (.int .i64)))) xss 0)]=>some ⟨Cal xss,.ptr 0 0,[.arr Bk xss none],false⟩
  | _=>none
end Go.AM.Ytdohkcddjoammaa
end

section
set_option linter.all false
namespace Go.AM.Ytdohkcddjoammaa.Pl
open Go.Proofs
abbrev tStage:Ty:=.pair (.int .i64) (.pair (.int .i64) (.pair (.pair (.int .i64) (.int .i64)) (.pair (.int .i64) (.int .i64))))
abbrev tWin:Ty:=.pair (.int .i64) (.pair (.int .i64) (.int .i64))
abbrev tVisit:Ty:=.pair (.int .i64) (.pair (.int .i64) (.pair (.int .i64) (.int .i64)))
abbrev tBook:Ty:=.pair (.int .i64) (.pair (.int .i64) (.pair (.int .i64) (.int .i64)))
abbrev tSix:Ty:=.pair (.int .i64) (.pair (.int .i64) (.pair (.int .i64) (.pair (.int .i64) (.pair (.int .i64) (.int .i64)))))
abbrev tTwo:Ty:=.pair (.int .i64) (.int .i64)
end Go.AM.Ytdohkcddjoammaa.Pl
end

section
set_option linter.all false
namespace Go.AM.Ytdohkcddjoammaa.Pl
open Go.Proofs
set_option maxRecDepth 100000
set_option maxHeartbeats 4000000
def withinF (n lo hi:Int):Bool:=decide (lo≤n)&&decide (n≤hi)
def withinS:Spec:=plain fun
  | [.int .i64 n,.int .i64 lo,.int .i64 hi]=>outV True (.bool (withinF n lo hi))
  | _=>none
def noneS:Spec:=plain fun
  | []=>outV True (.agg [.int .i64 (-1),.int .i64 0])
  | _=>none
def pickF (c n:Int):Int:=(if c < 0 then -(c+1) else c) % n
def pickS:Spec:=plain fun
  | [.int .i64 c,.int .i64 n]=>outV (0 < n∧-9223372036854775808≤c∧c < 9223372036854775808) (.int .i64 (pickF c n))
  | _=>none
def isSlotF (tool start dur:Int):Bool:=withinF tool 0 59&&withinF start 0 (1000000 - dur)
def isSlotS:Spec:=plain fun
  | [.agg [.int .i64 tool,.int .i64 start],.int .i64 dur]=>outV (Sm dur) (.bool (isSlotF tool start dur))
  | _=>none
def isStageF (mn mx mt ms st ss:Int):Bool:=withinF mn 1 mx&&decide (mx≤10000)&&isSlotF mt ms mx&&isSlotF st ss mx&&decide (mt≠st)
def isStageS:Spec:=plain fun
  | [.agg [.int .i64 mn,.int .i64 mx,.int .i64 mt,.int .i64 ms,.int .i64 st,.int .i64 ss]]=>outV True (.bool (isStageF mn mx mt ms st ss))
  | _=>none
end Go.AM.Ytdohkcddjoammaa.Pl
end

section
set_option linter.all false
namespace Go.AM.Ytdohkcddjoammaa.Pl
open Go.Proofs
set_option maxRecDepth 100000
set_option maxHeartbeats 4000000
def badS:Spec:=plain fun
  | [.agg [.int .i64 mn,.int .i64 mx,.int .i64 mt,.int .i64 ms,.int .i64 st,.int .i64 ss]]=>outV True (.bool (!isStageF mn mx mt ms st ss))
  | _=>none
def badSt (s:tStage.El):Bool:=!isStageF s.1 s.2.1 s.2.2.1.1 s.2.2.1.2 s.2.2.2.1 s.2.2.2.2
def winF (n:Nat) (l w:tWin.El):Bool :=
  (decide (l.1 < w.1)||(decide (l.1=w.1)&&decide (l.2.1 < w.2.1)))&&decide (0≤w.1)&&decide (w.1 < w.2.1)&&decide (w.2.1 < (n:Int))&&withinF w.2.2 0 1000000
def winS:Spec:=⟨true,fun args rows=>match args,rows with
  | [.agg [.int .i64 a,.int .i64 b,.int .i64 c],.ptr 0 0,.ptr 1 0],[.box [.int .i64 x,.int .i64 y,.int .i64 z],.box [.int .i64 p,.int .i64 q,.int .i64 r,.sl (.pair (.int .i64) (.pair (.int .i64) (.pair (.pair (.int .i64) (.int .i64)) (.pair (.int .i64) (.int .i64))))) xs,.sl (.pair (.int .i64) (.pair (.int .i64) (.int .i64))) ys]] =>
    some ⟨True,.bool (winF xs.length (x,y,z) (a,b,c)),[.box [.int .i64 a,.int .i64 b,.int .i64 c],.box [.int .i64 p,.int .i64 q,.int .i64 r,.sl tStage xs,.sl tWin ys]],true⟩
  | _,_=>none⟩
def ahead (l:tWin.El) (ws:List tWin.El):Nat→tWin.El
  | 0=>l
  | i+1=>getI ws tWin.dflt i
def duo (l:tWin.El):List tWin.El→List (tWin.El × tWin.El)
  | []=>[]
  | w::r=>(l,w)::duo w r
theorem duo_length:∀ {ws:List tWin.El} {l:tWin.El},(duo l ws).length=ws.length
  | [],_=>rfl
  | w::r,l=>by simp [duo,duo_length]
theorem duo_get:∀ {ws:List tWin.El} {l:tWin.El} {i:Nat},i < ws.length→getI (duo l ws) (l,l) i=(ahead l ws i,getI ws tWin.dflt i)
  | [],_,_,h=>by simp at h
  | w::r,l,0,_=>rfl
  | w::r,l,i+1,h=>by
    have h1:=duo_get (ws:=r) (l:=w) (i:=i) (by simpa using h)
    have hd:∀ (d e:tWin.El × tWin.El),getI (duo w r) d i=getI (duo w r) e i:=fun d e=>by
      have:i < (duo w r).length:=by rw [duo_length];simpa using h
      simp [getI,List.getD,List.getElem?_eq_getElem this]
    show getI (duo w r) (l,l) i=_
    rw [hd (l,l) (w,w),h1]
    cases i <;> rfl
def badW (n:Nat) (q:tWin.El × tWin.El):Bool:=!winF n q.1 q.2
end Go.AM.Ytdohkcddjoammaa.Pl
end

section
set_option linter.all false
namespace Go.AM.Ytdohkcddjoammaa.Pl
open Go.Proofs
set_option maxRecDepth 100000
set_option maxHeartbeats 4000000
def validF (e a b:Int) (xs:List tStage.El) (ws:List tWin.El):Bool :=
  withinF e 0 1000000&&withinF a 0 b&&decide (b≤10000)&&withinF (xs.length:Int) 1 8&&decide ((ws.length:Int)≤20)&&(!xs.any badSt&&!(duo (-1,0,0) ws).any (badW xs.length))
def validS:Spec:=plain fun
  | [.agg [.int .i64 e,.int .i64 a,.int .i64 b,.sl (.pair (.int .i64) (.pair (.int .i64) (.pair (.pair (.int .i64) (.int .i64)) (.pair (.int .i64) (.int .i64))))) xs,.sl (.pair (.int .i64) (.pair (.int .i64) (.int .i64))) ws]]=>outV True (.bool (validF e a b xs ws))
  | _=>none
end Go.AM.Ytdohkcddjoammaa.Pl
end

section
set_option linter.all false
namespace Go.AM.Ytdohkcddjoammaa.Pl
open Go.Proofs
set_option maxRecDepth 100000
set_option maxHeartbeats 4000000
theorem eqTy_iff:∀ {t:Ty} {x y:t.El} {e:Bool},eqTy t x y=some e→(e=true↔x=y)
  | .int _,x,y,e,h=>by cases h;simp
  | .bool,x,y,e,h=>by cases h;simp
  | .unit,x,y,e,h=>by cases h;simp
  | .str,x,y,e,h=>by cases h
  | .slice _,x,y,e,h=>by cases h
  | .pair a b,x,y,e,h=>by
    simp only [eqTy] at h
    split at h
    · rename_i p q h1 h2
      cases h
      simp only [Bool.and_eq_true,eqTy_iff h1,eqTy_iff h2]
      exact ⟨fun ⟨h3,h4⟩=>Prod.ext h3 h4,fun h=>⟨by rw [h],by rw [h]⟩⟩
    · cases h
theorem list_ext_getI {α:Type} (d:α):∀ {xs ys:List α},xs.length=ys.length→(∀ j,j < xs.length→getI xs d j=getI ys d j)→xs=ys
  | [],[],_,_=>rfl
  | [],_::_,h,_=>by simp at h
  | _::_,[],h,_=>by simp at h
  | x::xs,y::ys,h,hj=>by
    have h0:x=y:=hj 0 (by simp)
    rw [h0,list_ext_getI d (by simpa using h) fun j hlt=>hj (j+1) (by simpa using hlt)]
def eqStF (xs ys:List (Int × Int × (Int × Int) × Int × Int)):Bool:=decide (xs=ys)
def eqStS:Spec:=plain fun
  | [.sl (.pair (.int .i64) (.pair (.int .i64) (.pair (.pair (.int .i64) (.int .i64)) (.pair (.int .i64) (.int .i64))))) xs,.sl (.pair (.int .i64) (.pair (.int .i64) (.pair (.pair (.int .i64) (.int .i64)) (.pair (.int .i64) (.int .i64))))) ys]=>outV (xs.length≤1000000000000∧ys.length≤1000000000000) (.bool (eqStF xs ys))
  | _=>none
def eqWiF (xs ys:List (Int × Int × Int)):Bool:=decide (xs=ys)
def eqWiS:Spec:=plain fun
  | [.sl (.pair (.int .i64) (.pair (.int .i64) (.int .i64))) xs,.sl (.pair (.int .i64) (.pair (.int .i64) (.int .i64))) ys]=>outV (xs.length≤1000000000000∧ys.length≤1000000000000) (.bool (eqWiF xs ys))
  | _=>none
def eqViF (xs ys:List (Int × Int × Int × Int)):Bool:=decide (xs=ys)
def eqViS:Spec:=plain fun
  | [.sl (.pair (.int .i64) (.pair (.int .i64) (.pair (.int .i64) (.int .i64)))) xs,.sl (.pair (.int .i64) (.pair (.int .i64) (.pair (.int .i64) (.int .i64)))) ys]=>outV (xs.length≤1000000000000∧ys.length≤1000000000000) (.bool (eqViF xs ys))
  | _=>none
def sameF (e a b:Int) (xs:List (Int × Int × (Int × Int) × Int × Int)) (ws:List (Int × Int × Int)) (e' a' b':Int) (xs':List (Int × Int × (Int × Int) × Int × Int)) (ws':List (Int × Int × Int)):Bool :=
  decide (e=e')&&decide (a=a')&&decide (b=b')&&eqStF xs xs'&&eqWiF ws ws'
def sameS:Spec:=plain fun
  | [.agg [.int .i64 e,.int .i64 a,.int .i64 b,.sl (.pair (.int .i64) (.pair (.int .i64) (.pair (.pair (.int .i64) (.int .i64)) (.pair (.int .i64) (.int .i64))))) xs,.sl (.pair (.int .i64) (.pair (.int .i64) (.int .i64))) ws],.agg [.int .i64 e',.int .i64 a',.int .i64 b',.sl (.pair (.int .i64) (.pair (.int .i64) (.pair (.pair (.int .i64) (.int .i64)) (.pair (.int .i64) (.int .i64))))) xs',.sl (.pair (.int .i64) (.pair (.int .i64) (.int .i64))) ws']] =>
    outV (xs.length≤1000000000000∧xs'.length≤1000000000000∧ws.length≤1000000000000∧ws'.length≤1000000000000) (.bool (sameF e a b xs ws e' a' b' xs' ws'))
  | _=>none
end Go.AM.Ytdohkcddjoammaa.Pl
end

section
set_option linter.all false
namespace Go.AM.Ytdohkcddjoammaa.Pl
open Go.Proofs
set_option maxRecDepth 100000
set_option maxHeartbeats 4000000
def fitsAt (a b:Int) (xs:List tStage.El) (du mo:List Int) (i:Nat):Bool :=
  withinF (getI du 0 i) (getI xs tStage.dflt i).1 (getI xs tStage.dflt i).2.1&&withinF (getI mo 0 i) a b
def possF (e a b:Int) (xs:List tStage.El) (ws:List tWin.El) (du mo:List Int) (de tl fa:Int):Bool :=
  validF e a b xs ws&&decide (du.length=xs.length)&&decide (mo.length=xs.length)&&withinF de a b&&(List.range xs.length).all (fitsAt a b xs du mo) &&
    ((decide (tl=-1)&&decide (fa=0))||(withinF tl 0 59&&withinF fa 0 1000000))
def possS:Spec:=plain fun
  | [.agg [.int .i64 e,.int .i64 a,.int .i64 b,.sl (.pair (.int .i64) (.pair (.int .i64) (.pair (.pair (.int .i64) (.int .i64)) (.pair (.int .i64) (.int .i64))))) xs,.sl (.pair (.int .i64) (.pair (.int .i64) (.int .i64))) ws],
      .agg [.sl (.int .i64) du,.sl (.int .i64) mo,.int .i64 de,.int .i64 tl,.int .i64 fa]]=>outV (xs.length≤1000000000000) (.bool (possF e a b xs ws du mo de tl fa))
  | _=>none
def reachedF (mt ms st ss de tl fa t mv du:Int):(Int × Int) × Bool :=
  if tl=mt∧fa < ms+du then
    if fa≤t then ((st,ss),decide (t+mv≤ss))
    else if fa < ms then ((st,ss),decide (max (t+mv) fa+de≤ss))
    else if ms < t+mv then ((mt,ms),false)
    else ((st,ss),decide (fa+de≤ss))
  else ((mt,ms),decide (t+mv≤ms))
def reachedS:Spec:=plain fun
  | [.agg [.int .i64 _,.int .i64 _,.int .i64 mt,.int .i64 ms,.int .i64 st,.int .i64 ss],.agg [.sl (.int .i64) _,.sl (.int .i64) _,.int .i64 de,.int .i64 tl,.int .i64 fa],.int .i64 t,.int .i64 mv,.int .i64 du] =>
    outV (Sm ms∧Sm de∧Sm fa∧Sm t∧Sm mv∧Sm du) (.tup [.agg [.int .i64 (reachedF mt ms st ss de tl fa t mv du).1.1,.int .i64 (reachedF mt ms st ss de tl fa t mv du).1.2],.bool (reachedF mt ms st ss de tl fa t mv du).2])
  | _=>none
end Go.AM.Ytdohkcddjoammaa.Pl
end

section
set_option linter.all false
namespace Go.AM.Ytdohkcddjoammaa.Pl
open Go.Proofs
set_option maxRecDepth 100000
set_option maxHeartbeats 8000000
theorem eSeq {t:Ty} {xs ys:List t.El} (h:xs=ys):AObj.seq t xs=AObj.seq t ys:=by rw [h]
theorem getI_mem {α:Type} {xs:List α} {d:α} {i:Nat} (h:i < xs.length):getI xs d i∈xs:=by
  simp [getI,List.getD,List.getElem?_eq_getElem h]
def StOk (mn mx mt ms st ss:Int):Prop:=(1≤mn∧mn≤mx∧mx≤10000)∧(0≤mt∧mt≤59∧0≤ms∧ms≤1000000 - mx)∧(0≤st∧st≤59∧0≤ss∧ss≤1000000 - mx)∧mt≠st
def WiOk (n:Nat) (f t l:Int):Prop:=0≤f∧f < t∧t < (n:Int)∧0≤l∧l≤1000000
def EndOk (n:Int):Prop:=0≤n∧n≤2000000
structure Facts (e a b:Int) (xs:List tStage.El) (ws:List tWin.El):Prop where
  e:0≤e∧e≤1000000
  ab:0≤a∧a≤b∧b≤10000
  n:1≤xs.length∧xs.length≤8
  w:ws.length≤20
  st:∀ i,i < xs.length→StOk (getI xs tStage.dflt i).1 (getI xs tStage.dflt i).2.1 (getI xs tStage.dflt i).2.2.1.1 (getI xs tStage.dflt i).2.2.1.2 (getI xs tStage.dflt i).2.2.2.1 (getI xs tStage.dflt i).2.2.2.2
  ws:∀ k,k < ws.length→WiOk xs.length (getI ws tWin.dflt k).1 (getI ws tWin.dflt k).2.1 (getI ws tWin.dflt k).2.2
theorem within_iff {n lo hi:Int}:withinF n lo hi=true↔lo≤n∧n≤hi:=by simp [withinF]
theorem valid_facts {e a b:Int} {xs:List tStage.El} {ws:List tWin.El} (h:validF e a b xs ws=true):Facts e a b xs ws:=by
  unfold validF at h
  simp only [Bool.and_eq_true,within_iff,decide_eq_true_eq,Bool.not_eq_true',List.any_eq_false] at h
  obtain ⟨⟨⟨⟨⟨h1,h2⟩,h3⟩,h4⟩,h5⟩,h6,h7⟩:=h
  refine ⟨h1,⟨h2.1,h2.2,h3⟩,⟨by omega,by omega⟩,by omega,fun i hi=>?_,fun k hk=>?_⟩
  · have h8:=h6 _ (getI_mem (d:=tStage.dflt) hi)
    unfold badSt isStageF isSlotF at h8
    simp only [Bool.not_eq_true',Bool.not_eq_false,Bool.and_eq_true,within_iff,decide_eq_true_eq] at h8
    obtain ⟨⟨⟨⟨h9,h10⟩,h11,h12⟩,h13,h14⟩,h15⟩:=h8
    exact ⟨⟨h9.1,h9.2,h10⟩,⟨h11.1,h11.2,h12.1,h12.2⟩,⟨h13.1,h13.2,h14.1,h14.2⟩,h15⟩
  · have hk':k < (duo (-1,0,0) ws).length:=by rw [duo_length];exact hk
    have h8:=h7 _ (getI_mem (d:=((-1,0,0),(-1,0,0))) hk')
    rw [duo_get hk] at h8
    unfold badW winF at h8
    simp only [Bool.not_eq_true',Bool.not_eq_false,Bool.and_eq_true,within_iff,decide_eq_true_eq] at h8
    obtain ⟨⟨⟨⟨_,h9⟩,h10⟩,h11⟩,h12⟩:=h8
    exact ⟨h9,h10,h11,h12.1,h12.2⟩
def AtOk (mn mx a b du mo:Int):Prop:=(mn≤du∧du≤mx)∧a≤mo∧mo≤b
structure Chance (e a b:Int) (xs:List tStage.El) (ws:List tWin.El) (du mo:List Int) (de tl fa:Int):Prop extends Facts e a b xs ws where
  dul:du.length=xs.length
  mol:mo.length=xs.length
  deb:a≤de∧de≤b
  at':∀ i,i < xs.length→AtOk (getI xs tStage.dflt i).1 (getI xs tStage.dflt i).2.1 a b (getI du 0 i) (getI mo 0 i)
  tlb:(tl=-1∧fa=0)∨(0≤tl∧tl≤59∧0≤fa∧fa≤1000000)
theorem poss_facts {e a b:Int} {xs:List tStage.El} {ws:List tWin.El} {du mo:List Int} {de tl fa:Int} (h:possF e a b xs ws du mo de tl fa=true):Chance e a b xs ws du mo de tl fa:=by
  unfold possF at h
  simp only [Bool.and_eq_true,Bool.or_eq_true,within_iff,decide_eq_true_eq] at h
  obtain ⟨⟨⟨⟨⟨h1,h2⟩,h3⟩,h4⟩,h5⟩,h6⟩:=h
  refine ⟨valid_facts h1,h2,h3,h4,fun i hi=>?_,?_⟩
  · have:=List.all_eq_true.1 h5 i (by simpa using hi)
    unfold fitsAt at this
    unfold AtOk
    simpa only [Bool.and_eq_true,within_iff] using this
  · rcases h6 with h6|h6
    · exact .inl h6
    · exact .inr ⟨h6.1.1,h6.1.2,h6.2.1,h6.2.2⟩
def lateW (i:Nat) (start:Int) (out:List tVisit.El) (w:tWin.El):Bool :=
  decide (w.2.1=(i:Int))&&decide (w.2.2 < start - (getI out tVisit.dflt w.1.toNat).2.2.2)
def reachedAt (xs:List tStage.El) (du mo:List Int) (de tl fa:Int) (i:Nat) (t:Int):(Int × Int) × Bool :=
  reachedF (getI xs tStage.dflt i).2.2.1.1 (getI xs tStage.dflt i).2.2.1.2 (getI xs tStage.dflt i).2.2.2.1 (getI xs tStage.dflt i).2.2.2.2 de tl fa t (getI mo 0 i) (getI du 0 i)
def runG (xs:List tStage.El) (ws:List tWin.El) (du mo:List Int) (de tl fa:Int):Nat→Nat→List tVisit.El→Int→List tVisit.El × Int × Int
  | 0,_,out,_=>(out,0,0)
  | n+1,i,out,t =>
    let r:=reachedAt xs du mo de tl fa i t
    if r.2 then
      let end':=r.1.2+getI du 0 i
      let out':=out++[((i:Int),r.1.1,r.1.2,end')]
      let k:=idxF (lateW i r.1.2 out') ws
      if k < 0 then runG xs ws du mo de tl fa n (i+1) out' end' else (out',2,k)
    else (out,1,(i:Int))
def runF (e a b:Int) (xs:List tStage.El) (ws:List tWin.El) (du mo:List Int) (de tl fa:Int):List tVisit.El × (Int × Int) × Int :=
  if possF e a b xs ws du mo de tl fa then ((runG xs ws du mo de tl fa xs.length 0 [] e).1,(runG xs ws du mo de tl fa xs.length 0 [] e).2,0) else ([],(0,0),80)
def runS:Spec:=plain fun
  | [.agg [.int .i64 e,.int .i64 a,.int .i64 b,.sl (.pair (.int .i64) (.pair (.int .i64) (.pair (.pair (.int .i64) (.int .i64)) (.pair (.int .i64) (.int .i64))))) xs,.sl (.pair (.int .i64) (.pair (.int .i64) (.int .i64))) ws],
      .agg [.sl (.int .i64) du,.sl (.int .i64) mo,.int .i64 de,.int .i64 tl,.int .i64 fa]] =>
    some ⟨xs.length≤1000000000000,.tup [.own 0,.agg [.int .i64 (runF e a b xs ws du mo de tl fa).2.1.1,.int .i64 (runF e a b xs ws du mo de tl fa).2.1.2],.int .i64 (runF e a b xs ws du mo de tl fa).2.2],[.seq tVisit (runF e a b xs ws du mo de tl fa).1],false⟩
  | _=>none
theorem reachedF_slot {mt ms st ss de tl fa t mv du:Int}:(reachedF mt ms st ss de tl fa t mv du).1=(mt,ms)∨(reachedF mt ms st ss de tl fa t mv du).1=(st,ss):=by
  unfold reachedF
  repeat' split
  all_goals simp
theorem idxOk {n:Nat} {f t l:Int} {i m:Nat} (W:WiOk n f t l) (h:decide (t=(i:Int))=true) (hm:m=i+1):0≤f∧f < (m:Int)∧f.toNat < m:=by
  unfold WiOk at W
  rw [decide_eq_true_eq] at h
  omega
theorem late_eq {i:Nat} {start f t l:Int} {out:List tVisit.El} {n:Nat} (W:WiOk n f t l) (hl:out.length=i+1) (hs:0≤start∧start≤1000000) (he:∀ j,j < out.length→EndOk (getI out tVisit.dflt j).2.2.2) :
    (decide (t=(i:Int))&&decide (l < IntKind.wrap .i64 (start - (getI out tVisit.dflt f.toNat).2.2.2)))=lateW i start out (f,t,l):=by
  unfold lateW
  by_cases h:t=(i:Int)
  · have h1:=idxOk W (by rw [decide_eq_true_eq];exact h) hl
    have h2:=he f.toNat h1.2.2
    unfold EndOk at h2
    rw [wrapId (by omega) (by omega)]
  · have h1:decide (t=(i:Int))=false:=decide_eq_false h
    rw [h1]
    rfl
end Go.AM.Ytdohkcddjoammaa.Pl
end

section
set_option linter.all false
namespace Go.AM.Ytdohkcddjoammaa.Re
open Go.Proofs
set_option maxRecDepth 100000
set_option maxHeartbeats 4000000
abbrev tStage:Ty:=.pair (.int .i64) (.pair (.int .i64) (.pair (.pair (.int .i64) (.int .i64)) (.pair (.int .i64) (.int .i64))))
abbrev tWin:Ty:=.pair (.int .i64) (.pair (.int .i64) (.int .i64))
abbrev StT:=Int × Int × (Int × Int) × (Int × Int)
abbrev WiT:=Int × Int × Int
def sMin (x:StT):Int:=x.1
def sMax (x:StT):Int:=x.2.1
def mTl (x:StT):Int:=x.2.2.1.1
def mSt (x:StT):Int:=x.2.2.1.2
def sTl (x:StT):Int:=x.2.2.2.1
def sSt (x:StT):Int:=x.2.2.2.2
def needS:Spec:=⟨true,fun args rows=>match args,rows with
  | [.ptr 0 0,.int .i64 o,.int .i64 b],[.box [.nilsl]]=>some ⟨In64 (b - o),.tup [],[.box [.own 1],.seq tInt [b - o]],true⟩
  | [.ptr 0 0,.int .i64 o,.int .i64 b],[.box [.own 1],.seq (.int .i64) xs]=>some ⟨In64 (b - o)∧xs.length≤1000000,.tup [],[.box [.own 2],.dead,.seq tInt (xs++[b - o])],true⟩
  | _,_=>none⟩
def negB (n:Int):Bool:=decide (n < 0)
def negS:Spec:=plain fun
  | [.int .i64 n]=>outV True (.bool (negB n))
  | _=>none
def missS:Spec:=plain fun
  | [.sl (.int .i64) xs]=>outV (xs.length≤1000000000000) (.bool (xs.any negB))
  | _=>none
def slotsG (b:Int):List StT→List Int
  | []=>[]
  | [x]=>[sSt x - (mSt x+sMax x - 1+b)]
  | x::y::r=>[sSt x - (mSt x+sMax x - 1+b),mSt y - (mSt x+sMax x+b),(if mTl y=mTl x then sSt y else mSt y) - (sSt x+sMax x+b)]++slotsG b (y::r)
def slotsF (e b:Int) (xs:List StT):List Int:=(mSt (getI xs tStage.dflt 0) - (e+b))::slotsG b xs
def winM (xs:List StT) (w:WiT):Int:=mSt (getI xs tStage.dflt w.1.toNat)+sMin (getI xs tStage.dflt w.1.toNat)+w.2.2 - sSt (getI xs tStage.dflt w.2.1.toNat)
def windowsF (xs:List StT) (ws:List WiT):List Int:=ws.map (winM xs)
theorem slotsG_len {b:Int}:∀ {xs:List StT},(slotsG b xs).length≤3 * xs.length
  | []=>by simp [slotsG]
  | [x]=>by simp [slotsG]
  | x::y::r=>by
    have:=slotsG_len (b:=b) (xs:=y::r)
    simp only [slotsG,List.length_append,List.length_cons,List.length_nil] at *
    omega
theorem drop_getI {α:Type} {d:α} {l:List α} {i:Nat} (h:i < l.length):l.drop i=getI l d i::l.drop (i+1):=by
  rw [List.drop_eq_getElem_cons h]
  congr 1
  simp [getI,List.getD,List.getElem?_eq_getElem h]
def StSm (mn mx ms ss:Int):Prop:=(0≤mn∧mn≤1000000)∧(0≤mx∧mx≤1000000)∧(0≤ms∧ms≤2000000)∧0≤ss∧ss≤2000000
def SlotsP (e b:Int) (xs:List tStage.El):Prop:=(0≤e∧e≤1000000)∧(0≤b∧b≤1000000)∧(1≤xs.length∧xs.length≤1000)∧∀ x∈xs,StSm x.1 x.2.1 x.2.2.1.2 x.2.2.2.2
def slotsS:Spec:=plain fun
  | [.agg [.int .i64 e,.int .i64 a,.int .i64 b,.sl (.pair (.int .i64) (.pair (.int .i64) (.pair (.pair (.int .i64) (.int .i64)) (.pair (.int .i64) (.int .i64))))) xs,.sl (.pair (.int .i64) (.pair (.int .i64) (.int .i64))) ws]] =>
    some ⟨SlotsP e b xs,.own 0,[.seq tInt (slotsF e b xs)],false⟩
  | _=>none
theorem slotsG_cons {b:Int} {x y:StT} {r:List StT}:slotsG b (x::y::r)=[sSt x - (mSt x+sMax x - 1+b),mSt y - (mSt x+sMax x+b),(if mTl y=mTl x then sSt y else mSt y) - (sSt x+sMax x+b)]++slotsG b (y::r):=rfl
def WiSm (n:Nat) (f t l:Int):Prop:=0≤f∧f < (n:Int)∧0≤t∧t < (n:Int)∧0≤l∧l≤1000000
def WinP (xs:List tStage.El) (ws:List tWin.El):Prop:=ws.length≤1000∧(∀ x∈xs,StSm x.1 x.2.1 x.2.2.1.2 x.2.2.2.2)∧∀ w∈ws,WiSm xs.length w.1 w.2.1 w.2.2
def windowsS:Spec:=plain fun
  | [.agg [.int .i64 e,.int .i64 a,.int .i64 b,.sl (.pair (.int .i64) (.pair (.int .i64) (.pair (.pair (.int .i64) (.int .i64)) (.pair (.int .i64) (.int .i64))))) xs,.sl (.pair (.int .i64) (.pair (.int .i64) (.int .i64))) ws]] =>
    some ⟨WinP xs ws,.own 0,[.seq tInt (windowsF xs ws)],false⟩
  | _=>none
theorem take_getI {α:Type} {d:α} {l:List α} {i:Nat} (h:i < l.length):l.take (i+1)=l.take i++[getI l d i]:=by
  rw [List.take_succ_eq_append_getElem h]
  simp [getI,List.getD,List.getElem?_eq_getElem h]
def safeF (e a b:Int) (xs:List tStage.El) (ws:List tWin.El):Bool:=Pl.validF e a b xs ws&&!(slotsF e b xs).any negB&&!(windowsF xs ws).any negB
def isSafeS:Spec:=plain fun
  | [.agg [.int .i64 e,.int .i64 a,.int .i64 b,.sl (.pair (.int .i64) (.pair (.int .i64) (.pair (.pair (.int .i64) (.int .i64)) (.pair (.int .i64) (.int .i64))))) xs,.sl (.pair (.int .i64) (.pair (.int .i64) (.int .i64))) ws]] =>
    outV True (.bool (safeF e a b xs ws))
  | _=>none
theorem facts_slots {e a b:Int} {xs:List tStage.El} {ws:List tWin.El} (F:Pl.Facts e a b xs ws):SlotsP e b xs∧WinP xs ws:=by
  have hsm:∀ x∈xs,StSm x.1 x.2.1 x.2.2.1.2 x.2.2.2.2:=fun x hx=>by
    obtain ⟨i,hi,rfl⟩:=List.getElem_of_mem hx
    have:=F.st i hi
    have e:getI xs tStage.dflt i=xs[i]:=by simp [getI,List.getD,List.getElem?_eq_getElem hi]
    rw [e] at this
    unfold Pl.StOk at this
    unfold StSm
    omega
  have h1:=F.e
  have h2:=F.ab
  have h3:=F.n
  refine ⟨⟨h1,by omega,by omega,hsm⟩,by have:=F.w;omega,hsm,fun w hw=>?_⟩
  obtain ⟨i,hi,rfl⟩:=List.getElem_of_mem hw
  have:=F.ws i hi
  have e:getI ws tWin.dflt i=ws[i]:=by simp [getI,List.getD,List.getElem?_eq_getElem hi]
  rw [e] at this
  unfold Pl.WiOk at this
  unfold WiSm
  omega
end Go.AM.Ytdohkcddjoammaa.Re
end
