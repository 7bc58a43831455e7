/- plan.Run. -/
import Derived.Test.YtkacoophnfljcaaPlE
set_option linter.all false
namespace Go.AM.Ytkacoophnfljcaa.Pl
open Go.Proofs
set_option maxRecDepth 100000
set_option maxHeartbeats 8000000

theorem eSeq {t : Ty} {xs ys : List t.El} (h : xs = ys) : AObj.seq t xs = AObj.seq t ys := by rw [h]

theorem getI_mem {α : Type} {xs : List α} {d : α} {i : Nat} (h : i < xs.length) : getI xs d i ∈ xs := by
  simp [getI, List.getD, List.getElem?_eq_getElem h]

def StOk (mn mx mt ms st ss : Int) : Prop := (1 ≤ mn ∧ mn ≤ mx ∧ mx ≤ 10000) ∧ (0 ≤ mt ∧ mt ≤ 59 ∧ 0 ≤ ms ∧ ms ≤ 1000000 - mx) ∧ (0 ≤ st ∧ st ≤ 59 ∧ 0 ≤ ss ∧ ss ≤ 1000000 - mx) ∧ mt ≠ st
def WiOk (n : Nat) (f t l : Int) : Prop := 0 ≤ f ∧ f < t ∧ t < (n : Int) ∧ 0 ≤ l ∧ l ≤ 1000000

def EndOk (n : Int) : Prop := 0 ≤ n ∧ n ≤ 2000000

/-- What validity says of numbers. -/
structure Facts (e a b : Int) (xs : List tStage.El) (ws : List tWin.El) : Prop where
  e : 0 ≤ e ∧ e ≤ 1000000
  ab : 0 ≤ a ∧ a ≤ b ∧ b ≤ 10000
  n : 1 ≤ xs.length ∧ xs.length ≤ 8
  w : ws.length ≤ 20
  st : ∀ i, i < xs.length → StOk (getI xs tStage.dflt i).1 (getI xs tStage.dflt i).2.1 (getI xs tStage.dflt i).2.2.1.1 (getI xs tStage.dflt i).2.2.1.2 (getI xs tStage.dflt i).2.2.2.1 (getI xs tStage.dflt i).2.2.2.2
  ws : ∀ k, k < ws.length → WiOk xs.length (getI ws tWin.dflt k).1 (getI ws tWin.dflt k).2.1 (getI ws tWin.dflt k).2.2

theorem within_iff {n lo hi : Int} : withinF n lo hi = true ↔ lo ≤ n ∧ n ≤ hi := by simp [withinF]

theorem valid_facts {e a b : Int} {xs : List tStage.El} {ws : List tWin.El} (h : validF e a b xs ws = true) : Facts e a b xs ws := by
  unfold validF at h
  simp only [Bool.and_eq_true, within_iff, decide_eq_true_eq, Bool.not_eq_true', List.any_eq_false] at h
  obtain ⟨⟨⟨⟨⟨h1, h2⟩, h3⟩, h4⟩, h5⟩, h6, h7⟩ := h
  refine ⟨h1, ⟨h2.1, h2.2, h3⟩, ⟨by omega, by omega⟩, by omega, fun i hi => ?_, fun k hk => ?_⟩
  · have h8 := h6 _ (getI_mem (d := tStage.dflt) hi)
    unfold badSt isStageF isSlotF at h8
    simp only [Bool.not_eq_true', Bool.not_eq_false, Bool.and_eq_true, within_iff, decide_eq_true_eq] at h8
    obtain ⟨⟨⟨⟨h9, h10⟩, h11, h12⟩, h13, h14⟩, h15⟩ := h8
    exact ⟨⟨h9.1, h9.2, h10⟩, ⟨h11.1, h11.2, h12.1, h12.2⟩, ⟨h13.1, h13.2, h14.1, h14.2⟩, h15⟩
  · have hk' : k < (duo (-1, 0, 0) ws).length := by rw [duo_length]; exact hk
    have h8 := h7 _ (getI_mem (d := ((-1, 0, 0), (-1, 0, 0))) hk')
    rw [duo_get hk] at h8
    unfold badW winF at h8
    simp only [Bool.not_eq_true', Bool.not_eq_false, Bool.and_eq_true, within_iff, decide_eq_true_eq] at h8
    obtain ⟨⟨⟨⟨_, h9⟩, h10⟩, h11⟩, h12⟩ := h8
    exact ⟨h9, h10, h11, h12.1, h12.2⟩

def AtOk (mn mx a b du mo : Int) : Prop := (mn ≤ du ∧ du ≤ mx) ∧ a ≤ mo ∧ mo ≤ b

/-- What possibility adds. -/
structure Chance (e a b : Int) (xs : List tStage.El) (ws : List tWin.El) (du mo : List Int) (de tl fa : Int) : Prop extends Facts e a b xs ws where
  dul : du.length = xs.length
  mol : mo.length = xs.length
  deb : a ≤ de ∧ de ≤ b
  at' : ∀ i, i < xs.length → AtOk (getI xs tStage.dflt i).1 (getI xs tStage.dflt i).2.1 a b (getI du 0 i) (getI mo 0 i)
  tlb : (tl = -1 ∧ fa = 0) ∨ (0 ≤ tl ∧ tl ≤ 59 ∧ 0 ≤ fa ∧ fa ≤ 1000000)

theorem poss_facts {e a b : Int} {xs : List tStage.El} {ws : List tWin.El} {du mo : List Int} {de tl fa : Int} (h : possF e a b xs ws du mo de tl fa = true) : Chance e a b xs ws du mo de tl fa := by
  unfold possF at h
  simp only [Bool.and_eq_true, Bool.or_eq_true, within_iff, decide_eq_true_eq] at h
  obtain ⟨⟨⟨⟨⟨h1, h2⟩, h3⟩, h4⟩, h5⟩, h6⟩ := h
  refine ⟨valid_facts h1, h2, h3, h4, fun i hi => ?_, ?_⟩
  · have := List.all_eq_true.1 h5 i (by simpa using hi)
    unfold fitsAt at this
    unfold AtOk
    simpa only [Bool.and_eq_true, within_iff] using this
  · rcases h6 with h6 | h6
    · exact .inl h6
    · exact .inr ⟨h6.1.1, h6.1.2, h6.2.1, h6.2.2⟩

/-- Is the window late, when stage i begins at a time, behind the visits made so far (i's own among them)? -/
def lateW (i : Nat) (start : Int) (out : List tVisit.El) (w : tWin.El) : Bool :=
  decide (w.2.1 = (i : Int)) && decide (w.2.2 < start - (getI out tVisit.dflt w.1.toNat).2.2.2)

def reachedAt (xs : List tStage.El) (du mo : List Int) (de tl fa : Int) (i : Nat) (t : Int) : (Int × Int) × Bool :=
  reachedF (getI xs tStage.dflt i).2.2.1.1 (getI xs tStage.dflt i).2.2.1.2 (getI xs tStage.dflt i).2.2.2.1 (getI xs tStage.dflt i).2.2.2.2 de tl fa t (getI mo 0 i) (getI du 0 i)

/-- The visits from stage i on: 'n' stages are left. -/
def runG (xs : List tStage.El) (ws : List tWin.El) (du mo : List Int) (de tl fa : Int) : Nat → Nat → List tVisit.El → Int → List tVisit.El × Int × Int
  | 0, _, out, _ => (out, 0, 0)
  | n + 1, i, out, t =>
    let r := reachedAt xs du mo de tl fa i t
    if r.2 then
      let end' := r.1.2 + getI du 0 i
      let out' := out ++ [((i : Int), r.1.1, r.1.2, end')]
      let k := idxF (lateW i r.1.2 out') ws
      if k < 0 then runG xs ws du mo de tl fa n (i + 1) out' end' else (out', 2, k)
    else (out, 1, (i : Int))

def runF (e a b : Int) (xs : List tStage.El) (ws : List tWin.El) (du mo : List Int) (de tl fa : Int) : List tVisit.El × (Int × Int) × Int :=
  if possF e a b xs ws du mo de tl fa then ((runG xs ws du mo de tl fa xs.length 0 [] e).1, (runG xs ws du mo de tl fa xs.length 0 [] e).2, 0) else ([], (0, 0), 80)

def runS : Spec := plain fun
  | [.agg [.int .i64 e, .int .i64 a, .int .i64 b, .sl (.pair (.int .i64) (.pair (.int .i64) (.pair (.pair (.int .i64) (.int .i64)) (.pair (.int .i64) (.int .i64))))) xs, .sl (.pair (.int .i64) (.pair (.int .i64) (.int .i64))) ws],
      .agg [.sl (.int .i64) du, .sl (.int .i64) mo, .int .i64 de, .int .i64 tl, .int .i64 fa]] =>
    some ⟨xs.length ≤ 1000000000000, .tup [.own 0, .agg [.int .i64 (runF e a b xs ws du mo de tl fa).2.1.1, .int .i64 (runF e a b xs ws du mo de tl fa).2.1.2], .int .i64 (runF e a b xs ws du mo de tl fa).2.2], [.seq tVisit (runF e a b xs ws du mo de tl fa).1], false⟩
  | _ => none

def sigRun : List (Nat × Spec) := [(69, possS), (70, reachedS)]
theorem sigRunOk : SigOk Try.prog (look sigRun) := sigCons (sigCons sigNil Try.func70 (by kernel_rfl) (c := body Try.f70) rfl reachedOk) Try.func69 (by kernel_rfl) (c := body Try.f69) rfl possOk

theorem reachedF_slot {mt ms st ss de tl fa t mv du : Int} : (reachedF mt ms st ss de tl fa t mv du).1 = (mt, ms) ∨ (reachedF mt ms st ss de tl fa t mv du).1 = (st, ss) := by
  unfold reachedF
  repeat' split
  all_goals simp

theorem idxOk {n : Nat} {f t l : Int} {i m : Nat} (W : WiOk n f t l) (h : decide (t = (i : Int)) = true) (hm : m = i + 1) : 0 ≤ f ∧ f < (m : Int) ∧ f.toNat < m := by
  unfold WiOk at W
  rw [decide_eq_true_eq] at h
  omega

theorem late_eq {i : Nat} {start f t l : Int} {out : List tVisit.El} {n : Nat} (W : WiOk n f t l) (hl : out.length = i + 1) (hs : 0 ≤ start ∧ start ≤ 1000000) (he : ∀ j, j < out.length → EndOk (getI out tVisit.dflt j).2.2.2) :
    (decide (t = (i : Int)) && decide (l < IntKind.wrap .i64 (start - (getI out tVisit.dflt f.toNat).2.2.2))) = lateW i start out (f, t, l) := by
  unfold lateW
  by_cases h : t = (i : Int)
  · have h1 := idxOk W (by rw [decide_eq_true_eq]; exact h) hl
    have h2 := he f.toNat h1.2.2
    unfold EndOk at h2
    rw [wrapId (by omega) (by omega)]
  · have h1 : decide (t = (i : Int)) = false := decide_eq_false h
    rw [h1]
    rfl

theorem runOk : SpecSound Try.prog 41 runS := by
  refine soundP (envOf sigRunOk) Try.func41 (c := body Try.f41) rfl (by kernel_rfl) rfl ?_
  intro args out hf hpre
  split at hf <;> try (cases hf; done)
  rename_i e a b xs ws du mo de tl fa
  cases hf
  refine ⟨Nat.le_of_ble_eq_true rfl, initI (args := [.agg [.int .i64 e, .int .i64 a, .int .i64 b, .sl tStage xs, .sl tWin ws], .agg [.sl tInt du, .sl tInt mo, .int .i64 de, .int .i64 tl, .int .i64 fa]]) rfl ?_⟩
  change xs.length ≤ 1000000000000 at hpre
  repeat' (first
    | with_reducible refine pN ?_
    | with_reducible refine cN ?_
    | with_reducible refine bN ?_
    | with_reducible refine cE ?_
    | with_reducible refine cR ?_
    | with_reducible refine bR ?_
    | with_reducible refine lE ?_
    | with_reducible refine lR ?_
    | with_reducible refine jE ?_
    | with_reducible refine jR ?_
    | refine bE rfl ?_
    | refine bP rfl ?_
    | refine pC (by first | exact True.intro | omega | (intros; first | exact True.intro | omega) | (simp only [List.length_cons, List.length_nil, Int.toNat_natCast]; omega) | exact hpre) ?_
    | refine seqI rfl ?_
    | refine regI rfl ?_
    | refine scopeI rfl ?_
    | refine blockI rfl ?_
    | refine exitI rfl ?_
    | refine retI rfl ?_
    | refine skipI rfl ?_)
  refine condI rfl (fun c1 => ?_) (fun c1 => ?_)
  · rw [Bool.not_eq_true'] at c1
    have hr : runF e a b xs ws du mo de tl fa = ([], (0, 0), 80) := by unfold runF; rw [c1]; rfl
    repeat' (first
      | with_reducible refine pN ?_
      | with_reducible refine cN ?_
      | with_reducible refine bN ?_
      | with_reducible refine cE ?_
      | with_reducible refine cR ?_
      | with_reducible refine bR ?_
      | with_reducible refine lE ?_
      | with_reducible refine lR ?_
      | with_reducible refine jE ?_
      | with_reducible refine jR ?_
      | refine bE rfl ?_
      | refine bP rfl ?_
      | refine pC (by first | exact True.intro | omega | (intros; first | exact True.intro | omega) | (simp only [List.length_cons, List.length_nil, Int.toNat_natCast]; omega)) ?_
      | refine seqI rfl ?_
      | refine regI rfl ?_
      | refine scopeI rfl ?_
      | refine blockI rfl ?_
      | refine exitI rfl ?_
      | refine retI rfl ?_
      | refine skipI rfl ?_)
    rw [hr]
    refine endR rfl ?_
    repeat' (first | exact trivial | exact rfl | refine ⟨rfl, ?_⟩ | refine And.intro ?_ ?_)
  · rw [Bool.not_eq_false'] at c1
    have F := poss_facts c1
    have hr : runF e a b xs ws du mo de tl fa = ((runG xs ws du mo de tl fa xs.length 0 [] e).1, (runG xs ws du mo de tl fa xs.length 0 [] e).2, 0) := by unfold runF; rw [c1]; rfl
    obtain ⟨tot, htot⟩ : ∃ tot, tot = runG xs ws du mo de tl fa xs.length 0 [] e := ⟨_, rfl⟩
    rw [← htot] at hr
    have hn := F.n
    have hab := F.ab
    have hde := F.deb
    have hfa : Sm fa := by unfold Sm; rcases F.tlb with h | h <;> omega
    have hde' : Sm de := by unfold Sm; omega
    repeat' (first
      | with_reducible refine pN ?_
      | with_reducible refine cN ?_
      | with_reducible refine bN ?_
      | with_reducible refine cE ?_
      | with_reducible refine cR ?_
      | with_reducible refine bR ?_
      | with_reducible refine lE ?_
      | with_reducible refine lR ?_
      | with_reducible refine jE ?_
      | with_reducible refine jR ?_
      | refine bE rfl ?_
      | refine bP rfl ?_
      | refine pC (by first | exact True.intro | omega | (intros; first | exact True.intro | omega) | (simp only [List.length_cons, List.length_nil, Int.toNat_natCast]; omega)) ?_
      | refine seqI rfl ?_
      | refine regI rfl ?_
      | refine scopeI rfl ?_
      | refine blockI rfl ?_
      | refine exitI rfl ?_
      | refine retI rfl ?_
      | refine skipI rfl ?_)
    refine loopI (σ := Nat × List tVisit.El × Int) (fun s => [(7, .own 7000), (9, .int .i64 s.2.2), (26, .int .i64 s.1)]) (fun s => [(7000, .seq tVisit s.2.1)]) (fun s => s.1 ≤ xs.length ∧ s.2.1.length = s.1 ∧ 0 ≤ s.2.2 ∧ s.2.2 ≤ 2000000 ∧ (∀ j, j < s.2.1.length → EndOk (getI s.2.1 tVisit.dflt j).2.2.2) ∧ runG xs ws du mo de tl fa (xs.length - s.1) s.1 s.2.1 s.2.2 = tot) (fun s => xs.length - s.1) (0, [], e) rfl (fun _ => rfl) rfl ?_ ?_ ?_
    · exact ⟨Nat.zero_le _, rfl, F.e.1, (by have := F.e.2; show e ≤ 2000000; omega), (fun j hj => by simp at hj), htot.symm⟩
    · repeat' (first | exact trivial | exact rfl | refine ⟨rfl, ?_⟩ | refine And.intro ?_ ?_)
    rintro ⟨i, out, t⟩ ⟨hi, hlen, ht1, ht2, hends, hrun⟩
    dsimp only at hi hlen ht1 ht2 hends hrun ⊢
    repeat' (first
      | with_reducible refine pN ?_
      | with_reducible refine cN ?_
      | with_reducible refine bN ?_
      | with_reducible refine cE ?_
      | with_reducible refine cR ?_
      | with_reducible refine bR ?_
      | with_reducible refine lE ?_
      | with_reducible refine lR ?_
      | with_reducible refine jE ?_
      | with_reducible refine jR ?_
      | refine bE rfl ?_
      | refine bP rfl ?_
      | refine pC (by first | exact True.intro | omega | (intros; first | exact True.intro | omega) | (simp only [List.length_cons, List.length_nil, Int.toNat_natCast]; omega)) ?_
      | refine seqI rfl ?_
      | refine regI rfl ?_
      | refine scopeI rfl ?_
      | refine blockI rfl ?_
      | refine exitI rfl ?_
      | refine retI rfl ?_
      | refine skipI rfl ?_)
    refine condI rfl (fun c2 => ?_) (fun c2 => ?_)
    · simp only [decide_eq_true_eq] at c2
      have hlt : i < xs.length := by omega
      have hin : ((i : Int)).toNat = i := by omega
      obtain ⟨m, hm⟩ : ∃ m, xs.length - i = m + 1 := ⟨xs.length - i - 1, by omega⟩
      have S := F.st i hlt
      unfold StOk at S
      have A := F.at' i hlt
      unfold AtOk at A
      have hl1 := F.dul
      have hl2 := F.mol
      have hms : Sm (getI xs tStage.dflt i).2.2.1.2 := by unfold Sm; omega
      have hmv : Sm (getI mo 0 i) := by unfold Sm; omega
      have hdu : Sm (getI du 0 i) := by unfold Sm; omega
      have ht : Sm t := by unfold Sm; omega
      obtain ⟨r, hrr⟩ : ∃ r, r = reachedAt xs du mo de tl fa i t := ⟨_, rfl⟩
      have hslot : 0 ≤ r.1.2 ∧ r.1.2 ≤ 1000000 := by
        rw [hrr]
        rcases reachedF_slot (mt := (getI xs tStage.dflt i).2.2.1.1) (ms := (getI xs tStage.dflt i).2.2.1.2) (st := (getI xs tStage.dflt i).2.2.2.1) (ss := (getI xs tStage.dflt i).2.2.2.2) (de := de) (tl := tl) (fa := fa) (t := t) (mv := getI mo 0 i) (du := getI du 0 i) with h | h
        · unfold reachedAt; rw [h]; dsimp only; omega
        · unfold reachedAt; rw [h]; dsimp only; omega
      rw [hm, runG] at hrun
      rw [← hrr] at hrun
      dsimp only at hrun
      unfold reachedAt at hrr
      repeat' (first
        | with_reducible refine pN ?_
        | with_reducible refine cN ?_
        | with_reducible refine bN ?_
        | with_reducible refine cE ?_
        | with_reducible refine cR ?_
        | with_reducible refine bR ?_
        | with_reducible refine lE ?_
        | with_reducible refine lR ?_
        | with_reducible refine jE ?_
        | with_reducible refine jR ?_
        | refine bE rfl ?_
        | refine bP rfl ?_
        | refine pC (by first | exact True.intro | omega | (intros; first | exact True.intro | omega) | (simp only [List.length_cons, List.length_nil, Int.toNat_natCast]; omega) | exact ⟨hms, hde', hfa, ht, hmv, hdu⟩) ?_
        | refine seqI rfl ?_
        | refine regI rfl ?_
        | refine scopeI rfl ?_
        | refine blockI rfl ?_
        | refine exitI rfl ?_
        | refine retI rfl ?_
        | refine skipI rfl ?_)
      generalize hq : reachedF _ _ _ _ _ _ _ _ _ _ = q
      obtain rfl : q = r := hq.symm.trans hrr.symm
      refine condI rfl (fun c3 => ?_) (fun c3 => ?_)
      · have c3' : q.2 = false := by rw [Bool.not_eq_true'] at c3; exact c3
        rw [c3'] at hrun
        simp only [Bool.false_eq_true, if_false] at hrun
        repeat' (first
          | with_reducible refine pN ?_
          | with_reducible refine cN ?_
          | with_reducible refine bN ?_
          | with_reducible refine cE ?_
          | with_reducible refine cR ?_
          | with_reducible refine bR ?_
          | with_reducible refine lE ?_
          | with_reducible refine lR ?_
          | with_reducible refine jE ?_
          | with_reducible refine jR ?_
          | refine bE rfl ?_
          | refine bP rfl ?_
          | refine pC (by first | exact True.intro | omega | (intros; first | exact True.intro | omega) | (simp only [List.length_cons, List.length_nil, Int.toNat_natCast]; omega)) ?_
          | refine seqI rfl ?_
          | refine regI rfl ?_
          | refine scopeI rfl ?_
          | refine blockI rfl ?_
          | refine exitI rfl ?_
          | refine retI rfl ?_
          | refine skipI rfl ?_)
        rw [hr, ← hrun]
        refine endR rfl ?_
        repeat' (first | exact trivial | exact rfl | refine ⟨rfl, ?_⟩ | refine And.intro ?_ ?_)
      · have c3' : q.2 = true := by rw [Bool.not_eq_false'] at c3; exact c3
        rw [c3'] at hrun
        simp only [if_true] at hrun
        obtain ⟨out', hout⟩ : ∃ x, x = out ++ [((i : Int), q.1.1, q.1.2, q.1.2 + getI du 0 i)] := ⟨_, rfl⟩
        rw [← hout] at hrun
        have he1 : 0 ≤ q.1.2 + getI du 0 i ∧ q.1.2 + getI du 0 i ≤ 2000000 := by omega
        have hlen' : out'.length = i + 1 := by rw [hout, List.length_append, hlen]; rfl
        have hends' : ∀ j, j < out'.length → EndOk (getI out' tVisit.dflt j).2.2.2 := fun j hj => by
          by_cases hji : j < out.length
          · have h1 : getI out' tVisit.dflt j = getI out tVisit.dflt j := by rw [hout]; simp [getI, List.getD, List.getElem?_append_left hji]
            rw [h1]; exact hends j hji
          · have h1 : getI out' tVisit.dflt j = ((i : Int), q.1.1, q.1.2, q.1.2 + getI du 0 i) := by
              rw [hout]; simp [getI, List.getD, List.getElem?_append_right (show out.length ≤ j by omega), show j - out.length = 0 by omega]
            rw [h1]; exact he1
        repeat' (first
          | with_reducible refine pN ?_
          | with_reducible refine cN ?_
          | with_reducible refine bN ?_
          | with_reducible refine cE ?_
          | with_reducible refine cR ?_
          | with_reducible refine bR ?_
          | with_reducible refine lE ?_
          | with_reducible refine lR ?_
          | with_reducible refine jE ?_
          | with_reducible refine jR ?_
          | refine bE rfl ?_
          | refine bP rfl ?_
          | refine pC (by first | exact True.intro | omega | (intros; first | exact True.intro | omega) | (simp only [List.length_cons, List.length_nil, Int.toNat_natCast]; omega) | first | (show In64 (q.1.2 + getI du 0 i); omega) | (show (out.length + 1) * 32 ≤ 140737488355328; omega)) ?_
          | refine seqI rfl ?_
          | refine regI rfl ?_
          | refine scopeI rfl ?_
          | refine blockI rfl ?_
          | refine exitI rfl ?_
          | refine retI rfl ?_
          | refine skipI rfl ?_)
        refine loopI (σ := Nat) (fun k => [(7, .own 6900), (73, .int .i64 k)]) (fun k => [(6900, .seq tVisit out')]) (fun k => k ≤ ws.length ∧ ∀ j, j < k → lateW i q.1.2 out' (getI ws tWin.dflt j) = false) (fun k => ws.length - k) 0 rfl (fun _ => rfl) rfl ?_ ?_ ?_
        · exact ⟨Nat.zero_le _, fun j hj => by omega⟩
        · repeat' (first | exact trivial | with_reducible exact rfl | refine And.intro ?_ ?_)
          all_goals first | exact hout | rfl
        rintro k ⟨hk, hb⟩
        repeat' (first
          | with_reducible refine pN ?_
          | with_reducible refine cN ?_
          | with_reducible refine bN ?_
          | with_reducible refine cE ?_
          | with_reducible refine cR ?_
          | with_reducible refine bR ?_
          | with_reducible refine lE ?_
          | with_reducible refine lR ?_
          | with_reducible refine jE ?_
          | with_reducible refine jR ?_
          | refine bE rfl ?_
          | refine bP rfl ?_
          | refine pC (by first | exact True.intro | omega | (intros; first | exact True.intro | omega) | (simp only [List.length_cons, List.length_nil, Int.toNat_natCast]; omega)) ?_
          | refine seqI rfl ?_
          | refine regI rfl ?_
          | refine scopeI rfl ?_
          | refine blockI rfl ?_
          | refine exitI rfl ?_
          | refine retI rfl ?_
          | refine skipI rfl ?_)
        refine condI rfl (fun c4 => ?_) (fun c4 => ?_)
        · simp only [decide_eq_true_eq] at c4
          have hkl : k < ws.length := by omega
          have hkn : ((k : Int)).toNat = k := by omega
          have Wk := F.ws k hkl
          have hw20 := F.w
          have hidx : (getI ws tWin.dflt k).2.1 = (i : Int) → 0 ≤ (getI ws tWin.dflt k).1 ∧ (getI ws tWin.dflt k).1 < out'.length ∧ (getI ws tWin.dflt k).1.toNat < out'.length := fun h5 => idxOk Wk (by rw [decide_eq_true_eq]; exact h5) hlen'
          have hdiff : (getI ws tWin.dflt k).2.1 = (i : Int) → In64 (q.1.2 - (getI out' tVisit.dflt (getI ws tWin.dflt k).1.toNat).2.2.2) := fun h5 => by
            have := hends' _ (hidx h5).2.2
            unfold EndOk at this
            unfold In64
            omega
          repeat' (first
            | with_reducible refine pN ?_
            | with_reducible refine cN ?_
            | with_reducible refine bN ?_
            | with_reducible refine cE ?_
            | with_reducible refine cR ?_
            | with_reducible refine bR ?_
            | with_reducible refine lE ?_
            | with_reducible refine lR ?_
            | with_reducible refine jE ?_
            | with_reducible refine jR ?_
            | refine bE rfl ?_
            | refine bP rfl ?_
            | refine pC (by first | exact True.intro | omega | (intros; first | exact True.intro | omega) | (simp only [List.length_cons, List.length_nil, Int.toNat_natCast]; omega) | first | exact fun h => (hidx (of_decide_eq_true h)).1 | exact fun h => (hidx (of_decide_eq_true h)).2.1 | exact fun h => (hidx (of_decide_eq_true h)).2.2 | exact fun h => hdiff (of_decide_eq_true h)) ?_
            | refine seqI rfl ?_
            | refine regI rfl ?_
            | refine scopeI rfl ?_
            | refine blockI rfl ?_
            | refine exitI rfl ?_
            | refine retI rfl ?_
            | refine skipI rfl ?_)
          refine condI rfl (fun c5 => ?_) (fun c5 => ?_)
          · have c5' : lateW i q.1.2 out' (getI ws tWin.dflt k) = true := c5
            have hk2 : idxF (lateW i q.1.2 out') ws = (k : Int) := idxF_found (d := tWin.dflt) hkl hb c5'
            rw [hk2, if_neg (by omega)] at hrun
            repeat' (first
              | with_reducible refine pN ?_
              | with_reducible refine cN ?_
              | with_reducible refine bN ?_
              | with_reducible refine cE ?_
              | with_reducible refine cR ?_
              | with_reducible refine bR ?_
              | with_reducible refine lE ?_
              | with_reducible refine lR ?_
              | with_reducible refine jE ?_
              | with_reducible refine jR ?_
              | refine bE rfl ?_
              | refine bP rfl ?_
              | refine pC (by first | exact True.intro | omega | (intros; first | exact True.intro | omega) | (simp only [List.length_cons, List.length_nil, Int.toNat_natCast]; omega)) ?_
              | refine seqI rfl ?_
              | refine regI rfl ?_
              | refine scopeI rfl ?_
              | refine blockI rfl ?_
              | refine exitI rfl ?_
              | refine retI rfl ?_
              | refine skipI rfl ?_)
            rw [hr, ← hrun]
            refine endR rfl ?_
            repeat' (first | exact trivial | exact rfl | refine ⟨rfl, ?_⟩ | refine And.intro ?_ ?_)
          · have c5' : lateW i q.1.2 out' (getI ws tWin.dflt k) = false := c5
            repeat' (first
              | with_reducible refine pN ?_
              | with_reducible refine cN ?_
              | with_reducible refine bN ?_
              | with_reducible refine cE ?_
              | with_reducible refine cR ?_
              | with_reducible refine bR ?_
              | with_reducible refine lE ?_
              | with_reducible refine lR ?_
              | with_reducible refine jE ?_
              | with_reducible refine jR ?_
              | refine bE rfl ?_
              | refine bP rfl ?_
              | refine pC (by first | exact True.intro | omega | (intros; first | exact True.intro | omega) | (simp only [List.length_cons, List.length_nil, Int.toNat_natCast]; omega)) ?_
              | refine seqI rfl ?_
              | refine regI rfl ?_
              | refine scopeI rfl ?_
              | refine blockI rfl ?_
              | refine exitI rfl ?_
              | refine retI rfl ?_
              | refine skipI rfl ?_)
            refine roundI (k + 1) rfl ?_ ?_ ?_
            · refine ⟨by omega, fun j hj => ?_⟩
              by_cases hjk : j = k
              · subst hjk; exact c5'
              · exact hb j (by omega)
            · show ws.length - (k + 1) < ws.length - k
              omega
            · repeat' (first | exact trivial | exact rfl | refine ⟨rfl, ?_⟩ | refine And.intro ?_ ?_)
        · simp only [decide_eq_false_iff_not] at c4
          have hnone : idxF (lateW i q.1.2 out') ws = -1 := idxF_none (d := tWin.dflt) fun j hj => hb j (by omega)
          rw [hnone] at hrun
          repeat' (first
            | with_reducible refine pN ?_
            | with_reducible refine cN ?_
            | with_reducible refine bN ?_
            | with_reducible refine cE ?_
            | with_reducible refine cR ?_
            | with_reducible refine bR ?_
            | with_reducible refine lE ?_
            | with_reducible refine lR ?_
            | with_reducible refine jE ?_
            | with_reducible refine jR ?_
            | refine bE rfl ?_
            | refine bP rfl ?_
            | refine pC (by first | exact True.intro | omega | (intros; first | exact True.intro | omega) | (simp only [List.length_cons, List.length_nil, Int.toNat_natCast]; omega)) ?_
            | refine seqI rfl ?_
            | refine regI rfl ?_
            | refine scopeI rfl ?_
            | refine blockI rfl ?_
            | refine exitI rfl ?_
            | refine retI rfl ?_
            | refine skipI rfl ?_)
          refine roundI (i + 1, out', q.1.2 + getI du 0 i) rfl ?_ ?_ ?_
          · refine ⟨by show i + 1 ≤ xs.length; omega, hlen', he1.1, he1.2, hends', ?_⟩
            show runG xs ws du mo de tl fa (xs.length - (i + 1)) (i + 1) out' (q.1.2 + getI du 0 i) = tot
            rw [show xs.length - (i + 1) = m by omega]
            exact hrun
          · show xs.length - (i + 1) < xs.length - i
            omega
          · repeat' (first | exact trivial | with_reducible exact rfl | refine And.intro ?_ ?_)
            all_goals rfl
    · simp only [decide_eq_false_iff_not] at c2
      have hie : i = xs.length := by omega
      subst hie
      rw [Nat.sub_self] at hrun
      have htt : tot = (out, 0, 0) := hrun.symm
      repeat' (first
        | with_reducible refine pN ?_
        | with_reducible refine cN ?_
        | with_reducible refine bN ?_
        | with_reducible refine cE ?_
        | with_reducible refine cR ?_
        | with_reducible refine bR ?_
        | with_reducible refine lE ?_
        | with_reducible refine lR ?_
        | with_reducible refine jE ?_
        | with_reducible refine jR ?_
        | refine bE rfl ?_
        | refine bP rfl ?_
        | refine pC (by first | exact True.intro | omega | (intros; first | exact True.intro | omega) | (simp only [List.length_cons, List.length_nil, Int.toNat_natCast]; omega)) ?_
        | refine seqI rfl ?_
        | refine regI rfl ?_
        | refine scopeI rfl ?_
        | refine blockI rfl ?_
        | refine exitI rfl ?_
        | refine retI rfl ?_
        | refine skipI rfl ?_)
      rw [hr, htt]
      refine endR rfl ?_
      repeat' (first | exact trivial | exact rfl | refine ⟨rfl, ?_⟩ | refine And.intro ?_ ?_)

end Go.AM.Ytkacoophnfljcaa.Pl
