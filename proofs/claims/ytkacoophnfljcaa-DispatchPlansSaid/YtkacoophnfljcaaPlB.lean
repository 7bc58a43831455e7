/- plan.Valid: the lists of stages and windows. -/
import Derived.Test.YtkacoophnfljcaaPlA
set_option linter.all false
namespace Go.AM.Ytkacoophnfljcaa.Pl
open Go.Proofs
set_option maxRecDepth 100000
set_option maxHeartbeats 4000000

def sigStage : List (Nat × Spec) := [(90, isStageS), (102, isSlotS), (68, withinS)]
theorem sigStageOk : SigOk Try.prog (look sigStage) := sigCons sigTOk Try.func90 (by kernel_rfl) (c := body Try.f90) rfl isStageOk

def badS : Spec := plain fun
  | [.agg [.int .i64 mn, .int .i64 mx, .int .i64 mt, .int .i64 ms, .int .i64 st, .int .i64 ss]] => outV True (.bool (!isStageF mn mx mt ms st ss))
  | _ => none

theorem badOk : SpecSound Try.prog 89 badS := by
  refine sound0 sigStageOk Try.func89 (c := body Try.f89) rfl (by kernel_rfl) ?_
  intro args out hf hpre
  split at hf <;> try (cases hf; done)
  rename_i mn mx mt ms st ss
  cases hf
  refine ⟨Nat.le_of_ble_eq_true rfl, ?_⟩
  conv => whnf
  refine aI trivial ?_
  conv => whnf
  exact ⟨[], _, rfl, rfl, rfl, trivial, rfl, rfl, rfl, fun _ => ⟨rfl, rfl, rfl⟩⟩

def sigBad : List (Nat × Spec) := [(89, badS)]
theorem sigBadOk : SigOk Try.prog (look sigBad) := sigCons sigNil Try.func89 (by kernel_rfl) (c := body Try.f89) rfl badOk

/-- A stage is not valid. -/
def badSt (s : tStage.El) : Bool := !isStageF s.1 s.2.1 s.2.2.1.1 s.2.2.1.2 s.2.2.2.1 s.2.2.2.2

def idxStS : Spec := plain fun
  | [.sl (.pair (.int .i64) (.pair (.int .i64) (.pair (.pair (.int .i64) (.int .i64)) (.pair (.int .i64) (.int .i64))))) xs, .fn 89 [] []] => outV (xs.length ≤ 1000000000000) (.int .i64 (idxF badSt xs))
  | _ => none

theorem idxStOk : SpecSound Try.prog 101 idxStS := by
  refine sound0 sigBadOk Try.func101 (c := body Try.f101) rfl (by kernel_rfl) ?_
  intro args out hf hpre
  split at hf <;> try (cases hf; done)
  rename_i xs
  cases hf
  change xs.length ≤ 1000000000000 at hpre
  refine ⟨Nat.le_of_ble_eq_true rfl, ?_⟩
  conv => whnf
  refine ⟨Nat, fun i => ⟨19, [(0, ⟨[], .sl tStage xs⟩), (1, ⟨[], .fn 89 [] []⟩), (7, ⟨[], .int .i64 xs.length⟩), (8, ⟨[], .int .i64 i⟩)], [], [], []⟩,
    fun i => i ≤ xs.length ∧ ∀ j, j < i → badSt (getI xs tStage.dflt j) = false, fun i => xs.length - i, 0, ⟨by omega, fun j hj => by omega⟩, .same ⟨rfl, rfl, rfl, ⟨rfl, rfl, rfl, rfl, trivial⟩, trivial, rfl, rfl, rfl⟩, ?_⟩
  intro i ⟨hi, hb⟩
  conv => whnf
  refine bI (fun c1 => ?_) (fun c1 => ?_)
  · simp only [decide_eq_true_eq] at c1
    conv => whnf
    refine aI (by omega) ?_
    conv => whnf
    refine aI (by omega) ?_
    conv => whnf
    refine aI trivial ?_
    conv => whnf
    refine bI (fun c2 => ?_) (fun c2 => ?_)
    · conv => whnf
      refine ⟨[], _, rfl, rfl, eInt ?_, trivial, rfl, rfl, rfl, fun _ => ⟨rfl, rfl, rfl⟩⟩
      exact idxF_found (d := tStage.dflt) (by omega) hb c2
    · conv => whnf
      refine ⟨i + 1, ⟨by omega, fun j hj => ?_⟩, (by show xs.length - (i + 1) < xs.length - i; omega), .same ⟨rfl, rfl, rfl, ⟨rfl, rfl, rfl, slotInt rfl (wrapEq (by omega) (by omega) (by omega)), trivial⟩, trivial, rfl, rfl, rfl⟩⟩
      by_cases hji : j = i
      · subst hji; exact c2
      · exact hb j (by omega)
  · simp only [decide_eq_false_iff_not] at c1
    conv => whnf
    refine ⟨[], _, rfl, rfl, eInt ?_, trivial, rfl, rfl, rfl, fun _ => ⟨rfl, rfl, rfl⟩⟩
    exact idxF_none (d := tStage.dflt) fun j hj => hb j (by omega)

def sigIdxSt : List (Nat × Spec) := [(101, idxStS)]
theorem sigIdxStOk : SigOk Try.prog (look sigIdxSt) := sigCons sigNil Try.func101 (by kernel_rfl) (c := body Try.f101) rfl idxStOk

def anyStS : Spec := plain fun
  | [.sl (.pair (.int .i64) (.pair (.int .i64) (.pair (.pair (.int .i64) (.int .i64)) (.pair (.int .i64) (.int .i64))))) xs, .fn 89 [] []] => outV (xs.length ≤ 1000000000000) (.bool (xs.any badSt))
  | _ => none

theorem anyStOk : SpecSound Try.prog 88 anyStS := by
  refine sound0 sigIdxStOk Try.func88 (c := body Try.f88) rfl (by kernel_rfl) ?_
  intro args out hf hpre
  split at hf <;> try (cases hf; done)
  rename_i xs
  cases hf
  refine ⟨Nat.le_of_ble_eq_true rfl, ?_⟩
  conv => whnf
  refine aI hpre ?_
  conv => whnf
  refine ⟨[], _, rfl, rfl, eBool ?_, trivial, rfl, rfl, rfl, fun _ => ⟨rfl, rfl, rfl⟩⟩
  exact idxF_any.symm

/-- A window, behind the one ahead of it, among n stages. -/
def winF (n : Nat) (l w : tWin.El) : Bool :=
  (decide (l.1 < w.1) || (decide (l.1 = w.1) && decide (l.2.1 < w.2.1))) && decide (0 ≤ w.1) && decide (w.1 < w.2.1) && decide (w.2.1 < (n : Int)) && withinF w.2.2 0 1000000

def winS : Spec := ⟨true, fun args rows => match args, rows with
  | [.agg [.int .i64 a, .int .i64 b, .int .i64 c], .ptr 0 0, .ptr 1 0], [.box [.int .i64 x, .int .i64 y, .int .i64 z], .box [.int .i64 p, .int .i64 q, .int .i64 r, .sl (.pair (.int .i64) (.pair (.int .i64) (.pair (.pair (.int .i64) (.int .i64)) (.pair (.int .i64) (.int .i64))))) xs, .sl (.pair (.int .i64) (.pair (.int .i64) (.int .i64))) ys]] =>
    some ⟨True, .bool (winF xs.length (x, y, z) (a, b, c)), [.box [.int .i64 a, .int .i64 b, .int .i64 c], .box [.int .i64 p, .int .i64 q, .int .i64 r, .sl tStage xs, .sl tWin ys]], true⟩
  | _, _ => none⟩

theorem winOk : SpecSound Try.prog 87 winS := by
  refine sound1 sigWOk Try.func87 (c := body Try.f87) rfl (by kernel_rfl) ?_
  intro args rows out hf hpre
  split at hf <;> try (cases hf; done)
  cases hf
  refine ⟨Nat.le_of_ble_eq_true rfl, ?_⟩
  conv => whnf
  refine aI ?_ ?_
  · conv => whnf
    intro _; trivial
  conv => whnf
  exact ⟨[], _, rfl, rfl, rfl, aI (aI rfl (aI rfl (aI rfl trivial))) (aI (aI rfl (aI rfl (aI rfl (aI rfl (aI rfl trivial))))) trivial), rfl, rfl, rfl, fun h => by cases h⟩

def sigWin : List (Nat × Spec) := [(87, winS)]
theorem sigWinOk : SigOk Try.prog (look sigWin) := sigCons sigNil Try.func87 (by kernel_rfl) (c := body Try.f87) rfl winOk

def badWinS : Spec := ⟨true, fun args rows => match args, rows with
  | [.agg [.int .i64 a, .int .i64 b, .int .i64 c], .ptr 0 0], [.box [.fn 87 [] [.ptr 1 0, .ptr 2 0]], .box [.int .i64 x, .int .i64 y, .int .i64 z], .box [.int .i64 p, .int .i64 q, .int .i64 r, .sl (.pair (.int .i64) (.pair (.int .i64) (.pair (.pair (.int .i64) (.int .i64)) (.pair (.int .i64) (.int .i64))))) xs, .sl (.pair (.int .i64) (.pair (.int .i64) (.int .i64))) ys]] =>
    some ⟨True, .bool (!winF xs.length (x, y, z) (a, b, c)), [.box [.fn 87 [] [.ptr 1 0, .ptr 2 0]], .box [.int .i64 a, .int .i64 b, .int .i64 c], .box [.int .i64 p, .int .i64 q, .int .i64 r, .sl tStage xs, .sl tWin ys]], true⟩
  | _, _ => none⟩

theorem badWinOk : SpecSound Try.prog 92 badWinS := by
  refine sound1 sigWinOk Try.func92 (c := body Try.f92) rfl (by kernel_rfl) ?_
  intro args rows out hf hpre
  split at hf <;> try (cases hf; done)
  cases hf
  refine ⟨Nat.le_of_ble_eq_true rfl, ?_⟩
  conv => whnf
  refine aI trivial ?_
  conv => whnf
  exact ⟨[], _, rfl, rfl, rfl, aI (aI (aI rfl (aI trivial (aI (aI rfl rfl) (aI (aI rfl rfl) trivial)))) trivial) (aI (aI rfl (aI rfl (aI rfl trivial))) (aI (aI rfl (aI rfl (aI rfl (aI rfl (aI rfl trivial))))) trivial)), rfl, rfl, rfl, fun h => by cases h⟩

def sigBadW : List (Nat × Spec) := [(92, badWinS)]
theorem sigBadWOk : SigOk Try.prog (look sigBadW) := sigCons sigNil Try.func92 (by kernel_rfl) (c := body Try.f92) rfl badWinOk

/-- What the window at i is held against: the one ahead of it. -/
def ahead (l : tWin.El) (ws : List tWin.El) : Nat → tWin.El
  | 0 => l
  | i + 1 => getI ws tWin.dflt i

def duo (l : tWin.El) : List tWin.El → List (tWin.El × tWin.El)
  | [] => []
  | w :: r => (l, w) :: duo w r

theorem duo_length : ∀ {ws : List tWin.El} {l : tWin.El}, (duo l ws).length = ws.length
  | [], _ => rfl
  | w :: r, l => by simp [duo, duo_length]

theorem duo_get : ∀ {ws : List tWin.El} {l : tWin.El} {i : Nat}, i < ws.length → getI (duo l ws) (l, l) i = (ahead l ws i, getI ws tWin.dflt i)
  | [], _, _, h => by simp at h
  | w :: r, l, 0, _ => rfl
  | w :: r, l, i + 1, h => by
    have h1 := duo_get (ws := r) (l := w) (i := i) (by simpa using h)
    have hd : ∀ (d e : tWin.El × tWin.El), getI (duo w r) d i = getI (duo w r) e i := fun d e => by
      have : i < (duo w r).length := by rw [duo_length]; simpa using h
      simp [getI, List.getD, List.getElem?_eq_getElem this]
    show getI (duo w r) (l, l) i = _
    rw [hd (l, l) (w, w), h1]
    cases i <;> rfl

/-- The first window that is not valid. -/
def badW (n : Nat) (q : tWin.El × tWin.El) : Bool := !winF n q.1 q.2

def idxWinS : Spec := ⟨true, fun args rows => match args, rows with
  | [.sl (.pair (.int .i64) (.pair (.int .i64) (.int .i64))) ws, .fn 92 [] [.ptr 0 0]], [.box [.fn 87 [] [.ptr 1 0, .ptr 2 0]], .box [.int .i64 x, .int .i64 y, .int .i64 z], .box [.int .i64 p, .int .i64 q, .int .i64 r, .sl (.pair (.int .i64) (.pair (.int .i64) (.pair (.pair (.int .i64) (.int .i64)) (.pair (.int .i64) (.int .i64))))) xs, .sl (.pair (.int .i64) (.pair (.int .i64) (.int .i64))) ys]] =>
    some ⟨ws.length ≤ 1000000000000, .int .i64 (idxF (badW xs.length) (duo (x, y, z) ws)), [.dead, .dead, .dead], true⟩
  | _, _ => none⟩

theorem idxWinOk : SpecSound Try.prog 103 idxWinS := by
  refine sound1 sigBadWOk Try.func103 (c := body Try.f103) rfl (by kernel_rfl) ?_
  intro args rows out hf hpre
  split at hf <;> try (cases hf; done)
  rename_i ws x y z p q r xs ys
  cases hf
  change ws.length ≤ 1000000000000 at hpre
  refine ⟨Nat.le_of_ble_eq_true rfl, ?_⟩
  conv => whnf
  refine ⟨Nat, fun i => ⟨19, [(0, ⟨[], .sl tWin ws⟩), (1, ⟨[], .fn 92 [] [.ptr 100000 0]⟩), (7, ⟨[], .int .i64 ws.length⟩), (8, ⟨[], .int .i64 i⟩)], [], [100000, 100001, 100002],
      [(100000, .box [.fn 87 [] [.ptr 100001 0, .ptr 100002 0]]), (100001, .box [.int .i64 (ahead (x, y, z) ws i).1, .int .i64 (ahead (x, y, z) ws i).2.1, .int .i64 (ahead (x, y, z) ws i).2.2]), (100002, .box [.int .i64 p, .int .i64 q, .int .i64 r, .sl tStage xs, .sl tWin ys])]⟩,
    fun i => i ≤ ws.length ∧ ∀ j, j < i → badW xs.length (getI (duo (x, y, z) ws) ((x, y, z), (x, y, z)) j) = false, fun i => ws.length - i, 0, ⟨by omega, fun j hj => by omega⟩, .same ⟨rfl, rfl, rfl, ⟨rfl, rfl, rfl, rfl, trivial⟩, ⟨rfl, rfl, rfl, trivial⟩, rfl, rfl, rfl⟩, ?_⟩
  intro i ⟨hi, hb⟩
  conv => whnf
  refine bI (fun c1 => ?_) (fun c1 => ?_)
  · simp only [decide_eq_true_eq] at c1
    have hlt : i < ws.length := by omega
    conv => whnf
    refine aI (by omega) ?_
    conv => whnf
    refine aI (by omega) ?_
    conv => whnf
    refine aI trivial ?_
    conv => whnf
    refine bI (fun c2 => ?_) (fun c2 => ?_)
    · conv => whnf
      refine ⟨[], _, rfl, rfl, eInt ?_, aI trivial (aI trivial (aI trivial trivial)), rfl, rfl, rfl, fun h => by cases h⟩
      exact idxF_found (d := ((x, y, z), (x, y, z))) (by rw [duo_length]; exact hlt) hb (by rw [duo_get hlt]; exact c2)
    · conv => whnf
      refine ⟨i + 1, ⟨by omega, fun j hj => ?_⟩, (by show ws.length - (i + 1) < ws.length - i; omega), .same ⟨rfl, rfl, rfl, ⟨rfl, rfl, rfl, slotInt rfl (wrapEq (by omega) (by omega) (by omega)), trivial⟩, ⟨rfl, rfl, rfl, trivial⟩, rfl, rfl, rfl⟩⟩
      by_cases hji : j = i
      · subst hji; rw [duo_get hlt]; exact c2
      · exact hb j (by omega)
  · simp only [decide_eq_false_iff_not] at c1
    conv => whnf
    refine ⟨[], _, rfl, rfl, eInt ?_, aI trivial (aI trivial (aI trivial trivial)), rfl, rfl, rfl, fun h => by cases h⟩
    exact idxF_none (d := ((x, y, z), (x, y, z))) fun j hj => hb j (by rw [duo_length] at hj; omega)

def sigIdxW : List (Nat × Spec) := [(103, idxWinS)]
theorem sigIdxWOk : SigOk Try.prog (look sigIdxW) := sigCons sigNil Try.func103 (by kernel_rfl) (c := body Try.f103) rfl idxWinOk

def anyWinS : Spec := ⟨true, fun args rows => match args, rows with
  | [.sl (.pair (.int .i64) (.pair (.int .i64) (.int .i64))) ws, .fn 92 [] [.ptr 0 0]], [.box [.fn 87 [] [.ptr 1 0, .ptr 2 0]], .box [.int .i64 x, .int .i64 y, .int .i64 z], .box [.int .i64 p, .int .i64 q, .int .i64 r, .sl (.pair (.int .i64) (.pair (.int .i64) (.pair (.pair (.int .i64) (.int .i64)) (.pair (.int .i64) (.int .i64))))) xs, .sl (.pair (.int .i64) (.pair (.int .i64) (.int .i64))) ys]] =>
    some ⟨ws.length ≤ 1000000000000, .bool ((duo (x, y, z) ws).any (badW xs.length)), [.dead, .dead, .dead], true⟩
  | _, _ => none⟩

theorem anyWinOk : SpecSound Try.prog 91 anyWinS := by
  refine sound1 sigIdxWOk Try.func91 (c := body Try.f91) rfl (by kernel_rfl) ?_
  intro args rows out hf hpre
  split at hf <;> try (cases hf; done)
  rename_i ws x y z p q r xs ys
  cases hf
  refine ⟨Nat.le_of_ble_eq_true rfl, ?_⟩
  conv => whnf
  refine aI hpre ?_
  conv => whnf
  refine ⟨[], _, rfl, rfl, eBool ?_, aI trivial (aI trivial (aI trivial trivial)), rfl, rfl, rfl, fun h => by cases h⟩
  exact idxF_any.symm

def sigValid : List (Nat × Spec) := [(68, withinS), (88, anyStS), (91, anyWinS)]
theorem sigValidOk : SigOk Try.prog (look sigValid) := sigCons (sigCons (sigCons sigNil Try.func91 (by kernel_rfl) (c := body Try.f91) rfl anyWinOk) Try.func88 (by kernel_rfl) (c := body Try.f88) rfl anyStOk) Try.func68 (by kernel_rfl) (c := body Try.f68) rfl withinOk

end Go.AM.Ytkacoophnfljcaa.Pl
