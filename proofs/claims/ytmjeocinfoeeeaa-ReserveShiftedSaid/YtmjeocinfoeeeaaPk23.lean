/- PlA, PlB, PlC, PlD, PlE, PlF. -/
import Derived.Test.YtmjeocinfoeeeaaPk22

section
set_option linter.all false
namespace Go.AM.Ytmjeocinfoeeeaa.Pl
open Go.Proofs
set_option maxRecDepth 100000
set_option maxHeartbeats 4000000
def withinF (n lo hi : Int) : Bool := decide (lo ≤ n) && decide (n ≤ hi)
def withinS : Spec := plain fun
  | [.int .i64 n, .int .i64 lo, .int .i64 hi] => outV True (.bool (withinF n lo hi))
  | _ => none
theorem withinOk : SpecSound Try.prog 37 withinS := by
  refine sound0 sigNil Try.func37 (c := body Try.f37) rfl (by kernel_rfl) ?_
  intro args out hf hpre
  split at hf <;> try (cases hf; done)
  cases hf
  refine ⟨Nat.le_of_ble_eq_true rfl, ?_⟩
  conv => whnf
  exact ⟨[], _, rfl, rfl, rfl, trivial, rfl, rfl, rfl, fun _ => ⟨rfl, rfl, rfl⟩⟩
def noneS : Spec := plain fun
  | [] => outV True (.agg [.int .i64 (-1), .int .i64 0])
  | _ => none
theorem noneOk : SpecSound Try.prog 38 noneS := by
  refine sound0 sigNil Try.func38 (c := body Try.f38) rfl (by kernel_rfl) ?_
  intro args out hf hpre
  split at hf <;> try (cases hf; done)
  cases hf
  refine ⟨Nat.le_of_ble_eq_true rfl, ?_⟩
  conv => whnf
  exact ⟨[], _, rfl, rfl, aI rfl (aI rfl trivial), trivial, rfl, rfl, rfl, fun _ => ⟨rfl, rfl, rfl⟩⟩
def pickF (c n : Int) : Int := (if c < 0 then -(c + 1) else c) % n
def pickS : Spec := plain fun
  | [.int .i64 c, .int .i64 n] => outV (0 < n ∧ -9223372036854775808 ≤ c ∧ c < 9223372036854775808) (.int .i64 (pickF c n))
  | _ => none
def sigW : List (Nat × Spec) := [(37, withinS)]
theorem sigWOk : SigOk Try.prog (look sigW) := sigCons sigNil Try.func37 (by kernel_rfl) (c := body Try.f37) rfl withinOk
def isSlotF (tool start dur : Int) : Bool := withinF tool 0 59 && withinF start 0 (1000000 - dur)
def isSlotS : Spec := plain fun
  | [.agg [.int .i64 tool, .int .i64 start], .int .i64 dur] => outV (Sm dur) (.bool (isSlotF tool start dur))
  | _ => none
theorem isSlotOk : SpecSound Try.prog 87 isSlotS := by
  refine sound0 sigWOk Try.func87 (c := body Try.f87) rfl (by kernel_rfl) ?_
  intro args out hf hpre
  split at hf <;> try (cases hf; done)
  rename_i tool start dur
  cases hf
  refine ⟨Nat.le_of_ble_eq_true rfl, ?_⟩
  obtain ⟨h1, h2⟩ := hpre
  conv => whnf
  refine aI trivial ?_
  conv => whnf
  refine aI ?_ ?_
  · conv => whnf
    intro _; trivial
  conv => whnf
  refine ⟨[], _, rfl, rfl, eBool ?_, trivial, rfl, rfl, rfl, fun _ => ⟨rfl, rfl, rfl⟩⟩
  simp (disch := omega) only [wrapId]
  rfl
def sigT : List (Nat × Spec) := [(87, isSlotS), (37, withinS)]
theorem sigTOk : SigOk Try.prog (look sigT) := sigCons sigWOk Try.func87 (by kernel_rfl) (c := body Try.f87) rfl isSlotOk
def isStageF (mn mx mt ms st ss : Int) : Bool := withinF mn 1 mx && decide (mx ≤ 10000) && isSlotF mt ms mx && isSlotF st ss mx && decide (mt ≠ st)
def isStageS : Spec := plain fun
  | [.agg [.int .i64 mn, .int .i64 mx, .int .i64 mt, .int .i64 ms, .int .i64 st, .int .i64 ss]] => outV True (.bool (isStageF mn mx mt ms st ss))
  | _ => none
theorem isStageOk : SpecSound Try.prog 64 isStageS := by
  refine sound0 sigTOk Try.func64 (c := body Try.f64) rfl (by kernel_rfl) ?_
  intro args out hf hpre
  split at hf <;> try (cases hf; done)
  rename_i mn mx mt ms st ss
  cases hf
  refine ⟨Nat.le_of_ble_eq_true rfl, ?_⟩
  conv => whnf
  refine aI trivial ?_
  conv => whnf
  refine bI (fun c1 => ?_) (fun c1 => ?_)
  · conv => whnf
    refine ⟨[], _, rfl, rfl, eBool ?_, trivial, rfl, rfl, rfl, fun _ => ⟨rfl, rfl, rfl⟩⟩
    simp only [Bool.or_eq_true, Bool.not_eq_true', decide_eq_true_eq] at c1
    unfold isStageF
    rcases c1 with c1 | c1
    · simp [c1]
    · have : decide (mx ≤ 10000) = false := by simp; omega
      simp [this]
  · simp only [Bool.or_eq_false_iff, Bool.not_eq_false', decide_eq_false_iff_not] at c1
    obtain ⟨c1, c2⟩ := c1
    have c3 := c1
    unfold withinF at c3
    simp only [Bool.and_eq_true, decide_eq_true_eq] at c3
    have hs : Sm mx := by unfold Sm; omega
    conv => whnf
    refine aI hs ?_
    conv => whnf
    refine aI ?_ ?_
    · conv => whnf
      intro _; exact hs
    conv => whnf
    refine ⟨[], _, rfl, rfl, eBool ?_, trivial, rfl, rfl, rfl, fun _ => ⟨rfl, rfl, rfl⟩⟩
    unfold isStageF
    rw [c1]
    have : decide (mx ≤ 10000) = true := by simp; omega
    rw [this]
    rfl
end Go.AM.Ytmjeocinfoeeeaa.Pl
end

section
set_option linter.all false
namespace Go.AM.Ytmjeocinfoeeeaa.Pl
open Go.Proofs
set_option maxRecDepth 100000
set_option maxHeartbeats 4000000
def sigStage : List (Nat × Spec) := [(64, isStageS), (87, isSlotS), (37, withinS)]
theorem sigStageOk : SigOk Try.prog (look sigStage) := sigCons sigTOk Try.func64 (by kernel_rfl) (c := body Try.f64) rfl isStageOk
def badS : Spec := plain fun
  | [.agg [.int .i64 mn, .int .i64 mx, .int .i64 mt, .int .i64 ms, .int .i64 st, .int .i64 ss]] => outV True (.bool (!isStageF mn mx mt ms st ss))
  | _ => none
theorem badOk : SpecSound Try.prog 63 badS := by
  refine sound0 sigStageOk Try.func63 (c := body Try.f63) rfl (by kernel_rfl) ?_
  intro args out hf hpre
  split at hf <;> try (cases hf; done)
  rename_i mn mx mt ms st ss
  cases hf
  refine ⟨Nat.le_of_ble_eq_true rfl, ?_⟩
  conv => whnf
  refine aI trivial ?_
  conv => whnf
  exact ⟨[], _, rfl, rfl, rfl, trivial, rfl, rfl, rfl, fun _ => ⟨rfl, rfl, rfl⟩⟩
def sigBad : List (Nat × Spec) := [(63, badS)]
theorem sigBadOk : SigOk Try.prog (look sigBad) := sigCons sigNil Try.func63 (by kernel_rfl) (c := body Try.f63) rfl badOk
def badSt (s : tStage.El) : Bool := !isStageF s.1 s.2.1 s.2.2.1.1 s.2.2.1.2 s.2.2.2.1 s.2.2.2.2
def idxStS : Spec := plain fun
  | [.sl (.pair (.int .i64) (.pair (.int .i64) (.pair (.pair (.int .i64) (.int .i64)) (.pair (.int .i64) (.int .i64))))) xs, .fn 63 [] []] => outV (xs.length ≤ 1000000000000) (.int .i64 (idxF badSt xs))
  | _ => none
theorem idxStOk : SpecSound Try.prog 86 idxStS := by
  refine sound0 sigBadOk Try.func86 (c := body Try.f86) rfl (by kernel_rfl) ?_
  intro args out hf hpre
  split at hf <;> try (cases hf; done)
  rename_i xs
  cases hf
  change xs.length ≤ 1000000000000 at hpre
  refine ⟨Nat.le_of_ble_eq_true rfl, ?_⟩
  conv => whnf
  refine ⟨Nat, fun i => ⟨19, [(0, ⟨[], .sl tStage xs⟩), (1, ⟨[], .fn 63 [] []⟩), (7, ⟨[], .int .i64 xs.length⟩), (8, ⟨[], .int .i64 i⟩)], [], [], []⟩,
    fun i => i ≤ xs.length ∧ ∀ j, j < i → badSt (getI xs tStage.dflt j) = false, fun i => xs.length - i, 0, ⟨by omega, fun j hj => by omega⟩, .same ⟨rfl, rfl, rfl, ⟨rfl, rfl, rfl, rfl, trivial⟩, trivial, rfl, rfl, rfl⟩, ?_⟩
  intro i ⟨hi, hb⟩
  conv => whnf
  refine bI (fun c1 => ?_) (fun c1 => ?_)
  · simp only [decide_eq_true_eq] at c1
    conv => whnf
    refine aI (by omega) ?_
    conv => whnf
    refine aI (by omega) ?_
    conv => whnf
    refine aI trivial ?_
    conv => whnf
    refine bI (fun c2 => ?_) (fun c2 => ?_)
    · conv => whnf
      refine ⟨[], _, rfl, rfl, eInt ?_, trivial, rfl, rfl, rfl, fun _ => ⟨rfl, rfl, rfl⟩⟩
      exact idxF_found (d := tStage.dflt) (by omega) hb c2
    · conv => whnf
      refine ⟨i + 1, ⟨by omega, fun j hj => ?_⟩, (by show xs.length - (i + 1) < xs.length - i; omega), .same ⟨rfl, rfl, rfl, ⟨rfl, rfl, rfl, slotInt rfl (wrapEq (by omega) (by omega) (by omega)), trivial⟩, trivial, rfl, rfl, rfl⟩⟩
      by_cases hji : j = i
      · subst hji; exact c2
      · exact hb j (by omega)
  · simp only [decide_eq_false_iff_not] at c1
    conv => whnf
    refine ⟨[], _, rfl, rfl, eInt ?_, trivial, rfl, rfl, rfl, fun _ => ⟨rfl, rfl, rfl⟩⟩
    exact idxF_none (d := tStage.dflt) fun j hj => hb j (by omega)
def sigIdxSt : List (Nat × Spec) := [(86, idxStS)]
theorem sigIdxStOk : SigOk Try.prog (look sigIdxSt) := sigCons sigNil Try.func86 (by kernel_rfl) (c := body Try.f86) rfl idxStOk
def anyStS : Spec := plain fun
  | [.sl (.pair (.int .i64) (.pair (.int .i64) (.pair (.pair (.int .i64) (.int .i64)) (.pair (.int .i64) (.int .i64))))) xs, .fn 63 [] []] => outV (xs.length ≤ 1000000000000) (.bool (xs.any badSt))
  | _ => none
theorem anyStOk : SpecSound Try.prog 62 anyStS := by
  refine sound0 sigIdxStOk Try.func62 (c := body Try.f62) rfl (by kernel_rfl) ?_
  intro args out hf hpre
  split at hf <;> try (cases hf; done)
  rename_i xs
  cases hf
  refine ⟨Nat.le_of_ble_eq_true rfl, ?_⟩
  conv => whnf
  refine aI hpre ?_
  conv => whnf
  refine ⟨[], _, rfl, rfl, eBool ?_, trivial, rfl, rfl, rfl, fun _ => ⟨rfl, rfl, rfl⟩⟩
  exact idxF_any.symm
def winF (n : Nat) (l w : tWin.El) : Bool :=
  (decide (l.1 < w.1) || (decide (l.1 = w.1) && decide (l.2.1 < w.2.1))) && decide (0 ≤ w.1) && decide (w.1 < w.2.1) && decide (w.2.1 < (n : Int)) && withinF w.2.2 0 1000000
def winS : Spec := ⟨true, fun args rows => match args, rows with
  | [.agg [.int .i64 a, .int .i64 b, .int .i64 c], .ptr 0 0, .ptr 1 0], [.box [.int .i64 x, .int .i64 y, .int .i64 z], .box [.int .i64 p, .int .i64 q, .int .i64 r, .sl (.pair (.int .i64) (.pair (.int .i64) (.pair (.pair (.int .i64) (.int .i64)) (.pair (.int .i64) (.int .i64))))) xs, .sl (.pair (.int .i64) (.pair (.int .i64) (.int .i64))) ys]] =>
    some ⟨True, .bool (winF xs.length (x, y, z) (a, b, c)), [.box [.int .i64 a, .int .i64 b, .int .i64 c], .box [.int .i64 p, .int .i64 q, .int .i64 r, .sl tStage xs, .sl tWin ys]], true⟩
  | _, _ => none⟩
theorem winOk : SpecSound Try.prog 61 winS := by
  refine sound1 sigWOk Try.func61 (c := body Try.f61) rfl (by kernel_rfl) ?_
  intro args rows out hf hpre
  split at hf <;> try (cases hf; done)
  cases hf
  refine ⟨Nat.le_of_ble_eq_true rfl, ?_⟩
  conv => whnf
  refine aI ?_ ?_
  · conv => whnf
    intro _; trivial
  conv => whnf
  exact ⟨[], _, rfl, rfl, rfl, aI (aI rfl (aI rfl (aI rfl trivial))) (aI (aI rfl (aI rfl (aI rfl (aI rfl (aI rfl trivial))))) trivial), rfl, rfl, rfl, fun h => by cases h⟩
def sigWin : List (Nat × Spec) := [(61, winS)]
theorem sigWinOk : SigOk Try.prog (look sigWin) := sigCons sigNil Try.func61 (by kernel_rfl) (c := body Try.f61) rfl winOk
def badWinS : Spec := ⟨true, fun args rows => match args, rows with
  | [.agg [.int .i64 a, .int .i64 b, .int .i64 c], .ptr 0 0], [.box [.fn 61 [] [.ptr 1 0, .ptr 2 0]], .box [.int .i64 x, .int .i64 y, .int .i64 z], .box [.int .i64 p, .int .i64 q, .int .i64 r, .sl (.pair (.int .i64) (.pair (.int .i64) (.pair (.pair (.int .i64) (.int .i64)) (.pair (.int .i64) (.int .i64))))) xs, .sl (.pair (.int .i64) (.pair (.int .i64) (.int .i64))) ys]] =>
    some ⟨True, .bool (!winF xs.length (x, y, z) (a, b, c)), [.box [.fn 61 [] [.ptr 1 0, .ptr 2 0]], .box [.int .i64 a, .int .i64 b, .int .i64 c], .box [.int .i64 p, .int .i64 q, .int .i64 r, .sl tStage xs, .sl tWin ys]], true⟩
  | _, _ => none⟩
theorem badWinOk : SpecSound Try.prog 66 badWinS := by
  refine sound1 sigWinOk Try.func66 (c := body Try.f66) rfl (by kernel_rfl) ?_
  intro args rows out hf hpre
  split at hf <;> try (cases hf; done)
  cases hf
  refine ⟨Nat.le_of_ble_eq_true rfl, ?_⟩
  conv => whnf
  refine aI trivial ?_
  conv => whnf
  exact ⟨[], _, rfl, rfl, rfl, aI (aI (aI rfl (aI trivial (aI (aI rfl rfl) (aI (aI rfl rfl) trivial)))) trivial) (aI (aI rfl (aI rfl (aI rfl trivial))) (aI (aI rfl (aI rfl (aI rfl (aI rfl (aI rfl trivial))))) trivial)), rfl, rfl, rfl, fun h => by cases h⟩
def sigBadW : List (Nat × Spec) := [(66, badWinS)]
theorem sigBadWOk : SigOk Try.prog (look sigBadW) := sigCons sigNil Try.func66 (by kernel_rfl) (c := body Try.f66) rfl badWinOk
def ahead (l : tWin.El) (ws : List tWin.El) : Nat → tWin.El
  | 0 => l
  | i + 1 => getI ws tWin.dflt i
def duo (l : tWin.El) : List tWin.El → List (tWin.El × tWin.El)
  | [] => []
  | w :: r => (l, w) :: duo w r
theorem duo_length : ∀ {ws : List tWin.El} {l : tWin.El}, (duo l ws).length = ws.length
  | [], _ => rfl
  | w :: r, l => by simp [duo, duo_length]
theorem duo_get : ∀ {ws : List tWin.El} {l : tWin.El} {i : Nat}, i < ws.length → getI (duo l ws) (l, l) i = (ahead l ws i, getI ws tWin.dflt i)
  | [], _, _, h => by simp at h
  | w :: r, l, 0, _ => rfl
  | w :: r, l, i + 1, h => by
    have h1 := duo_get (ws := r) (l := w) (i := i) (by simpa using h)
    have hd : ∀ (d e : tWin.El × tWin.El), getI (duo w r) d i = getI (duo w r) e i := fun d e => by
      have : i < (duo w r).length := by rw [duo_length]; simpa using h
      simp [getI, List.getD, List.getElem?_eq_getElem this]
    show getI (duo w r) (l, l) i = _
    rw [hd (l, l) (w, w), h1]
    cases i <;> rfl
def badW (n : Nat) (q : tWin.El × tWin.El) : Bool := !winF n q.1 q.2
def idxWinS : Spec := ⟨true, fun args rows => match args, rows with
  | [.sl (.pair (.int .i64) (.pair (.int .i64) (.int .i64))) ws, .fn 66 [] [.ptr 0 0]], [.box [.fn 61 [] [.ptr 1 0, .ptr 2 0]], .box [.int .i64 x, .int .i64 y, .int .i64 z], .box [.int .i64 p, .int .i64 q, .int .i64 r, .sl (.pair (.int .i64) (.pair (.int .i64) (.pair (.pair (.int .i64) (.int .i64)) (.pair (.int .i64) (.int .i64))))) xs, .sl (.pair (.int .i64) (.pair (.int .i64) (.int .i64))) ys]] =>
    some ⟨ws.length ≤ 1000000000000, .int .i64 (idxF (badW xs.length) (duo (x, y, z) ws)), [.dead, .dead, .dead], true⟩
  | _, _ => none⟩
theorem idxWinOk : SpecSound Try.prog 88 idxWinS := by
  refine sound1 sigBadWOk Try.func88 (c := body Try.f88) rfl (by kernel_rfl) ?_
  intro args rows out hf hpre
  split at hf <;> try (cases hf; done)
  rename_i ws x y z p q r xs ys
  cases hf
  change ws.length ≤ 1000000000000 at hpre
  refine ⟨Nat.le_of_ble_eq_true rfl, ?_⟩
  conv => whnf
  refine ⟨Nat, fun i => ⟨19, [(0, ⟨[], .sl tWin ws⟩), (1, ⟨[], .fn 66 [] [.ptr 100000 0]⟩), (7, ⟨[], .int .i64 ws.length⟩), (8, ⟨[], .int .i64 i⟩)], [], [100000, 100001, 100002],
      [(100000, .box [.fn 61 [] [.ptr 100001 0, .ptr 100002 0]]), (100001, .box [.int .i64 (ahead (x, y, z) ws i).1, .int .i64 (ahead (x, y, z) ws i).2.1, .int .i64 (ahead (x, y, z) ws i).2.2]), (100002, .box [.int .i64 p, .int .i64 q, .int .i64 r, .sl tStage xs, .sl tWin ys])]⟩,
    fun i => i ≤ ws.length ∧ ∀ j, j < i → badW xs.length (getI (duo (x, y, z) ws) ((x, y, z), (x, y, z)) j) = false, fun i => ws.length - i, 0, ⟨by omega, fun j hj => by omega⟩, .same ⟨rfl, rfl, rfl, ⟨rfl, rfl, rfl, rfl, trivial⟩, ⟨rfl, rfl, rfl, trivial⟩, rfl, rfl, rfl⟩, ?_⟩
  intro i ⟨hi, hb⟩
  conv => whnf
  refine bI (fun c1 => ?_) (fun c1 => ?_)
  · simp only [decide_eq_true_eq] at c1
    have hlt : i < ws.length := by omega
    conv => whnf
    refine aI (by omega) ?_
    conv => whnf
    refine aI (by omega) ?_
    conv => whnf
    refine aI trivial ?_
    conv => whnf
    refine bI (fun c2 => ?_) (fun c2 => ?_)
    · conv => whnf
      refine ⟨[], _, rfl, rfl, eInt ?_, aI trivial (aI trivial (aI trivial trivial)), rfl, rfl, rfl, fun h => by cases h⟩
      exact idxF_found (d := ((x, y, z), (x, y, z))) (by rw [duo_length]; exact hlt) hb (by rw [duo_get hlt]; exact c2)
    · conv => whnf
      refine ⟨i + 1, ⟨by omega, fun j hj => ?_⟩, (by show ws.length - (i + 1) < ws.length - i; omega), .same ⟨rfl, rfl, rfl, ⟨rfl, rfl, rfl, slotInt rfl (wrapEq (by omega) (by omega) (by omega)), trivial⟩, ⟨rfl, rfl, rfl, trivial⟩, rfl, rfl, rfl⟩⟩
      by_cases hji : j = i
      · subst hji; rw [duo_get hlt]; exact c2
      · exact hb j (by omega)
  · simp only [decide_eq_false_iff_not] at c1
    conv => whnf
    refine ⟨[], _, rfl, rfl, eInt ?_, aI trivial (aI trivial (aI trivial trivial)), rfl, rfl, rfl, fun h => by cases h⟩
    exact idxF_none (d := ((x, y, z), (x, y, z))) fun j hj => hb j (by rw [duo_length] at hj; omega)
def sigIdxW : List (Nat × Spec) := [(88, idxWinS)]
theorem sigIdxWOk : SigOk Try.prog (look sigIdxW) := sigCons sigNil Try.func88 (by kernel_rfl) (c := body Try.f88) rfl idxWinOk
def anyWinS : Spec := ⟨true, fun args rows => match args, rows with
  | [.sl (.pair (.int .i64) (.pair (.int .i64) (.int .i64))) ws, .fn 66 [] [.ptr 0 0]], [.box [.fn 61 [] [.ptr 1 0, .ptr 2 0]], .box [.int .i64 x, .int .i64 y, .int .i64 z], .box [.int .i64 p, .int .i64 q, .int .i64 r, .sl (.pair (.int .i64) (.pair (.int .i64) (.pair (.pair (.int .i64) (.int .i64)) (.pair (.int .i64) (.int .i64))))) xs, .sl (.pair (.int .i64) (.pair (.int .i64) (.int .i64))) ys]] =>
    some ⟨ws.length ≤ 1000000000000, .bool ((duo (x, y, z) ws).any (badW xs.length)), [.dead, .dead, .dead], true⟩
  | _, _ => none⟩
theorem anyWinOk : SpecSound Try.prog 65 anyWinS := by
  refine sound1 sigIdxWOk Try.func65 (c := body Try.f65) rfl (by kernel_rfl) ?_
  intro args rows out hf hpre
  split at hf <;> try (cases hf; done)
  rename_i ws x y z p q r xs ys
  cases hf
  refine ⟨Nat.le_of_ble_eq_true rfl, ?_⟩
  conv => whnf
  refine aI hpre ?_
  conv => whnf
  refine ⟨[], _, rfl, rfl, eBool ?_, aI trivial (aI trivial (aI trivial trivial)), rfl, rfl, rfl, fun h => by cases h⟩
  exact idxF_any.symm
def sigValid : List (Nat × Spec) := [(37, withinS), (62, anyStS), (65, anyWinS)]
theorem sigValidOk : SigOk Try.prog (look sigValid) := sigCons (sigCons (sigCons sigNil Try.func65 (by kernel_rfl) (c := body Try.f65) rfl anyWinOk) Try.func62 (by kernel_rfl) (c := body Try.f62) rfl anyStOk) Try.func37 (by kernel_rfl) (c := body Try.f37) rfl withinOk
end Go.AM.Ytmjeocinfoeeeaa.Pl
end

section
set_option linter.all false
namespace Go.AM.Ytmjeocinfoeeeaa.Pl
open Go.Proofs
set_option maxRecDepth 100000
set_option maxHeartbeats 4000000
def validF (e a b : Int) (xs : List tStage.El) (ws : List tWin.El) : Bool :=
  withinF e 0 1000000 && withinF a 0 b && decide (b ≤ 10000) && withinF (xs.length : Int) 1 8 && decide ((ws.length : Int) ≤ 20) && (!xs.any badSt && !(duo (-1, 0, 0) ws).any (badW xs.length))
def validS : Spec := plain fun
  | [.agg [.int .i64 e, .int .i64 a, .int .i64 b, .sl (.pair (.int .i64) (.pair (.int .i64) (.pair (.pair (.int .i64) (.int .i64)) (.pair (.int .i64) (.int .i64))))) xs, .sl (.pair (.int .i64) (.pair (.int .i64) (.int .i64))) ws]] => outV True (.bool (validF e a b xs ws))
  | _ => none
theorem validOk : SpecSound Try.prog 35 validS := by
  refine sound0 sigValidOk Try.func35 (c := body Try.f35) rfl (by kernel_rfl) ?_
  intro args out hf hpre
  split at hf <;> try (cases hf; done)
  rename_i e a b xs ws
  cases hf
  refine ⟨Nat.le_of_ble_eq_true rfl, ?_⟩
  conv => whnf
  refine aI trivial ?_
  conv => whnf
  refine aI ?_ ?_
  · conv => whnf
    intro _; trivial
  conv => whnf
  refine bI (fun c1 => ?_) (fun c1 => ?_)
  · conv => whnf
    refine ⟨[], _, rfl, rfl, eBool ?_, trivial, rfl, rfl, rfl, fun _ => ⟨rfl, rfl, rfl⟩⟩
    unfold validF
    simp only [Bool.or_eq_true, Bool.not_eq_true', decide_eq_true_eq] at c1
    rcases c1 with (c1 | c1) | c1
    · simp [c1]
    · simp [c1]
    · have : decide (b ≤ 10000) = false := by simp; omega
      simp [this]
  · simp only [Bool.or_eq_false_iff, Bool.not_eq_false', decide_eq_false_iff_not] at c1
    obtain ⟨⟨c1, c2⟩, c3⟩ := c1
    have c3' : decide (b ≤ 10000) = true := by simp; omega
    conv => whnf
    refine aI trivial ?_
    conv => whnf
    refine bI (fun c4 => ?_) (fun c4 => ?_)
    · conv => whnf
      refine ⟨[], _, rfl, rfl, eBool ?_, trivial, rfl, rfl, rfl, fun _ => ⟨rfl, rfl, rfl⟩⟩
      unfold validF
      simp only [Bool.or_eq_true, Bool.not_eq_true', decide_eq_true_eq] at c4
      rcases c4 with c4 | c4
      · simp [c4]
      · have : decide ((ws.length : Int) ≤ 20) = false := by simp; omega
        rw [this]; simp
    · simp only [Bool.or_eq_false_iff, Bool.not_eq_false', decide_eq_false_iff_not] at c4
      obtain ⟨c4, c5⟩ := c4
      have c5' : decide ((ws.length : Int) ≤ 20) = true := by simp; omega
      have c6 := c4
      unfold withinF at c6
      simp only [Bool.and_eq_true, decide_eq_true_eq] at c6
      conv => whnf
      refine aI (by show xs.length ≤ 1000000000000; omega) ?_
      conv => whnf
      refine aI ?_ ?_
      · conv => whnf
        intro _
        show ws.length ≤ 1000000000000
        omega
      conv => whnf
      refine ⟨[], _, rfl, rfl, eBool ?_, trivial, rfl, rfl, rfl, fun _ => ⟨rfl, rfl, rfl⟩⟩
      unfold validF
      rw [c1, c2, c3', c4, c5']
      rfl
def sigV : List (Nat × Spec) := [(37, withinS), (35, validS)]
theorem sigVOk : SigOk Try.prog (look sigV) := sigCons (sigCons sigNil Try.func35 (by kernel_rfl) (c := body Try.f35) rfl validOk) Try.func37 (by kernel_rfl) (c := body Try.f37) rfl withinOk
end Go.AM.Ytmjeocinfoeeeaa.Pl
end

section
set_option linter.all false
namespace Go.AM.Ytmjeocinfoeeeaa.Pl
open Go.Proofs
set_option maxRecDepth 100000
set_option maxHeartbeats 4000000
theorem eqTy_iff : ∀ {t : Ty} {x y : t.El} {e : Bool}, eqTy t x y = some e → (e = true ↔ x = y)
  | .int _, x, y, e, h => by cases h; simp
  | .bool, x, y, e, h => by cases h; simp
  | .unit, x, y, e, h => by cases h; simp
  | .str, x, y, e, h => by cases h
  | .slice _, x, y, e, h => by cases h
  | .pair a b, x, y, e, h => by
    simp only [eqTy] at h
    split at h
    · rename_i p q h1 h2
      cases h
      simp only [Bool.and_eq_true, eqTy_iff h1, eqTy_iff h2]
      exact ⟨fun ⟨h3, h4⟩ => Prod.ext h3 h4, fun h => ⟨by rw [h], by rw [h]⟩⟩
    · cases h
theorem list_ext_getI {α : Type} (d : α) : ∀ {xs ys : List α}, xs.length = ys.length → (∀ j, j < xs.length → getI xs d j = getI ys d j) → xs = ys
  | [], [], _, _ => rfl
  | [], _ :: _, h, _ => by simp at h
  | _ :: _, [], h, _ => by simp at h
  | x :: xs, y :: ys, h, hj => by
    have h0 : x = y := hj 0 (by simp)
    rw [h0, list_ext_getI d (by simpa using h) fun j hlt => hj (j + 1) (by simpa using hlt)]
def eqStF (xs ys : List (Int × Int × (Int × Int) × Int × Int)) : Bool := decide (xs = ys)
def eqStS : Spec := plain fun
  | [.sl (.pair (.int .i64) (.pair (.int .i64) (.pair (.pair (.int .i64) (.int .i64)) (.pair (.int .i64) (.int .i64))))) xs, .sl (.pair (.int .i64) (.pair (.int .i64) (.pair (.pair (.int .i64) (.int .i64)) (.pair (.int .i64) (.int .i64))))) ys] => outV (xs.length ≤ 1000000000000 ∧ ys.length ≤ 1000000000000) (.bool (eqStF xs ys))
  | _ => none
def eqWiF (xs ys : List (Int × Int × Int)) : Bool := decide (xs = ys)
def eqWiS : Spec := plain fun
  | [.sl (.pair (.int .i64) (.pair (.int .i64) (.int .i64))) xs, .sl (.pair (.int .i64) (.pair (.int .i64) (.int .i64))) ys] => outV (xs.length ≤ 1000000000000 ∧ ys.length ≤ 1000000000000) (.bool (eqWiF xs ys))
  | _ => none
def eqViF (xs ys : List (Int × Int × Int × Int)) : Bool := decide (xs = ys)
def eqViS : Spec := plain fun
  | [.sl (.pair (.int .i64) (.pair (.int .i64) (.pair (.int .i64) (.int .i64)))) xs, .sl (.pair (.int .i64) (.pair (.int .i64) (.pair (.int .i64) (.int .i64)))) ys] => outV (xs.length ≤ 1000000000000 ∧ ys.length ≤ 1000000000000) (.bool (eqViF xs ys))
  | _ => none
def sameF (e a b : Int) (xs : List (Int × Int × (Int × Int) × Int × Int)) (ws : List (Int × Int × Int)) (e' a' b' : Int) (xs' : List (Int × Int × (Int × Int) × Int × Int)) (ws' : List (Int × Int × Int)) : Bool :=
  decide (e = e') && decide (a = a') && decide (b = b') && eqStF xs xs' && eqWiF ws ws'
def sameS : Spec := plain fun
  | [.agg [.int .i64 e, .int .i64 a, .int .i64 b, .sl (.pair (.int .i64) (.pair (.int .i64) (.pair (.pair (.int .i64) (.int .i64)) (.pair (.int .i64) (.int .i64))))) xs, .sl (.pair (.int .i64) (.pair (.int .i64) (.int .i64))) ws], .agg [.int .i64 e', .int .i64 a', .int .i64 b', .sl (.pair (.int .i64) (.pair (.int .i64) (.pair (.pair (.int .i64) (.int .i64)) (.pair (.int .i64) (.int .i64))))) xs', .sl (.pair (.int .i64) (.pair (.int .i64) (.int .i64))) ws']] =>
    outV (xs.length ≤ 1000000000000 ∧ xs'.length ≤ 1000000000000 ∧ ws.length ≤ 1000000000000 ∧ ws'.length ≤ 1000000000000) (.bool (sameF e a b xs ws e' a' b' xs' ws'))
  | _ => none
end Go.AM.Ytmjeocinfoeeeaa.Pl
end

section
set_option linter.all false
namespace Go.AM.Ytmjeocinfoeeeaa.Pl
open Go.Proofs
set_option maxRecDepth 100000
set_option maxHeartbeats 4000000
def sigPoss : List (Nat × Spec) := [(35, validS), (37, withinS), (38, noneS)]
theorem sigPossOk : SigOk Try.prog (look sigPoss) := sigCons (sigCons (sigCons sigNil Try.func38 (by kernel_rfl) (c := body Try.f38) rfl noneOk) Try.func37 (by kernel_rfl) (c := body Try.f37) rfl withinOk) Try.func35 (by kernel_rfl) (c := body Try.f35) rfl validOk
def fitsAt (a b : Int) (xs : List tStage.El) (du mo : List Int) (i : Nat) : Bool :=
  withinF (getI du 0 i) (getI xs tStage.dflt i).1 (getI xs tStage.dflt i).2.1 && withinF (getI mo 0 i) a b
def possF (e a b : Int) (xs : List tStage.El) (ws : List tWin.El) (du mo : List Int) (de tl fa : Int) : Bool :=
  validF e a b xs ws && decide (du.length = xs.length) && decide (mo.length = xs.length) && withinF de a b && (List.range xs.length).all (fitsAt a b xs du mo) &&
    ((decide (tl = -1) && decide (fa = 0)) || (withinF tl 0 59 && withinF fa 0 1000000))
def possS : Spec := plain fun
  | [.agg [.int .i64 e, .int .i64 a, .int .i64 b, .sl (.pair (.int .i64) (.pair (.int .i64) (.pair (.pair (.int .i64) (.int .i64)) (.pair (.int .i64) (.int .i64))))) xs, .sl (.pair (.int .i64) (.pair (.int .i64) (.int .i64))) ws],
      .agg [.sl (.int .i64) du, .sl (.int .i64) mo, .int .i64 de, .int .i64 tl, .int .i64 fa]] => outV (xs.length ≤ 1000000000000) (.bool (possF e a b xs ws du mo de tl fa))
  | _ => none
theorem possOk : SpecSound Try.prog 13 possS := by
  refine sound0 sigPossOk Try.func13 (c := body Try.f13) rfl (by kernel_rfl) ?_
  intro args out hf hpre
  split at hf <;> try (cases hf; done)
  rename_i e a b xs ws du mo de tl fa
  cases hf
  change xs.length ≤ 1000000000000 at hpre
  refine ⟨Nat.le_of_ble_eq_true rfl, ?_⟩
  conv => whnf
  refine aI trivial ?_
  conv => whnf
  refine aI ?_ ?_
  · conv => whnf
    intro _; trivial
  conv => whnf
  refine bI (fun c1 => ?_) (fun c1 => ?_)
  · conv => whnf
    refine ⟨[], _, rfl, rfl, eBool ?_, trivial, rfl, rfl, rfl, fun _ => ⟨rfl, rfl, rfl⟩⟩
    simp only [Bool.or_eq_true, Bool.not_eq_true', decide_eq_true_eq] at c1
    unfold possF
    rcases c1 with ((c1 | c1) | c1) | c1
    · simp [c1]
    · have : decide (du.length = xs.length) = false := by rw [decide_eq_false_iff_not]; omega
      rw [this]; simp
    · have : decide (mo.length = xs.length) = false := by rw [decide_eq_false_iff_not]; omega
      rw [this]; simp
    · simp [c1]
  · simp only [Bool.or_eq_false_iff, Bool.not_eq_false', decide_eq_false_iff_not, Decidable.not_not] at c1
    obtain ⟨⟨⟨c1, c2⟩, c3⟩, c4⟩ := c1
    have l1 : du.length = xs.length := by omega
    have l2 : mo.length = xs.length := by omega
    conv => whnf
    refine ⟨Nat, fun i => ⟨90, [(2, ⟨[], .ptr 2 0⟩), (3, ⟨[], .ptr 3 0⟩), (40, ⟨[], .sl tStage xs⟩), (41, ⟨[], .int .i64 xs.length⟩), (42, ⟨[], .int .i64 i⟩)], [], [2, 3],
        [(2, .box [.int .i64 e, .int .i64 a, .int .i64 b, .sl tStage xs, .sl tWin ws]), (3, .box [.sl tInt du, .sl tInt mo, .int .i64 de, .int .i64 tl, .int .i64 fa])]⟩,
      fun i => i ≤ xs.length ∧ ∀ j, j < i → fitsAt a b xs du mo j = true, fun i => xs.length - i, 0, ⟨by omega, fun j hj => by omega⟩, .same ⟨rfl, rfl, rfl, ⟨rfl, rfl, rfl, rfl, rfl, trivial⟩, ⟨rfl, rfl, trivial⟩, rfl, rfl, rfl⟩, ?_⟩
    intro i ⟨hi, hb⟩
    conv => whnf
    refine bI (fun c5 => ?_) (fun c5 => ?_)
    · simp only [decide_eq_true_eq] at c5
      conv => whnf
      refine aI (by omega) ?_
      conv => whnf
      refine aI (by omega) ?_
      conv => whnf
      refine aI (by omega) ?_
      conv => whnf
      refine aI (by omega) ?_
      conv => whnf
      refine aI trivial ?_
      conv => whnf
      refine aI ?_ ?_
      · conv => whnf
        intro _; omega
      conv => whnf
      refine aI ?_ ?_
      · conv => whnf
        intro _; omega
      conv => whnf
      refine aI ?_ ?_
      · conv => whnf
        intro _; trivial
      conv => whnf
      refine bI (fun c6 => ?_) (fun c6 => ?_)
      · conv => whnf
        refine ⟨[], _, rfl, rfl, eBool ?_, trivial, rfl, rfl, rfl, fun _ => ⟨rfl, rfl, rfl⟩⟩
        unfold possF
        have h1 : (List.range xs.length).all (fitsAt a b xs du mo) = false := by
          cases h2 : (List.range xs.length).all (fitsAt a b xs du mo) with
          | false => rfl
          | true =>
            have h3 := List.all_eq_true.1 h2 i (by simp; omega)
            have h4 : (!fitsAt a b xs du mo i) = true := by
              unfold fitsAt
              rw [Bool.not_and]
              exact c6
            rw [h3] at h4; cases h4
        rw [h1]; simp
      · conv => whnf
        refine ⟨i + 1, ⟨by omega, fun j hj => ?_⟩, (by show xs.length - (i + 1) < xs.length - i; omega), .same ⟨rfl, rfl, rfl, ⟨rfl, rfl, rfl, rfl, slotInt rfl (wrapEq (by omega) (by omega) (by omega)), trivial⟩, ⟨rfl, rfl, trivial⟩, rfl, rfl, rfl⟩⟩
        by_cases hji : j = i
        · subst hji
          have h4 : (!fitsAt a b xs du mo j) = false := by
            unfold fitsAt
            rw [Bool.not_and]
            exact c6
          simpa using h4
        · exact hb j (by omega)
    · simp only [decide_eq_false_iff_not] at c5
      have hall : (List.range xs.length).all (fitsAt a b xs du mo) = true := List.all_eq_true.2 fun j hj => hb j (by simp at hj; omega)
      have d1 : decide (du.length = xs.length) = true := by rw [decide_eq_true_eq]; exact l1
      have d2 : decide (mo.length = xs.length) = true := by rw [decide_eq_true_eq]; exact l2
      conv => whnf
      refine aI trivial ?_
      conv => whnf
      refine aI ?_ ?_
      · conv => whnf
        intro _; trivial
      conv => whnf
      refine aI ?_ ?_
      · conv => whnf
        intro _ _; trivial
      conv => whnf
      refine ⟨[], _, rfl, rfl, eBool ?_, trivial, rfl, rfl, rfl, fun _ => ⟨rfl, rfl, rfl⟩⟩
      unfold possF
      rw [c1, d1, d2, c4, hall]
      rfl
def reachedF (mt ms st ss de tl fa t mv du : Int) : (Int × Int) × Bool :=
  if tl = mt ∧ fa < ms + du then
    if fa ≤ t then ((st, ss), decide (t + mv ≤ ss))
    else if fa < ms then ((st, ss), decide (max (t + mv) fa + de ≤ ss))
    else if ms < t + mv then ((mt, ms), false)
    else ((st, ss), decide (fa + de ≤ ss))
  else ((mt, ms), decide (t + mv ≤ ms))
def reachedS : Spec := plain fun
  | [.agg [.int .i64 _, .int .i64 _, .int .i64 mt, .int .i64 ms, .int .i64 st, .int .i64 ss], .agg [.sl (.int .i64) _, .sl (.int .i64) _, .int .i64 de, .int .i64 tl, .int .i64 fa], .int .i64 t, .int .i64 mv, .int .i64 du] =>
    outV (Sm ms ∧ Sm de ∧ Sm fa ∧ Sm t ∧ Sm mv ∧ Sm du) (.tup [.agg [.int .i64 (reachedF mt ms st ss de tl fa t mv du).1.1, .int .i64 (reachedF mt ms st ss de tl fa t mv du).1.2], .bool (reachedF mt ms st ss de tl fa t mv du).2])
  | _ => none
theorem reachedOk : SpecSound Try.prog 39 reachedS := by
  refine sound0 sigNil Try.func39 (c := body Try.f39) rfl (by kernel_rfl) ?_
  intro args out hf hpre
  split at hf <;> try (cases hf; done)
  rename_i mn mx mt ms st ss x1 x2 de tl fa t mv du
  cases hf
  refine ⟨Nat.le_of_ble_eq_true rfl, ?_⟩
  obtain ⟨h1, h2, h3, h4, h5, h6⟩ := hpre
  unfold Sm at h1 h2 h3 h4 h5 h6
  conv => whnf
  refine bI (fun c1 => ?_) (fun c1 => ?_)
  · conv => whnf
    refine ⟨[], _, rfl, rfl, ?_, trivial, rfl, rfl, rfl, fun _ => ⟨rfl, rfl, rfl⟩⟩
    refine aI (aI (eInt ?_) (aI (eInt ?_) trivial)) (aI (eBool ?_) trivial)
    all_goals simp (disch := omega) only [wrapId] at c1 ⊢
    all_goals simp only [Bool.not_eq_true', Bool.and_eq_false_iff, decide_eq_false_iff_not] at c1
    all_goals unfold reachedF
    all_goals (repeat' split) <;> first | rfl | (exfalso; omega)
  · simp (disch := omega) only [wrapId] at c1
    simp only [Bool.not_eq_false', Bool.and_eq_true, decide_eq_true_eq] at c1
    conv => whnf
    refine bI (fun c2 => ?_) (fun c2 => ?_)
    · conv => whnf
      refine ⟨[], _, rfl, rfl, ?_, trivial, rfl, rfl, rfl, fun _ => ⟨rfl, rfl, rfl⟩⟩
      refine aI (aI (eInt ?_) (aI (eInt ?_) trivial)) (aI (eBool ?_) trivial)
      all_goals simp (disch := omega) only [wrapId, decide_eq_true_eq] at c2 ⊢
      all_goals unfold reachedF
      all_goals (repeat' split) <;> first | rfl | (exfalso; omega)
    · simp only [decide_eq_false_iff_not] at c2
      conv => whnf
      refine bI (fun c3 => ?_) (fun c3 => ?_)
      · simp only [decide_eq_true_eq] at c3
        conv => whnf
        refine ⟨[], _, rfl, rfl, ?_, trivial, rfl, rfl, rfl, fun _ => ⟨rfl, rfl, rfl⟩⟩
        refine aI (aI (eInt ?_) (aI (eInt ?_) trivial)) (aI (eBool ?_) trivial)
        all_goals try simp (disch := omega) only [wrapId]
        all_goals unfold reachedF
        all_goals (repeat' split) <;> first | rfl | (exfalso; omega)
      · simp only [decide_eq_false_iff_not] at c3
        conv => whnf
        refine bI (fun c4 => ?_) (fun c4 => ?_)
        · simp (disch := omega) only [wrapId, decide_eq_true_eq] at c4
          conv => whnf
          refine ⟨[], _, rfl, rfl, ?_, trivial, rfl, rfl, rfl, fun _ => ⟨rfl, rfl, rfl⟩⟩
          refine aI (aI (eInt ?_) (aI (eInt ?_) trivial)) (aI (eBool ?_) trivial)
          all_goals unfold reachedF
          all_goals (repeat' split) <;> first | rfl | (exfalso; omega)
        · simp (disch := omega) only [wrapId, decide_eq_false_iff_not] at c4
          conv => whnf
          refine ⟨[], _, rfl, rfl, ?_, trivial, rfl, rfl, rfl, fun _ => ⟨rfl, rfl, rfl⟩⟩
          refine aI (aI (eInt ?_) (aI (eInt ?_) trivial)) (aI (eBool ?_) trivial)
          all_goals try simp (disch := omega) only [wrapId]
          all_goals unfold reachedF
          all_goals (repeat' split) <;> first | rfl | (exfalso; omega)
end Go.AM.Ytmjeocinfoeeeaa.Pl
end

section
set_option linter.all false
namespace Go.AM.Ytmjeocinfoeeeaa.Pl
open Go.Proofs
set_option maxRecDepth 100000
set_option maxHeartbeats 8000000
theorem eSeq {t : Ty} {xs ys : List t.El} (h : xs = ys) : AObj.seq t xs = AObj.seq t ys := by rw [h]
theorem getI_mem {α : Type} {xs : List α} {d : α} {i : Nat} (h : i < xs.length) : getI xs d i ∈ xs := by
  simp [getI, List.getD, List.getElem?_eq_getElem h]
def StOk (mn mx mt ms st ss : Int) : Prop := (1 ≤ mn ∧ mn ≤ mx ∧ mx ≤ 10000) ∧ (0 ≤ mt ∧ mt ≤ 59 ∧ 0 ≤ ms ∧ ms ≤ 1000000 - mx) ∧ (0 ≤ st ∧ st ≤ 59 ∧ 0 ≤ ss ∧ ss ≤ 1000000 - mx) ∧ mt ≠ st
def WiOk (n : Nat) (f t l : Int) : Prop := 0 ≤ f ∧ f < t ∧ t < (n : Int) ∧ 0 ≤ l ∧ l ≤ 1000000
def EndOk (n : Int) : Prop := 0 ≤ n ∧ n ≤ 2000000
structure Facts (e a b : Int) (xs : List tStage.El) (ws : List tWin.El) : Prop where
  e : 0 ≤ e ∧ e ≤ 1000000
  ab : 0 ≤ a ∧ a ≤ b ∧ b ≤ 10000
  n : 1 ≤ xs.length ∧ xs.length ≤ 8
  w : ws.length ≤ 20
  st : ∀ i, i < xs.length → StOk (getI xs tStage.dflt i).1 (getI xs tStage.dflt i).2.1 (getI xs tStage.dflt i).2.2.1.1 (getI xs tStage.dflt i).2.2.1.2 (getI xs tStage.dflt i).2.2.2.1 (getI xs tStage.dflt i).2.2.2.2
  ws : ∀ k, k < ws.length → WiOk xs.length (getI ws tWin.dflt k).1 (getI ws tWin.dflt k).2.1 (getI ws tWin.dflt k).2.2
theorem within_iff {n lo hi : Int} : withinF n lo hi = true ↔ lo ≤ n ∧ n ≤ hi := by simp [withinF]
theorem valid_facts {e a b : Int} {xs : List tStage.El} {ws : List tWin.El} (h : validF e a b xs ws = true) : Facts e a b xs ws := by
  unfold validF at h
  simp only [Bool.and_eq_true, within_iff, decide_eq_true_eq, Bool.not_eq_true', List.any_eq_false] at h
  obtain ⟨⟨⟨⟨⟨h1, h2⟩, h3⟩, h4⟩, h5⟩, h6, h7⟩ := h
  refine ⟨h1, ⟨h2.1, h2.2, h3⟩, ⟨by omega, by omega⟩, by omega, fun i hi => ?_, fun k hk => ?_⟩
  · have h8 := h6 _ (getI_mem (d := tStage.dflt) hi)
    unfold badSt isStageF isSlotF at h8
    simp only [Bool.not_eq_true', Bool.not_eq_false, Bool.and_eq_true, within_iff, decide_eq_true_eq] at h8
    obtain ⟨⟨⟨⟨h9, h10⟩, h11, h12⟩, h13, h14⟩, h15⟩ := h8
    exact ⟨⟨h9.1, h9.2, h10⟩, ⟨h11.1, h11.2, h12.1, h12.2⟩, ⟨h13.1, h13.2, h14.1, h14.2⟩, h15⟩
  · have hk' : k < (duo (-1, 0, 0) ws).length := by rw [duo_length]; exact hk
    have h8 := h7 _ (getI_mem (d := ((-1, 0, 0), (-1, 0, 0))) hk')
    rw [duo_get hk] at h8
    unfold badW winF at h8
    simp only [Bool.not_eq_true', Bool.not_eq_false, Bool.and_eq_true, within_iff, decide_eq_true_eq] at h8
    obtain ⟨⟨⟨⟨_, h9⟩, h10⟩, h11⟩, h12⟩ := h8
    exact ⟨h9, h10, h11, h12.1, h12.2⟩
def AtOk (mn mx a b du mo : Int) : Prop := (mn ≤ du ∧ du ≤ mx) ∧ a ≤ mo ∧ mo ≤ b
structure Chance (e a b : Int) (xs : List tStage.El) (ws : List tWin.El) (du mo : List Int) (de tl fa : Int) : Prop extends Facts e a b xs ws where
  dul : du.length = xs.length
  mol : mo.length = xs.length
  deb : a ≤ de ∧ de ≤ b
  at' : ∀ i, i < xs.length → AtOk (getI xs tStage.dflt i).1 (getI xs tStage.dflt i).2.1 a b (getI du 0 i) (getI mo 0 i)
  tlb : (tl = -1 ∧ fa = 0) ∨ (0 ≤ tl ∧ tl ≤ 59 ∧ 0 ≤ fa ∧ fa ≤ 1000000)
theorem poss_facts {e a b : Int} {xs : List tStage.El} {ws : List tWin.El} {du mo : List Int} {de tl fa : Int} (h : possF e a b xs ws du mo de tl fa = true) : Chance e a b xs ws du mo de tl fa := by
  unfold possF at h
  simp only [Bool.and_eq_true, Bool.or_eq_true, within_iff, decide_eq_true_eq] at h
  obtain ⟨⟨⟨⟨⟨h1, h2⟩, h3⟩, h4⟩, h5⟩, h6⟩ := h
  refine ⟨valid_facts h1, h2, h3, h4, fun i hi => ?_, ?_⟩
  · have := List.all_eq_true.1 h5 i (by simpa using hi)
    unfold fitsAt at this
    unfold AtOk
    simpa only [Bool.and_eq_true, within_iff] using this
  · rcases h6 with h6 | h6
    · exact .inl h6
    · exact .inr ⟨h6.1.1, h6.1.2, h6.2.1, h6.2.2⟩
def lateW (i : Nat) (start : Int) (out : List tVisit.El) (w : tWin.El) : Bool :=
  decide (w.2.1 = (i : Int)) && decide (w.2.2 < start - (getI out tVisit.dflt w.1.toNat).2.2.2)
def reachedAt (xs : List tStage.El) (du mo : List Int) (de tl fa : Int) (i : Nat) (t : Int) : (Int × Int) × Bool :=
  reachedF (getI xs tStage.dflt i).2.2.1.1 (getI xs tStage.dflt i).2.2.1.2 (getI xs tStage.dflt i).2.2.2.1 (getI xs tStage.dflt i).2.2.2.2 de tl fa t (getI mo 0 i) (getI du 0 i)
def runG (xs : List tStage.El) (ws : List tWin.El) (du mo : List Int) (de tl fa : Int) : Nat → Nat → List tVisit.El → Int → List tVisit.El × Int × Int
  | 0, _, out, _ => (out, 0, 0)
  | n + 1, i, out, t =>
    let r := reachedAt xs du mo de tl fa i t
    if r.2 then
      let end' := r.1.2 + getI du 0 i
      let out' := out ++ [((i : Int), r.1.1, r.1.2, end')]
      let k := idxF (lateW i r.1.2 out') ws
      if k < 0 then runG xs ws du mo de tl fa n (i + 1) out' end' else (out', 2, k)
    else (out, 1, (i : Int))
def runF (e a b : Int) (xs : List tStage.El) (ws : List tWin.El) (du mo : List Int) (de tl fa : Int) : List tVisit.El × (Int × Int) × Int :=
  if possF e a b xs ws du mo de tl fa then ((runG xs ws du mo de tl fa xs.length 0 [] e).1, (runG xs ws du mo de tl fa xs.length 0 [] e).2, 0) else ([], (0, 0), 80)
def runS : Spec := plain fun
  | [.agg [.int .i64 e, .int .i64 a, .int .i64 b, .sl (.pair (.int .i64) (.pair (.int .i64) (.pair (.pair (.int .i64) (.int .i64)) (.pair (.int .i64) (.int .i64))))) xs, .sl (.pair (.int .i64) (.pair (.int .i64) (.int .i64))) ws],
      .agg [.sl (.int .i64) du, .sl (.int .i64) mo, .int .i64 de, .int .i64 tl, .int .i64 fa]] =>
    some ⟨xs.length ≤ 1000000000000, .tup [.own 0, .agg [.int .i64 (runF e a b xs ws du mo de tl fa).2.1.1, .int .i64 (runF e a b xs ws du mo de tl fa).2.1.2], .int .i64 (runF e a b xs ws du mo de tl fa).2.2], [.seq tVisit (runF e a b xs ws du mo de tl fa).1], false⟩
  | _ => none
def sigRun : List (Nat × Spec) := [(13, possS), (39, reachedS)]
theorem sigRunOk : SigOk Try.prog (look sigRun) := sigCons (sigCons sigNil Try.func39 (by kernel_rfl) (c := body Try.f39) rfl reachedOk) Try.func13 (by kernel_rfl) (c := body Try.f13) rfl possOk
theorem reachedF_slot {mt ms st ss de tl fa t mv du : Int} : (reachedF mt ms st ss de tl fa t mv du).1 = (mt, ms) ∨ (reachedF mt ms st ss de tl fa t mv du).1 = (st, ss) := by
  unfold reachedF
  repeat' split
  all_goals simp
theorem idxOk {n : Nat} {f t l : Int} {i m : Nat} (W : WiOk n f t l) (h : decide (t = (i : Int)) = true) (hm : m = i + 1) : 0 ≤ f ∧ f < (m : Int) ∧ f.toNat < m := by
  unfold WiOk at W
  rw [decide_eq_true_eq] at h
  omega
theorem late_eq {i : Nat} {start f t l : Int} {out : List tVisit.El} {n : Nat} (W : WiOk n f t l) (hl : out.length = i + 1) (hs : 0 ≤ start ∧ start ≤ 1000000) (he : ∀ j, j < out.length → EndOk (getI out tVisit.dflt j).2.2.2) :
    (decide (t = (i : Int)) && decide (l < IntKind.wrap .i64 (start - (getI out tVisit.dflt f.toNat).2.2.2))) = lateW i start out (f, t, l) := by
  unfold lateW
  by_cases h : t = (i : Int)
  · have h1 := idxOk W (by rw [decide_eq_true_eq]; exact h) hl
    have h2 := he f.toNat h1.2.2
    unfold EndOk at h2
    rw [wrapId (by omega) (by omega)]
  · have h1 : decide (t = (i : Int)) = false := decide_eq_false h
    rw [h1]
    rfl
theorem runOk : SpecSound Try.prog 14 runS := by
  refine soundP (envOf sigRunOk) Try.func14 (c := body Try.f14) rfl (by kernel_rfl) rfl ?_
  intro args out hf hpre
  split at hf <;> try (cases hf; done)
  rename_i e a b xs ws du mo de tl fa
  cases hf
  refine ⟨Nat.le_of_ble_eq_true rfl, initI (args := [.agg [.int .i64 e, .int .i64 a, .int .i64 b, .sl tStage xs, .sl tWin ws], .agg [.sl tInt du, .sl tInt mo, .int .i64 de, .int .i64 tl, .int .i64 fa]]) rfl ?_⟩
  change xs.length ≤ 1000000000000 at hpre
  repeat' (first | with_reducible (first | apply pN | apply cN | apply bN | apply cE | apply cR | apply bR | apply lE | apply lR | apply jE | apply jR) | refine bE rfl ?_ | refine bP rfl ?_ | refine pC (by first | exact ⟨⟩ | omega | (intros; first | exact ⟨⟩ | omega) | (simp only [lcQ, lnQ, tnQ]; omega) | exact hpre) ?_ | refine seqI rfl ?_ | refine regI rfl ?_ | refine scopeI rfl ?_ | refine blockI rfl ?_ | refine exitI rfl ?_ | refine retI rfl ?_ | refine skipI rfl ?_)
  refine condI rfl (fun c1 => ?_) (fun c1 => ?_)
  · rw [Bool.not_eq_true'] at c1
    have hr : runF e a b xs ws du mo de tl fa = ([], (0, 0), 80) := by unfold runF; rw [c1]; rfl
    repeat' (first | with_reducible (first | apply pN | apply cN | apply bN | apply cE | apply cR | apply bR | apply lE | apply lR | apply jE | apply jR) | refine bE rfl ?_ | refine bP rfl ?_ | refine pC (by first | exact ⟨⟩ | omega | (intros; first | exact ⟨⟩ | omega) | (simp only [lcQ, lnQ, tnQ]; omega)) ?_ | refine seqI rfl ?_ | refine regI rfl ?_ | refine scopeI rfl ?_ | refine blockI rfl ?_ | refine exitI rfl ?_ | refine retI rfl ?_ | refine skipI rfl ?_)
    rw [hr]
    refine endR rfl ?_
    repeat' (first | exact trivial | exact rfl | refine ⟨rfl, ?_⟩ | refine And.intro ?_ ?_)
  · rw [Bool.not_eq_false'] at c1
    have F := poss_facts c1
    have hr : runF e a b xs ws du mo de tl fa = ((runG xs ws du mo de tl fa xs.length 0 [] e).1, (runG xs ws du mo de tl fa xs.length 0 [] e).2, 0) := by unfold runF; rw [c1]; rfl
    obtain ⟨tot, htot⟩ : ∃ tot, tot = runG xs ws du mo de tl fa xs.length 0 [] e := ⟨_, rfl⟩
    rw [← htot] at hr
    have hn := F.n
    have hab := F.ab
    have hde := F.deb
    have hfa : Sm fa := by unfold Sm; rcases F.tlb with h | h <;> omega
    have hde' : Sm de := by unfold Sm; omega
    repeat' (first | with_reducible (first | apply pN | apply cN | apply bN | apply cE | apply cR | apply bR | apply lE | apply lR | apply jE | apply jR) | refine bE rfl ?_ | refine bP rfl ?_ | refine pC (by first | exact ⟨⟩ | omega | (intros; first | exact ⟨⟩ | omega) | (simp only [lcQ, lnQ, tnQ]; omega)) ?_ | refine seqI rfl ?_ | refine regI rfl ?_ | refine scopeI rfl ?_ | refine blockI rfl ?_ | refine exitI rfl ?_ | refine retI rfl ?_ | refine skipI rfl ?_)
    refine loopI (σ := Nat × List tVisit.El × Int) (fun s => [(7, .own 7000), (9, .int .i64 s.2.2), (26, .int .i64 s.1)]) (fun s => [(7000, .seq tVisit s.2.1)]) (fun s => s.1 ≤ xs.length ∧ s.2.1.length = s.1 ∧ 0 ≤ s.2.2 ∧ s.2.2 ≤ 2000000 ∧ (∀ j, j < s.2.1.length → EndOk (getI s.2.1 tVisit.dflt j).2.2.2) ∧ runG xs ws du mo de tl fa (xs.length - s.1) s.1 s.2.1 s.2.2 = tot) (fun s => xs.length - s.1) (0, [], e) rfl (fun _ => rfl) rfl ?_ ?_ ?_
    · exact ⟨Nat.zero_le _, rfl, F.e.1, (by have := F.e.2; show e ≤ 2000000; omega), (fun j hj => by simp at hj), htot.symm⟩
    · repeat' (first | exact trivial | exact rfl | refine ⟨rfl, ?_⟩ | refine And.intro ?_ ?_)
    rintro ⟨i, out, t⟩ ⟨hi, hlen, ht1, ht2, hends, hrun⟩
    dsimp only at hi hlen ht1 ht2 hends hrun ⊢
    repeat' (first | with_reducible (first | apply pN | apply cN | apply bN | apply cE | apply cR | apply bR | apply lE | apply lR | apply jE | apply jR) | refine bE rfl ?_ | refine bP rfl ?_ | refine pC (by first | exact ⟨⟩ | omega | (intros; first | exact ⟨⟩ | omega) | (simp only [lcQ, lnQ, tnQ]; omega)) ?_ | refine seqI rfl ?_ | refine regI rfl ?_ | refine scopeI rfl ?_ | refine blockI rfl ?_ | refine exitI rfl ?_ | refine retI rfl ?_ | refine skipI rfl ?_)
    refine condI rfl (fun c2 => ?_) (fun c2 => ?_)
    · simp only [decide_eq_true_eq] at c2
      have hlt : i < xs.length := by omega
      have hin : ((i : Int)).toNat = i := by omega
      obtain ⟨m, hm⟩ : ∃ m, xs.length - i = m + 1 := ⟨xs.length - i - 1, by omega⟩
      have S := F.st i hlt
      unfold StOk at S
      have A := F.at' i hlt
      unfold AtOk at A
      have hl1 := F.dul
      have hl2 := F.mol
      have hms : Sm (getI xs tStage.dflt i).2.2.1.2 := by unfold Sm; omega
      have hmv : Sm (getI mo 0 i) := by unfold Sm; omega
      have hdu : Sm (getI du 0 i) := by unfold Sm; omega
      have ht : Sm t := by unfold Sm; omega
      obtain ⟨r, hrr⟩ : ∃ r, r = reachedAt xs du mo de tl fa i t := ⟨_, rfl⟩
      have hslot : 0 ≤ r.1.2 ∧ r.1.2 ≤ 1000000 := by
        rw [hrr]
        rcases reachedF_slot (mt := (getI xs tStage.dflt i).2.2.1.1) (ms := (getI xs tStage.dflt i).2.2.1.2) (st := (getI xs tStage.dflt i).2.2.2.1) (ss := (getI xs tStage.dflt i).2.2.2.2) (de := de) (tl := tl) (fa := fa) (t := t) (mv := getI mo 0 i) (du := getI du 0 i) with h | h
        · unfold reachedAt; rw [h]; dsimp only; omega
        · unfold reachedAt; rw [h]; dsimp only; omega
      rw [hm, runG] at hrun
      rw [← hrr] at hrun
      dsimp only at hrun
      unfold reachedAt at hrr
      repeat' (first | with_reducible (first | apply pN | apply cN | apply bN | apply cE | apply cR | apply bR | apply lE | apply lR | apply jE | apply jR) | refine bE rfl ?_ | refine bP rfl ?_ | refine pC (by first | exact ⟨⟩ | omega | (intros; first | exact ⟨⟩ | omega) | (simp only [lcQ, lnQ, tnQ]; omega) | exact ⟨hms, hde', hfa, ht, hmv, hdu⟩) ?_ | refine seqI rfl ?_ | refine regI rfl ?_ | refine scopeI rfl ?_ | refine blockI rfl ?_ | refine exitI rfl ?_ | refine retI rfl ?_ | refine skipI rfl ?_)
      generalize hq : reachedF _ _ _ _ _ _ _ _ _ _ = q
      obtain rfl : q = r := hq.symm.trans hrr.symm
      refine condI rfl (fun c3 => ?_) (fun c3 => ?_)
      · have c3' : q.2 = false := by rw [Bool.not_eq_true'] at c3; exact c3
        rw [c3'] at hrun
        simp only [Bool.false_eq_true, if_false] at hrun
        repeat' (first | with_reducible (first | apply pN | apply cN | apply bN | apply cE | apply cR | apply bR | apply lE | apply lR | apply jE | apply jR) | refine bE rfl ?_ | refine bP rfl ?_ | refine pC (by first | exact ⟨⟩ | omega | (intros; first | exact ⟨⟩ | omega) | (simp only [lcQ, lnQ, tnQ]; omega)) ?_ | refine seqI rfl ?_ | refine regI rfl ?_ | refine scopeI rfl ?_ | refine blockI rfl ?_ | refine exitI rfl ?_ | refine retI rfl ?_ | refine skipI rfl ?_)
        rw [hr, ← hrun]
        refine endR rfl ?_
        repeat' (first | exact trivial | exact rfl | refine ⟨rfl, ?_⟩ | refine And.intro ?_ ?_)
      · have c3' : q.2 = true := by rw [Bool.not_eq_false'] at c3; exact c3
        rw [c3'] at hrun
        simp only [if_true] at hrun
        obtain ⟨out', hout⟩ : ∃ x, x = out ++ [((i : Int), q.1.1, q.1.2, q.1.2 + getI du 0 i)] := ⟨_, rfl⟩
        rw [← hout] at hrun
        have he1 : 0 ≤ q.1.2 + getI du 0 i ∧ q.1.2 + getI du 0 i ≤ 2000000 := by omega
        have hlen' : out'.length = i + 1 := by rw [hout, List.length_append, hlen]; rfl
        have hends' : ∀ j, j < out'.length → EndOk (getI out' tVisit.dflt j).2.2.2 := fun j hj => by
          by_cases hji : j < out.length
          · have h1 : getI out' tVisit.dflt j = getI out tVisit.dflt j := by rw [hout]; simp [getI, List.getD, List.getElem?_append_left hji]
            rw [h1]; exact hends j hji
          · have h1 : getI out' tVisit.dflt j = ((i : Int), q.1.1, q.1.2, q.1.2 + getI du 0 i) := by
              rw [hout]; simp [getI, List.getD, List.getElem?_append_right (show out.length ≤ j by omega), show j - out.length = 0 by omega]
            rw [h1]; exact he1
        repeat' (first | with_reducible (first | apply pN | apply cN | apply bN | apply cE | apply cR | apply bR | apply lE | apply lR | apply jE | apply jR) | refine bE rfl ?_ | refine bP rfl ?_ | refine pC (by first | exact ⟨⟩ | omega | (intros; first | exact ⟨⟩ | omega) | (simp only [lcQ, lnQ, tnQ]; omega) | first | (show In64 (q.1.2 + getI du 0 i); omega) | (show (out.length + 1) * 32 ≤ 140737488355328; omega)) ?_ | refine seqI rfl ?_ | refine regI rfl ?_ | refine scopeI rfl ?_ | refine blockI rfl ?_ | refine exitI rfl ?_ | refine retI rfl ?_ | refine skipI rfl ?_)
        refine loopI (σ := Nat) (fun k => [(7, .own 6900), (73, .int .i64 k)]) (fun k => [(6900, .seq tVisit out')]) (fun k => k ≤ ws.length ∧ ∀ j, j < k → lateW i q.1.2 out' (getI ws tWin.dflt j) = false) (fun k => ws.length - k) 0 rfl (fun _ => rfl) rfl ?_ ?_ ?_
        · exact ⟨Nat.zero_le _, fun j hj => by omega⟩
        · repeat' (first | exact trivial | with_reducible exact rfl | refine And.intro ?_ ?_)
          all_goals first | exact hout | rfl
        rintro k ⟨hk, hb⟩
        repeat' (first | with_reducible (first | apply pN | apply cN | apply bN | apply cE | apply cR | apply bR | apply lE | apply lR | apply jE | apply jR) | refine bE rfl ?_ | refine bP rfl ?_ | refine pC (by first | exact ⟨⟩ | omega | (intros; first | exact ⟨⟩ | omega) | (simp only [lcQ, lnQ, tnQ]; omega)) ?_ | refine seqI rfl ?_ | refine regI rfl ?_ | refine scopeI rfl ?_ | refine blockI rfl ?_ | refine exitI rfl ?_ | refine retI rfl ?_ | refine skipI rfl ?_)
        refine condI rfl (fun c4 => ?_) (fun c4 => ?_)
        · simp only [decide_eq_true_eq] at c4
          have hkl : k < ws.length := by omega
          have hkn : ((k : Int)).toNat = k := by omega
          have Wk := F.ws k hkl
          have hw20 := F.w
          have hidx : (getI ws tWin.dflt k).2.1 = (i : Int) → 0 ≤ (getI ws tWin.dflt k).1 ∧ (getI ws tWin.dflt k).1 < out'.length ∧ (getI ws tWin.dflt k).1.toNat < out'.length := fun h5 => idxOk Wk (by rw [decide_eq_true_eq]; exact h5) hlen'
          have hdiff : (getI ws tWin.dflt k).2.1 = (i : Int) → In64 (q.1.2 - (getI out' tVisit.dflt (getI ws tWin.dflt k).1.toNat).2.2.2) := fun h5 => by
            have := hends' _ (hidx h5).2.2
            unfold EndOk at this
            unfold In64
            omega
          repeat' (first | with_reducible (first | apply pN | apply cN | apply bN | apply cE | apply cR | apply bR | apply lE | apply lR | apply jE | apply jR) | refine bE rfl ?_ | refine bP rfl ?_ | refine pC (by first | exact ⟨⟩ | omega | (intros; first | exact ⟨⟩ | omega) | (simp only [lcQ, lnQ, tnQ]; omega) | first | exact fun h => (hidx (of_decide_eq_true h)).1 | exact fun h => (hidx (of_decide_eq_true h)).2.1 | exact fun h => (hidx (of_decide_eq_true h)).2.2 | exact fun h => hdiff (of_decide_eq_true h)) ?_ | refine seqI rfl ?_ | refine regI rfl ?_ | refine scopeI rfl ?_ | refine blockI rfl ?_ | refine exitI rfl ?_ | refine retI rfl ?_ | refine skipI rfl ?_)
          refine condI rfl (fun c5 => ?_) (fun c5 => ?_)
          · have c5' : lateW i q.1.2 out' (getI ws tWin.dflt k) = true := c5
            have hk2 : idxF (lateW i q.1.2 out') ws = (k : Int) := idxF_found (d := tWin.dflt) hkl hb c5'
            rw [hk2, if_neg (by omega)] at hrun
            repeat' (first | with_reducible (first | apply pN | apply cN | apply bN | apply cE | apply cR | apply bR | apply lE | apply lR | apply jE | apply jR) | refine bE rfl ?_ | refine bP rfl ?_ | refine pC (by first | exact ⟨⟩ | omega | (intros; first | exact ⟨⟩ | omega) | (simp only [lcQ, lnQ, tnQ]; omega)) ?_ | refine seqI rfl ?_ | refine regI rfl ?_ | refine scopeI rfl ?_ | refine blockI rfl ?_ | refine exitI rfl ?_ | refine retI rfl ?_ | refine skipI rfl ?_)
            rw [hr, ← hrun]
            refine endR rfl ?_
            repeat' (first | exact trivial | exact rfl | refine ⟨rfl, ?_⟩ | refine And.intro ?_ ?_)
          · have c5' : lateW i q.1.2 out' (getI ws tWin.dflt k) = false := c5
            repeat' (first | with_reducible (first | apply pN | apply cN | apply bN | apply cE | apply cR | apply bR | apply lE | apply lR | apply jE | apply jR) | refine bE rfl ?_ | refine bP rfl ?_ | refine pC (by first | exact ⟨⟩ | omega | (intros; first | exact ⟨⟩ | omega) | (simp only [lcQ, lnQ, tnQ]; omega)) ?_ | refine seqI rfl ?_ | refine regI rfl ?_ | refine scopeI rfl ?_ | refine blockI rfl ?_ | refine exitI rfl ?_ | refine retI rfl ?_ | refine skipI rfl ?_)
            refine roundI (k + 1) rfl ?_ ?_ ?_
            · refine ⟨by omega, fun j hj => ?_⟩
              by_cases hjk : j = k
              · subst hjk; exact c5'
              · exact hb j (by omega)
            · show ws.length - (k + 1) < ws.length - k
              omega
            · repeat' (first | exact trivial | exact rfl | refine ⟨rfl, ?_⟩ | refine And.intro ?_ ?_)
        · simp only [decide_eq_false_iff_not] at c4
          have hnone : idxF (lateW i q.1.2 out') ws = -1 := idxF_none (d := tWin.dflt) fun j hj => hb j (by omega)
          rw [hnone] at hrun
          repeat' (first | with_reducible (first | apply pN | apply cN | apply bN | apply cE | apply cR | apply bR | apply lE | apply lR | apply jE | apply jR) | refine bE rfl ?_ | refine bP rfl ?_ | refine pC (by first | exact ⟨⟩ | omega | (intros; first | exact ⟨⟩ | omega) | (simp only [lcQ, lnQ, tnQ]; omega)) ?_ | refine seqI rfl ?_ | refine regI rfl ?_ | refine scopeI rfl ?_ | refine blockI rfl ?_ | refine exitI rfl ?_ | refine retI rfl ?_ | refine skipI rfl ?_)
          refine roundI (i + 1, out', q.1.2 + getI du 0 i) rfl ?_ ?_ ?_
          · refine ⟨by show i + 1 ≤ xs.length; omega, hlen', he1.1, he1.2, hends', ?_⟩
            show runG xs ws du mo de tl fa (xs.length - (i + 1)) (i + 1) out' (q.1.2 + getI du 0 i) = tot
            rw [show xs.length - (i + 1) = m by omega]
            exact hrun
          · show xs.length - (i + 1) < xs.length - i
            omega
          · repeat' (first | exact trivial | with_reducible exact rfl | refine And.intro ?_ ?_)
            all_goals rfl
    · simp only [decide_eq_false_iff_not] at c2
      have hie : i = xs.length := by omega
      subst hie
      rw [Nat.sub_self] at hrun
      have htt : tot = (out, 0, 0) := hrun.symm
      repeat' (first | with_reducible (first | apply pN | apply cN | apply bN | apply cE | apply cR | apply bR | apply lE | apply lR | apply jE | apply jR) | refine bE rfl ?_ | refine bP rfl ?_ | refine pC (by first | exact ⟨⟩ | omega | (intros; first | exact ⟨⟩ | omega) | (simp only [lcQ, lnQ, tnQ]; omega)) ?_ | refine seqI rfl ?_ | refine regI rfl ?_ | refine scopeI rfl ?_ | refine blockI rfl ?_ | refine exitI rfl ?_ | refine retI rfl ?_ | refine skipI rfl ?_)
      rw [hr, htt]
      refine endR rfl ?_
      repeat' (first | exact trivial | exact rfl | refine ⟨rfl, ?_⟩ | refine And.intro ?_ ?_)
end Go.AM.Ytmjeocinfoeeeaa.Pl
end
