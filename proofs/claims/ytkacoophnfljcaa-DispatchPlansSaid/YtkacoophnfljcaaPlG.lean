/- plan.Bookings; the examples' plan and scenario. -/
import Derived.Test.YtkacoophnfljcaaPlF
set_option linter.all false
namespace Go.AM.Ytkacoophnfljcaa.Pl
open Go.Proofs
set_option maxRecDepth 100000
set_option maxHeartbeats 8000000

def bk1 (s : tStage.El) (ow : Int) : tBook.El := (s.2.2.1.1, s.2.2.1.2, s.2.2.1.2 + s.2.1, ow)
def bk2 (s : tStage.El) (ow : Int) : tBook.El := (s.2.2.2.1, s.2.2.2.2, s.2.2.2.2 + s.2.1, ow)

/-- The bookings of the first stages. -/
def bkN (xs : List tStage.El) (ow : Int) : Nat → List tBook.El
  | 0 => []
  | i + 1 => bkN xs ow i ++ [bk1 (getI xs tStage.dflt i) ow] ++ [bk2 (getI xs tStage.dflt i) ow]

theorem bkN_length {xs : List tStage.El} {ow : Int} : ∀ {i : Nat}, (bkN xs ow i).length = 2 * i
  | 0 => rfl
  | i + 1 => by simp [bkN, bkN_length]; omega

def bookF (e a b : Int) (xs : List tStage.El) (ws : List tWin.El) (ow : Int) : List tBook.El :=
  if validF e a b xs ws && withinF ow 1 1000000 then bkN xs ow xs.length else []

def bookS : Spec := plain fun
  | [.agg [.int .i64 e, .int .i64 a, .int .i64 b, .sl (.pair (.int .i64) (.pair (.int .i64) (.pair (.pair (.int .i64) (.int .i64)) (.pair (.int .i64) (.int .i64))))) xs, .sl (.pair (.int .i64) (.pair (.int .i64) (.int .i64))) ws], .int .i64 ow] =>
    some ⟨True, .own 0, [.seq tBook (bookF e a b xs ws ow)], false⟩
  | _ => none

theorem bkWrap {mn mx mt ms st ss : Int} (S : StOk mn mx mt ms st ss) : IntKind.wrap .i64 (ms + mx) = ms + mx ∧ IntKind.wrap .i64 (ss + mx) = ss + mx := by
  unfold StOk at S
  exact ⟨wrapId (by omega) (by omega), wrapId (by omega) (by omega)⟩

/-- The bookings of the first stages, and the first j of the next one. -/
def bkJ (xs : List tStage.El) (ow : Int) (i : Nat) : Nat → List tBook.El
  | 0 => bkN xs ow i
  | 1 => bkN xs ow i ++ [bk1 (getI xs tStage.dflt i) ow]
  | _ => bkN xs ow (i + 1)

theorem bookOk : SpecSound Try.prog 40 bookS := by
  refine sound0 sigVOk Try.func40 (c := body Try.f40) rfl (by kernel_rfl) ?_
  intro args out0 hf hpre
  split at hf <;> try (cases hf; done)
  rename_i e a b xs ws ow
  cases hf
  refine ⟨Nat.le_of_ble_eq_true rfl, ?_⟩
  conv => whnf
  refine aI trivial ?_
  conv => whnf
  refine aI ?_ ?_
  · conv => whnf
    intro _; trivial
  conv => whnf
  refine bI (fun c1 => ?_) (fun c1 => ?_)
  · conv => whnf
    rw [← Bool.not_and, Bool.not_eq_true'] at c1
    have hr : bookF e a b xs ws ow = [] := by unfold bookF; rw [c1]; rfl
    exact ⟨[none], _, rfl, rfl, trivial, aI hr trivial, rfl, rfl, rfl, fun _ => ⟨rfl, rfl, rfl⟩⟩
  · rw [← Bool.not_and, Bool.not_eq_false'] at c1
    have hr : bookF e a b xs ws ow = bkN xs ow xs.length := by unfold bookF; rw [c1]; rfl
    rw [Bool.and_eq_true] at c1
    have F := valid_facts c1.1
    have hn := F.n
    conv => whnf
    refine ⟨Nat, fun i => ⟨49, [(1, ⟨[], .int .i64 ow⟩), (4, ⟨[], .own 4⟩), (18, ⟨[], .sl tStage xs⟩), (19, ⟨[], .int .i64 xs.length⟩), (20, ⟨[], .int .i64 i⟩)], [], [4], [(4, .seq tBook (bkN xs ow i))]⟩,
      fun i => i ≤ xs.length, fun i => xs.length - i, 0, Nat.zero_le _,
      .ren [(4, none)] ⟨rfl, rfl, rfl, aI rfl (aI trivial (aI rfl (aI rfl (aI rfl trivial)))), aI rfl trivial, rfl, rfl, rfl⟩, ?_⟩
    intro i hi
    conv => whnf
    refine bI (fun c2 => ?_) (fun c2 => ?_)
    · simp only [decide_eq_true_eq] at c2
      have hlt : i < xs.length := by omega
      have hw := bkWrap (F.st i hlt)
      conv => whnf
      refine aI (by omega) ?_
      conv => whnf
      refine aI (by omega) ?_
      conv => whnf
      refine ⟨Nat, fun j => ⟨49, [(1, ⟨[], .int .i64 ow⟩), (4, ⟨[], .own 4⟩), (18, ⟨[], .sl tStage xs⟩), (19, ⟨[], .int .i64 xs.length⟩), (20, ⟨[], .int .i64 i⟩), (6, ⟨[], .ptr 6 0⟩),
          (28, ⟨[], .agg [.int .i64 (getI xs tStage.dflt i).2.2.1.1, .int .i64 (getI xs tStage.dflt i).2.2.1.2, .int .i64 (getI xs tStage.dflt i).2.2.2.1, .int .i64 (getI xs tStage.dflt i).2.2.2.2]⟩), (29, ⟨[], .int .i64 j⟩)], [], [6, 4],
          [(6, .box [.int .i64 (getI xs tStage.dflt i).1, .int .i64 (getI xs tStage.dflt i).2.1, .int .i64 (getI xs tStage.dflt i).2.2.1.1, .int .i64 (getI xs tStage.dflt i).2.2.1.2, .int .i64 (getI xs tStage.dflt i).2.2.2.1, .int .i64 (getI xs tStage.dflt i).2.2.2.2]), (4, .seq tBook (bkJ xs ow i j))]⟩,
        fun j => j ≤ 2, fun j => 2 - j, 0, Nat.zero_le _,
        .same ⟨rfl, rfl, rfl, ⟨rfl, rfl, rfl, rfl, rfl, rfl, rfl, rfl, trivial⟩, ⟨rfl, rfl, trivial⟩, rfl, rfl, rfl⟩, ?_⟩
      intro j hj
      obtain rfl | rfl | rfl : j = 0 ∨ j = 1 ∨ j = 2 := by omega
      · conv => whnf
        refine bI (fun c3 => ?_) (fun c3 => ?_)
        · conv => whnf
          refine aI (by decide) ?_
          conv => whnf
          refine aI (by decide) ?_
          conv => whnf
          refine aI (by show ((bkN xs ow i).length + 1) * 32 ≤ 140737488355328; rw [bkN_length]; omega) ?_
          conv => whnf
          refine ⟨1, by decide, by decide, .ren [(6, some 6), (4, some 45)] ⟨rfl, rfl, rfl, aI rfl (aI rfl (aI rfl (aI rfl (aI rfl (aI (aI rfl rfl) (aI (aI rfl (aI rfl (aI rfl (aI rfl trivial)))) (aI rfl trivial))))))),
            aI (aI rfl (aI rfl (aI rfl (aI rfl (aI rfl (aI rfl trivial)))))) (aI (eSeq (congrArg (fun z => bkN xs ow i ++ [((getI xs tStage.dflt i).2.2.1.1, (getI xs tStage.dflt i).2.2.1.2, z, ow)]) hw.1.symm)) trivial), rfl, rfl, rfl⟩⟩
        · exact absurd c3 (by decide)
      · conv => whnf
        refine bI (fun c3 => ?_) (fun c3 => ?_)
        · conv => whnf
          refine aI (by decide) ?_
          conv => whnf
          refine aI (by decide) ?_
          conv => whnf
          refine aI (by show ((bkN xs ow i ++ [bk1 (getI xs tStage.dflt i) ow]).length + 1) * 32 ≤ 140737488355328; rw [List.length_append, bkN_length]; simp; omega) ?_
          conv => whnf
          refine ⟨2, by decide, by decide, .ren [(6, some 6), (4, some 45)] ⟨rfl, rfl, rfl, aI rfl (aI rfl (aI rfl (aI rfl (aI rfl (aI (aI rfl rfl) (aI (aI rfl (aI rfl (aI rfl (aI rfl trivial)))) (aI rfl trivial))))))),
            aI (aI rfl (aI rfl (aI rfl (aI rfl (aI rfl (aI rfl trivial)))))) (aI (eSeq (congrArg (fun z => bkN xs ow i ++ [bk1 (getI xs tStage.dflt i) ow] ++ [((getI xs tStage.dflt i).2.2.2.1, (getI xs tStage.dflt i).2.2.2.2, z, ow)]) hw.2.symm)) trivial), rfl, rfl, rfl⟩⟩
        · exact absurd c3 (by decide)
      · conv => whnf
        refine bI (fun c3 => ?_) (fun c3 => ?_)
        · exact absurd c3 (by decide)
        · conv => whnf
          refine ⟨i + 1, hlt, (by show xs.length - (i + 1) < xs.length - i; omega), .same ⟨rfl, rfl, rfl, ⟨rfl, rfl, rfl, rfl, slotInt rfl (wrapEq (by show (i : Int) + 1 = ((i + 1 : Nat) : Int); omega) (by omega) (by omega)), trivial⟩, ⟨rfl, trivial⟩, rfl, rfl, rfl⟩⟩
    · simp only [decide_eq_false_iff_not] at c2
      have hie : i = xs.length := by omega
      subst hie
      conv => whnf
      exact ⟨[some 4], _, rfl, rfl, rfl, aI (eSeq hr) trivial, rfl, rfl, rfl, fun _ => ⟨rfl, rfl, rfl⟩⟩

def exSt : List (Int × Int × (Int × Int) × Int × Int) := [(20, 30, (1, 10), 3, 50), (20, 30, (2, 60), 4, 100)]
def exWi : List (Int × Int × Int) := [(0, 1, 40)]
def exS : Spec := plain fun
  | [] => some ⟨True, .agg [.int .i64 0, .int .i64 5, .int .i64 10, .own 0, .own 1], [.seq tStage exSt, .seq tWin exWi], false⟩
  | _ => none

def quickS : Spec := plain fun
  | [.int .i64 tl, .int .i64 fa] => some ⟨True, .agg [.own 0, .own 1, .int .i64 5, .int .i64 tl, .int .i64 fa], [.seq tInt [20, 20], .seq tInt [5, 5]], false⟩
  | _ => none

end Go.AM.Ytkacoophnfljcaa.Pl
