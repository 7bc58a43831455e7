/- The laws' helpers: By, ahead, example, sane. -/
import Derived.Test.YtkacoophnfljcaaDiE
set_option linter.all false
namespace Go.AM.Ytkacoophnfljcaa
open Go.Proofs
set_option maxRecDepth 100000
set_option maxHeartbeats 8000000

/-! ### By, ahead -/

def byF (r rc : Int) (a b : JobT) : Bool :=
  if r = 1 then jHot a && !jHot b else if r = 2 then decide (jDue a < jDue b) else if r = 3 then decide (jRec a = rc) && decide (jRec b ≠ rc)
  else if r = 4 then decide (jArr a < jArr b) else if r = 5 then decide (jLen a < jLen b) else decide (jCnt b < jCnt a)

def rbS : Spec := plain fun
  | [.int .i64 r, .int .i64 rc, .agg [.int .i64 a1, .int .i64 a2, .bool a3, .int .i64 a4, .int .i64 a5, .int .i64 a6, .int .i64 a7], .agg [.int .i64 b1, .int .i64 b2, .bool b3, .int .i64 b4, .int .i64 b5, .int .i64 b6, .int .i64 b7]] =>
    outV True (.bool (byF r rc (a1, a2, a3, a4, a5, a6, a7) (b1, b2, b3, b4, b5, b6, b7)))
  | _ => none


theorem rbOk : SpecSound Try.prog 61 rbS := by
  refine soundP (envOf sigNil) Try.func61 (c := body Try.f61) rfl (by kernel_rfl) rfl ?_
  intro args out hf hpre
  split at hf <;> try (cases hf; done)
  rename_i r rc a1 a2 a3 a4 a5 a6 a7 b1 b2 b3 b4 b5 b6 b7
  cases hf
  refine ⟨Nat.le_of_ble_eq_true rfl, initI (args := [.int .i64 r, .int .i64 rc, .agg [.int .i64 a1, .int .i64 a2, .bool a3, .int .i64 a4, .int .i64 a5, .int .i64 a6, .int .i64 a7], .agg [.int .i64 b1, .int .i64 b2, .bool b3, .int .i64 b4, .int .i64 b5, .int .i64 b6, .int .i64 b7]]) rfl ?_⟩
  repeat' (first
    | with_reducible refine pN ?_
    | with_reducible refine cN ?_
    | with_reducible refine bN ?_
    | with_reducible refine cE ?_
    | with_reducible refine cR ?_
    | with_reducible refine bR ?_
    | with_reducible refine lE ?_
    | with_reducible refine lR ?_
    | with_reducible refine jE ?_
    | with_reducible refine jR ?_
    | refine bE rfl ?_
    | refine bP rfl ?_
    | refine pC (by first | exact True.intro | omega | (intros; first | exact True.intro | omega) | (simp only [List.length_cons, List.length_nil, Int.toNat_natCast]; omega)) ?_
    | refine seqI rfl ?_
    | refine regI rfl ?_
    | refine scopeI rfl ?_
    | refine blockI rfl ?_
    | refine exitI rfl ?_
    | refine retI rfl ?_
    | refine skipI rfl ?_)
  refine condI rfl (fun c1 => ?_) (fun c1 => ?_)
  · simp only [decide_eq_true_eq] at c1
    repeat' (first
      | with_reducible refine pN ?_
      | with_reducible refine cN ?_
      | with_reducible refine bN ?_
      | with_reducible refine cE ?_
      | with_reducible refine cR ?_
      | with_reducible refine bR ?_
      | with_reducible refine lE ?_
      | with_reducible refine lR ?_
      | with_reducible refine jE ?_
      | with_reducible refine jR ?_
      | refine bE rfl ?_
      | refine bP rfl ?_
      | refine pC (by first | exact True.intro | omega | (intros; first | exact True.intro | omega) | (simp only [List.length_cons, List.length_nil, Int.toNat_natCast]; omega)) ?_
      | refine seqI rfl ?_
      | refine regI rfl ?_
      | refine scopeI rfl ?_
      | refine blockI rfl ?_
      | refine exitI rfl ?_
      | refine retI rfl ?_
      | refine skipI rfl ?_)
    refine endR rfl ?_
    repeat' (first | exact trivial | exact rfl | refine ⟨rfl, ?_⟩ | refine And.intro ?_ ?_)
    unfold byF
    rw [if_pos c1]
    rfl
  · simp only [decide_eq_false_iff_not] at c1
    repeat' (first
      | with_reducible refine pN ?_
      | with_reducible refine cN ?_
      | with_reducible refine bN ?_
      | with_reducible refine cE ?_
      | with_reducible refine cR ?_
      | with_reducible refine bR ?_
      | with_reducible refine lE ?_
      | with_reducible refine lR ?_
      | with_reducible refine jE ?_
      | with_reducible refine jR ?_
      | refine bE rfl ?_
      | refine bP rfl ?_
      | refine pC (by first | exact True.intro | omega | (intros; first | exact True.intro | omega) | (simp only [List.length_cons, List.length_nil, Int.toNat_natCast]; omega)) ?_
      | refine seqI rfl ?_
      | refine regI rfl ?_
      | refine scopeI rfl ?_
      | refine blockI rfl ?_
      | refine exitI rfl ?_
      | refine retI rfl ?_
      | refine skipI rfl ?_)
    refine condI rfl (fun c2 => ?_) (fun c2 => ?_)
    · simp only [decide_eq_true_eq] at c2
      repeat' (first
        | with_reducible refine pN ?_
        | with_reducible refine cN ?_
        | with_reducible refine bN ?_
        | with_reducible refine cE ?_
        | with_reducible refine cR ?_
        | with_reducible refine bR ?_
        | with_reducible refine lE ?_
        | with_reducible refine lR ?_
        | with_reducible refine jE ?_
        | with_reducible refine jR ?_
        | refine bE rfl ?_
        | refine bP rfl ?_
        | refine pC (by first | exact True.intro | omega | (intros; first | exact True.intro | omega) | (simp only [List.length_cons, List.length_nil, Int.toNat_natCast]; omega)) ?_
        | refine seqI rfl ?_
        | refine regI rfl ?_
        | refine scopeI rfl ?_
        | refine blockI rfl ?_
        | refine exitI rfl ?_
        | refine retI rfl ?_
        | refine skipI rfl ?_)
      refine endR rfl ?_
      repeat' (first | exact trivial | exact rfl | refine ⟨rfl, ?_⟩ | refine And.intro ?_ ?_)
      unfold byF
      rw [if_neg c1, if_pos c2]
      rfl
    · simp only [decide_eq_false_iff_not] at c2
      repeat' (first
        | with_reducible refine pN ?_
        | with_reducible refine cN ?_
        | with_reducible refine bN ?_
        | with_reducible refine cE ?_
        | with_reducible refine cR ?_
        | with_reducible refine bR ?_
        | with_reducible refine lE ?_
        | with_reducible refine lR ?_
        | with_reducible refine jE ?_
        | with_reducible refine jR ?_
        | refine bE rfl ?_
        | refine bP rfl ?_
        | refine pC (by first | exact True.intro | omega | (intros; first | exact True.intro | omega) | (simp only [List.length_cons, List.length_nil, Int.toNat_natCast]; omega)) ?_
        | refine seqI rfl ?_
        | refine regI rfl ?_
        | refine scopeI rfl ?_
        | refine blockI rfl ?_
        | refine exitI rfl ?_
        | refine retI rfl ?_
        | refine skipI rfl ?_)
      refine condI rfl (fun c3 => ?_) (fun c3 => ?_)
      · simp only [decide_eq_true_eq] at c3
        repeat' (first
          | with_reducible refine pN ?_
          | with_reducible refine cN ?_
          | with_reducible refine bN ?_
          | with_reducible refine cE ?_
          | with_reducible refine cR ?_
          | with_reducible refine bR ?_
          | with_reducible refine lE ?_
          | with_reducible refine lR ?_
          | with_reducible refine jE ?_
          | with_reducible refine jR ?_
          | refine bE rfl ?_
          | refine bP rfl ?_
          | refine pC (by first | exact True.intro | omega | (intros; first | exact True.intro | omega) | (simp only [List.length_cons, List.length_nil, Int.toNat_natCast]; omega)) ?_
          | refine seqI rfl ?_
          | refine regI rfl ?_
          | refine scopeI rfl ?_
          | refine blockI rfl ?_
          | refine exitI rfl ?_
          | refine retI rfl ?_
          | refine skipI rfl ?_)
        refine endR rfl ?_
        repeat' (first | exact trivial | exact rfl | refine ⟨rfl, ?_⟩ | refine And.intro ?_ ?_)
        unfold byF
        rw [if_neg c1, if_neg c2, if_pos c3]
        rfl
      · simp only [decide_eq_false_iff_not] at c3
        repeat' (first
          | with_reducible refine pN ?_
          | with_reducible refine cN ?_
          | with_reducible refine bN ?_
          | with_reducible refine cE ?_
          | with_reducible refine cR ?_
          | with_reducible refine bR ?_
          | with_reducible refine lE ?_
          | with_reducible refine lR ?_
          | with_reducible refine jE ?_
          | with_reducible refine jR ?_
          | refine bE rfl ?_
          | refine bP rfl ?_
          | refine pC (by first | exact True.intro | omega | (intros; first | exact True.intro | omega) | (simp only [List.length_cons, List.length_nil, Int.toNat_natCast]; omega)) ?_
          | refine seqI rfl ?_
          | refine regI rfl ?_
          | refine scopeI rfl ?_
          | refine blockI rfl ?_
          | refine exitI rfl ?_
          | refine retI rfl ?_
          | refine skipI rfl ?_)
        refine condI rfl (fun c4 => ?_) (fun c4 => ?_)
        · simp only [decide_eq_true_eq] at c4
          repeat' (first
            | with_reducible refine pN ?_
            | with_reducible refine cN ?_
            | with_reducible refine bN ?_
            | with_reducible refine cE ?_
            | with_reducible refine cR ?_
            | with_reducible refine bR ?_
            | with_reducible refine lE ?_
            | with_reducible refine lR ?_
            | with_reducible refine jE ?_
            | with_reducible refine jR ?_
            | refine bE rfl ?_
            | refine bP rfl ?_
            | refine pC (by first | exact True.intro | omega | (intros; first | exact True.intro | omega) | (simp only [List.length_cons, List.length_nil, Int.toNat_natCast]; omega)) ?_
            | refine seqI rfl ?_
            | refine regI rfl ?_
            | refine scopeI rfl ?_
            | refine blockI rfl ?_
            | refine exitI rfl ?_
            | refine retI rfl ?_
            | refine skipI rfl ?_)
          refine endR rfl ?_
          repeat' (first | exact trivial | exact rfl | refine ⟨rfl, ?_⟩ | refine And.intro ?_ ?_)
          unfold byF
          rw [if_neg c1, if_neg c2, if_neg c3, if_pos c4]
          rfl
        · simp only [decide_eq_false_iff_not] at c4
          repeat' (first
            | with_reducible refine pN ?_
            | with_reducible refine cN ?_
            | with_reducible refine bN ?_
            | with_reducible refine cE ?_
            | with_reducible refine cR ?_
            | with_reducible refine bR ?_
            | with_reducible refine lE ?_
            | with_reducible refine lR ?_
            | with_reducible refine jE ?_
            | with_reducible refine jR ?_
            | refine bE rfl ?_
            | refine bP rfl ?_
            | refine pC (by first | exact True.intro | omega | (intros; first | exact True.intro | omega) | (simp only [List.length_cons, List.length_nil, Int.toNat_natCast]; omega)) ?_
            | refine seqI rfl ?_
            | refine regI rfl ?_
            | refine scopeI rfl ?_
            | refine blockI rfl ?_
            | refine exitI rfl ?_
            | refine retI rfl ?_
            | refine skipI rfl ?_)
          refine condI rfl (fun c5 => ?_) (fun c5 => ?_)
          · simp only [decide_eq_true_eq] at c5
            repeat' (first
              | with_reducible refine pN ?_
              | with_reducible refine cN ?_
              | with_reducible refine bN ?_
              | with_reducible refine cE ?_
              | with_reducible refine cR ?_
              | with_reducible refine bR ?_
              | with_reducible refine lE ?_
              | with_reducible refine lR ?_
              | with_reducible refine jE ?_
              | with_reducible refine jR ?_
              | refine bE rfl ?_
              | refine bP rfl ?_
              | refine pC (by first | exact True.intro | omega | (intros; first | exact True.intro | omega) | (simp only [List.length_cons, List.length_nil, Int.toNat_natCast]; omega)) ?_
              | refine seqI rfl ?_
              | refine regI rfl ?_
              | refine scopeI rfl ?_
              | refine blockI rfl ?_
              | refine exitI rfl ?_
              | refine retI rfl ?_
              | refine skipI rfl ?_)
            refine endR rfl ?_
            repeat' (first | exact trivial | exact rfl | refine ⟨rfl, ?_⟩ | refine And.intro ?_ ?_)
            unfold byF
            rw [if_neg c1, if_neg c2, if_neg c3, if_neg c4, if_pos c5]
            rfl
          · simp only [decide_eq_false_iff_not] at c5
            repeat' (first
              | with_reducible refine pN ?_
              | with_reducible refine cN ?_
              | with_reducible refine bN ?_
              | with_reducible refine cE ?_
              | with_reducible refine cR ?_
              | with_reducible refine bR ?_
              | with_reducible refine lE ?_
              | with_reducible refine lR ?_
              | with_reducible refine jE ?_
              | with_reducible refine jR ?_
              | refine bE rfl ?_
              | refine bP rfl ?_
              | refine pC (by first | exact True.intro | omega | (intros; first | exact True.intro | omega) | (simp only [List.length_cons, List.length_nil, Int.toNat_natCast]; omega)) ?_
              | refine seqI rfl ?_
              | refine regI rfl ?_
              | refine scopeI rfl ?_
              | refine blockI rfl ?_
              | refine exitI rfl ?_
              | refine retI rfl ?_
              | refine skipI rfl ?_)
            refine endR rfl ?_
            repeat' (first | exact trivial | exact rfl | refine ⟨rfl, ?_⟩ | refine And.intro ?_ ?_)
            unfold byF
            rw [if_neg c1, if_neg c2, if_neg c3, if_neg c4, if_neg c5]
            rfl

def aheadF (rc : Int) (a b : JobT) : List Int → Bool
  | [] => decide (jLot a < jLot b)
  | r :: rs => if (!(byF r rc a b == byF r rc b a)) = true then byF r rc a b else aheadF rc a b rs

def aheadS : Spec := plain fun
  | [.sl (.int .i64) rs, .int .i64 rc, .agg [.int .i64 a1, .int .i64 a2, .bool a3, .int .i64 a4, .int .i64 a5, .int .i64 a6, .int .i64 a7], .agg [.int .i64 b1, .int .i64 b2, .bool b3, .int .i64 b4, .int .i64 b5, .int .i64 b6, .int .i64 b7]] =>
    outV (List.length (α := Int) rs ≤ 1000000) (.bool (aheadF rc (a1, a2, a3, a4, a5, a6, a7) (b1, b2, b3, b4, b5, b6, b7) rs))
  | _ => none

def sigRb : List (Nat × Spec) := [(61, rbS)]
theorem sigRbOk : SigOk Try.prog (look sigRb) := sigCons sigNil Try.func61 (by kernel_rfl) (c := body Try.f61) rfl rbOk

theorem aheadOk : SpecSound Try.prog 33 aheadS := by
  refine soundP (envOf sigRbOk) Try.func33 (c := body Try.f33) rfl (by kernel_rfl) rfl ?_
  intro args out hf hpre
  split at hf <;> try (cases hf; done)
  rename_i rs rc a1 a2 a3 a4 a5 a6 a7 b1 b2 b3 b4 b5 b6 b7
  cases hf
  refine ⟨Nat.le_of_ble_eq_true rfl, initI (args := [.sl tInt rs, .int .i64 rc, .agg [.int .i64 a1, .int .i64 a2, .bool a3, .int .i64 a4, .int .i64 a5, .int .i64 a6, .int .i64 a7], .agg [.int .i64 b1, .int .i64 b2, .bool b3, .int .i64 b4, .int .i64 b5, .int .i64 b6, .int .i64 b7]]) rfl ?_⟩
  change List.length (α := Int) rs ≤ 1000000 at hpre
  repeat' (first
    | with_reducible refine pN ?_
    | with_reducible refine cN ?_
    | with_reducible refine bN ?_
    | with_reducible refine cE ?_
    | with_reducible refine cR ?_
    | with_reducible refine bR ?_
    | with_reducible refine lE ?_
    | with_reducible refine lR ?_
    | with_reducible refine jE ?_
    | with_reducible refine jR ?_
    | refine bE rfl ?_
    | refine bP rfl ?_
    | refine pC (by first | exact True.intro | omega | (intros; first | exact True.intro | omega) | (simp only [List.length_cons, List.length_nil, Int.toNat_natCast]; omega)) ?_
    | refine seqI rfl ?_
    | refine regI rfl ?_
    | refine scopeI rfl ?_
    | refine blockI rfl ?_
    | refine exitI rfl ?_
    | refine retI rfl ?_
    | refine skipI rfl ?_)
  refine loopI (σ := Nat) (fun i => [(9, .int .i64 i)]) (fun i => []) (fun i => i ≤ List.length (α := Int) rs ∧ aheadF rc (a1, a2, a3, a4, a5, a6, a7) (b1, b2, b3, b4, b5, b6, b7) rs = aheadF rc (a1, a2, a3, a4, a5, a6, a7) (b1, b2, b3, b4, b5, b6, b7) (List.drop (α := Int) i rs)) (fun i => List.length (α := Int) rs - i) 0 rfl (fun _ => rfl) rfl ?_ ?_ ?_
  · exact ⟨Nat.zero_le _, rfl⟩
  · repeat' (first | exact trivial | exact rfl | refine ⟨rfl, ?_⟩ | refine And.intro ?_ ?_)
  rintro i ⟨hi, he⟩
  rw [he]
  repeat' (first
    | with_reducible refine pN ?_
    | with_reducible refine cN ?_
    | with_reducible refine bN ?_
    | with_reducible refine cE ?_
    | with_reducible refine cR ?_
    | with_reducible refine bR ?_
    | with_reducible refine lE ?_
    | with_reducible refine lR ?_
    | with_reducible refine jE ?_
    | with_reducible refine jR ?_
    | refine bE rfl ?_
    | refine bP rfl ?_
    | refine pC (by first | exact True.intro | omega | (intros; first | exact True.intro | omega) | (simp only [List.length_cons, List.length_nil, Int.toNat_natCast]; omega)) ?_
    | refine seqI rfl ?_
    | refine regI rfl ?_
    | refine scopeI rfl ?_
    | refine blockI rfl ?_
    | refine exitI rfl ?_
    | refine retI rfl ?_
    | refine skipI rfl ?_)
  refine condI rfl (fun c1 => ?_) (fun c1 => ?_)
  · simp only [decide_eq_true_eq] at c1
    have hil : i < List.length (α := Int) rs := by omega
    have hin : ((i : Int)).toNat = i := by omega
    have hd : List.drop (α := Int) i rs = getI rs (0 : Int) i :: List.drop (α := Int) (i + 1) rs := by
      have := List.drop_eq_getElem_cons (l := (rs : List Int)) (i := i) hil
      rw [this]
      congr 1
      simp [getI, List.getD, List.getElem?_eq_getElem hil]
    rw [hd]
    repeat' (first
      | with_reducible refine pN ?_
      | with_reducible refine cN ?_
      | with_reducible refine bN ?_
      | with_reducible refine cE ?_
      | with_reducible refine cR ?_
      | with_reducible refine bR ?_
      | with_reducible refine lE ?_
      | with_reducible refine lR ?_
      | with_reducible refine jE ?_
      | with_reducible refine jR ?_
      | refine bE rfl ?_
      | refine bP rfl ?_
      | refine pC (by first | exact True.intro | omega | (intros; first | exact True.intro | omega) | (simp only [List.length_cons, List.length_nil, Int.toNat_natCast]; omega)) ?_
      | refine seqI rfl ?_
      | refine regI rfl ?_
      | refine scopeI rfl ?_
      | refine blockI rfl ?_
      | refine exitI rfl ?_
      | refine retI rfl ?_
      | refine skipI rfl ?_)
    refine condI rfl (fun c2 => ?_) (fun c2 => ?_)
    · repeat' (first
        | with_reducible refine pN ?_
        | with_reducible refine cN ?_
        | with_reducible refine bN ?_
        | with_reducible refine cE ?_
        | with_reducible refine cR ?_
        | with_reducible refine bR ?_
        | with_reducible refine lE ?_
        | with_reducible refine lR ?_
        | with_reducible refine jE ?_
        | with_reducible refine jR ?_
        | refine bE rfl ?_
        | refine bP rfl ?_
        | refine pC (by first | exact True.intro | omega | (intros; first | exact True.intro | omega) | (simp only [List.length_cons, List.length_nil, Int.toNat_natCast]; omega)) ?_
        | refine seqI rfl ?_
        | refine regI rfl ?_
        | refine scopeI rfl ?_
        | refine blockI rfl ?_
        | refine exitI rfl ?_
        | refine retI rfl ?_
        | refine skipI rfl ?_)
      refine endR rfl ?_
      repeat' (first | exact trivial | exact rfl | refine ⟨rfl, ?_⟩ | refine And.intro ?_ ?_)
      unfold aheadF
      exact if_pos c2
    · repeat' (first
        | with_reducible refine pN ?_
        | with_reducible refine cN ?_
        | with_reducible refine bN ?_
        | with_reducible refine cE ?_
        | with_reducible refine cR ?_
        | with_reducible refine bR ?_
        | with_reducible refine lE ?_
        | with_reducible refine lR ?_
        | with_reducible refine jE ?_
        | with_reducible refine jR ?_
        | refine bE rfl ?_
        | refine bP rfl ?_
        | refine pC (by first | exact True.intro | omega | (intros; first | exact True.intro | omega) | (simp only [List.length_cons, List.length_nil, Int.toNat_natCast]; omega)) ?_
        | refine seqI rfl ?_
        | refine regI rfl ?_
        | refine scopeI rfl ?_
        | refine blockI rfl ?_
        | refine exitI rfl ?_
        | refine retI rfl ?_
        | refine skipI rfl ?_)
      refine roundI (i + 1) rfl ?_ ?_ ?_
      · refine ⟨by show i + 1 ≤ List.length (α := Int) rs; omega, ?_⟩
        rw [← hd, ← he, he, hd]
        conv => lhs; unfold aheadF
        exact if_neg (fun h => Bool.noConfusion (h.symm.trans c2))
      · show List.length (α := Int) rs - (i + 1) < List.length (α := Int) rs - i
        omega
      · repeat' (first | exact trivial | exact rfl | refine ⟨rfl, ?_⟩ | refine And.intro ?_ ?_)
  · simp only [decide_eq_false_iff_not] at c1
    repeat' (first
      | with_reducible refine pN ?_
      | with_reducible refine cN ?_
      | with_reducible refine bN ?_
      | with_reducible refine cE ?_
      | with_reducible refine cR ?_
      | with_reducible refine bR ?_
      | with_reducible refine lE ?_
      | with_reducible refine lR ?_
      | with_reducible refine jE ?_
      | with_reducible refine jR ?_
      | refine bE rfl ?_
      | refine bP rfl ?_
      | refine pC (by first | exact True.intro | omega | (intros; first | exact True.intro | omega) | (simp only [List.length_cons, List.length_nil, Int.toNat_natCast]; omega)) ?_
      | refine seqI rfl ?_
      | refine regI rfl ?_
      | refine scopeI rfl ?_
      | refine blockI rfl ?_
      | refine exitI rfl ?_
      | refine retI rfl ?_
      | refine skipI rfl ?_)
    refine endR rfl ?_
    repeat' (first | exact trivial | exact rfl | refine ⟨rfl, ?_⟩ | refine And.intro ?_ ?_)
    rw [List.drop_of_length_le (by omega)]
    rfl

/-! ### example, sane -/

def exJ : List JobT := [(1, 5, false, 90, 3, 30, 25), (2, 6, true, 95, 1, 40, 25), (3, 5, false, 90, 2, 10, 25)]
def exJS : Spec := plain fun
  | [] => some ⟨True, .own 0, [.seq tJob exJ], false⟩
  | _ => none
theorem exJOk : SpecSound Try.prog 42 exJS := by
  refine soundP (envOf sigNil) Try.func42 (c := body Try.f42) rfl (by kernel_rfl) rfl ?_
  intro args out hf hpre
  split at hf <;> try (cases hf; done)
  cases hf
  refine ⟨Nat.le_of_ble_eq_true rfl, initI rfl ?_⟩
  repeat' (first
    | with_reducible refine pN ?_
    | with_reducible refine cN ?_
    | with_reducible refine bN ?_
    | with_reducible refine cE ?_
    | with_reducible refine cR ?_
    | with_reducible refine bR ?_
    | with_reducible refine lE ?_
    | with_reducible refine lR ?_
    | with_reducible refine jE ?_
    | with_reducible refine jR ?_
    | refine bE rfl ?_
    | refine bP rfl ?_
    | refine pC (by first | exact True.intro | omega | (intros; first | exact True.intro | omega) | (simp only [List.length_cons, List.length_nil, Int.toNat_natCast]; omega)) ?_
    | refine seqI rfl ?_
    | refine regI rfl ?_
    | refine scopeI rfl ?_
    | refine blockI rfl ?_
    | refine exitI rfl ?_
    | refine retI rfl ?_
    | refine skipI rfl ?_)
  refine endR rfl ?_
  repeat' (first | exact trivial | exact rfl | refine ⟨rfl, ?_⟩ | refine And.intro ?_ ?_)

def sigDs : List (Nat × Spec) := [(42, exJS), (35, newS), (19, dpickS.norm [.any, .any, .any, .sl tInt]), (34, bookS), (22, orderS),
  (43, lotsS), (24, sameIS), (29, lengthS), (25, batchS), (27, validRS.norm [.sl tInt])]
theorem sigDsOk : SigOk Try.prog (look sigDs) := sigCons (sigCons (sigCons (sigCons (sigCons (sigCons (sigCons (sigCons (sigCons (sigCons sigNil
  Try.func27 (by kernel_rfl) (c := body Try.f27) rfl (validROk.norm _))
  Try.func25 (by kernel_rfl) (c := body Try.f25) rfl batchOk)
  Try.func29 (by kernel_rfl) (c := body Try.f29) rfl lengthOk)
  Try.func24 (by kernel_rfl) (c := body Try.f24) rfl sameIOk)
  Try.func43 (by kernel_rfl) (c := body Try.f43) rfl lotsOk)
  Try.func22 (by kernel_rfl) (c := body Try.f22) rfl orderOk)
  Try.func34 (by kernel_rfl) (c := body Try.f34) rfl bookOk)
  Try.func19 (by kernel_rfl) (c := body Try.f19) rfl (dpickOk.norm _))
  Try.func35 (by kernel_rfl) (c := body Try.f35) rfl newOk)
  Try.func42 (by kernel_rfl) (c := body Try.f42) rfl exJOk

def dsaneS : Spec := plain fun
  | [] => outV True (.bool true)
  | _ => none

theorem dsaneOk : SpecSound Try.prog 11 dsaneS := by
  refine soundP (envOf sigDsOk) Try.func11 (c := body Try.f11) rfl (by kernel_rfl) rfl ?_
  intro args out hf hpre
  split at hf <;> try (cases hf; done)
  cases hf
  refine ⟨Nat.le_of_ble_eq_true rfl, initI rfl ?_⟩
  obtain ⟨g1, k1⟩ := book_good noCal_good (3, 50, 60, 1)
  rw [lenF_no] at k1
  have c0 := noCal_ok
  have c1 := g1.cal (by omega)
  have hol : ∀ rs rc, (orderF rs rc exJ).length ≤ 1000000 := fun rs rc => Nat.le_trans (orderF_len rs rc exJ) (Nat.le_of_ble_eq_true rfl)
  have hom : ∀ rs rc, (List.map jLot (orderF rs rc exJ)).length ≤ 1000000 := fun rs rc => by rw [List.length_map]; exact hol rs rc
  have hob : ∀ rs, (batchF rs exJ).length ≤ 1000000 := fun rs => by unfold batchF; simp; omega
  repeat' (first
    | with_reducible refine pN ?_
    | with_reducible refine cN ?_
    | with_reducible refine bN ?_
    | with_reducible refine cE ?_
    | with_reducible refine cR ?_
    | with_reducible refine bR ?_
    | with_reducible refine lE ?_
    | with_reducible refine lR ?_
    | with_reducible refine jE ?_
    | with_reducible refine jR ?_
    | refine bE rfl ?_
    | refine bP rfl ?_
    | refine pC (by first | exact True.intro | omega | (intros; first | exact True.intro | omega) | (simp only [List.length_cons, List.length_nil, Int.toNat_natCast]; omega) | first | exact ⟨c0, Nat.le_of_ble_eq_true rfl, Nat.le_of_ble_eq_true rfl⟩ | exact ⟨c0, noCal_good.sorted⟩) ?_
    | refine seqI rfl ?_
    | refine regI rfl ?_
    | refine scopeI rfl ?_
    | refine blockI rfl ?_
    | refine exitI rfl ?_
    | refine retI rfl ?_
    | refine skipI rfl ?_)
  refine condF rfl ?_
  repeat' (first | with_reducible refine pN ?_ | with_reducible refine cN ?_ | with_reducible refine bN ?_ | with_reducible refine cE ?_ | with_reducible refine cR ?_ | with_reducible refine bR ?_ | with_reducible refine lE ?_ | with_reducible refine lR ?_ | with_reducible refine jE ?_ | with_reducible refine jR ?_ | refine bE rfl ?_ | refine bP rfl ?_ | refine seqI rfl ?_ | refine scopeI rfl ?_ | refine exitI rfl ?_ | refine retI rfl ?_ | refine skipI rfl ?_)
  refine regI rfl ?_
  repeat' (first | with_reducible refine pN ?_ | refine pC (by first | exact True.intro | omega | (intros; first | exact True.intro | omega) | (simp only [List.length_cons, List.length_nil, Int.toNat_natCast]; omega) | first | exact ⟨c1, Nat.le_of_ble_eq_true rfl, Nat.le_of_ble_eq_true rfl⟩) ?_)
  repeat with_reducible refine cN ?_
  repeat' (first | with_reducible refine pN ?_ | with_reducible refine cN ?_ | with_reducible refine bN ?_ | with_reducible refine cE ?_ | with_reducible refine cR ?_ | with_reducible refine bR ?_ | with_reducible refine lE ?_ | with_reducible refine lR ?_ | with_reducible refine jE ?_ | with_reducible refine jR ?_ | refine bE rfl ?_ | refine bP rfl ?_ | refine seqI rfl ?_ | refine scopeI rfl ?_ | refine exitI rfl ?_ | refine retI rfl ?_ | refine skipI rfl ?_)
  refine regI rfl ?_
  repeat' (first | with_reducible refine pN ?_ | refine pC (by first | exact True.intro | omega | (intros; first | exact True.intro | omega) | (simp only [List.length_cons, List.length_nil, Int.toNat_natCast]; omega) | first | exact ⟨c1, Nat.le_of_ble_eq_true rfl, Nat.le_of_ble_eq_true rfl⟩) ?_)
  repeat with_reducible refine cN ?_
  refine seqI rfl ?_
  refine regH [(42, true)] rfl ?_
  repeat' (first | with_reducible refine pN ?_ | refine pC (by first | exact True.intro | exact ⟨Nat.le_of_ble_eq_true rfl, Nat.le_of_ble_eq_true rfl⟩ | exact hol _ _ | exact hom _ _ | exact hob _ | exact fun _ => hol _ _ | exact fun _ => hom _ _ | exact fun _ => hob _ | exact fun _ => ⟨Nat.le_of_ble_eq_true rfl, Nat.le_of_ble_eq_true rfl⟩ | kernel_rfl | exact Nat.le_of_ble_eq_true rfl | exact fun _ => Nat.le_of_ble_eq_true rfl | decide | (show In64 60; omega)  | (show In64 60; decide) | (intros; decide)) ?_)
  with_reducible refine cN ?_
  refine seqI rfl ?_
  refine regH [(78, true)] rfl ?_
  repeat' (first | with_reducible refine pN ?_ | refine pC (by first | exact True.intro | exact ⟨Nat.le_of_ble_eq_true rfl, Nat.le_of_ble_eq_true rfl⟩ | exact hol _ _ | exact hom _ _ | exact hob _ | exact fun _ => hol _ _ | exact fun _ => hom _ _ | exact fun _ => hob _ | exact fun _ => ⟨Nat.le_of_ble_eq_true rfl, Nat.le_of_ble_eq_true rfl⟩ | kernel_rfl | exact Nat.le_of_ble_eq_true rfl | exact fun _ => Nat.le_of_ble_eq_true rfl | decide | (show In64 60; omega)  | (show In64 60; decide) | (intros; decide)) ?_)
  with_reducible refine cN ?_
  repeat' (first
    | with_reducible refine pN ?_
    | with_reducible refine cN ?_
    | with_reducible refine bN ?_
    | with_reducible refine cE ?_
    | with_reducible refine cR ?_
    | with_reducible refine bR ?_
    | with_reducible refine lE ?_
    | with_reducible refine lR ?_
    | with_reducible refine jE ?_
    | with_reducible refine jR ?_
    | refine bE rfl ?_
    | refine bP rfl ?_
    | refine pC (by first | exact True.intro | omega | (intros; first | exact True.intro | omega) | (simp only [List.length_cons, List.length_nil, Int.toNat_natCast]; omega)) ?_
    | refine seqI rfl ?_
    | refine regI rfl ?_
    | refine scopeI rfl ?_
    | refine blockI rfl ?_
    | refine exitI rfl ?_
    | refine retI rfl ?_
    | refine skipI rfl ?_)
  refine endR rfl ?_
  refine ⟨?_, trivial⟩
  kernel_rfl
end Go.AM.Ytkacoophnfljcaa
