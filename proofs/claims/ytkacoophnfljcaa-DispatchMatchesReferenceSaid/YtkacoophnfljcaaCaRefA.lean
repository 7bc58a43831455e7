/- The reference's calendar: New, Busy, First, Book. -/
import Derived.Test.YtkacoophnfljcaaCaS
set_option linter.all false
namespace Go.AM.Ytkacoophnfljcaa
open Go.Proofs
set_option maxRecDepth 100000
set_option maxHeartbeats 8000000

def refNewS : Spec := ⟨true, fun args rows => match args, rows with
  | [], [] => some ⟨True, .ptr 0 0, [.box [.own 1], .seq Bk []], true⟩
  | _, _ => none⟩
theorem refNewOk : SpecSound Try.prog 13 refNewS := by
  refine soundR (envOf sigNil) Try.func13 (c := body Try.f13) rfl (by kernel_rfl) rfl ?_
  intro args rows out hf hpre
  split at hf <;> try (cases hf; done)
  cases hf
  refine ⟨Nat.le_of_ble_eq_true rfl, initI (args := []) (rows := []) rfl ?_⟩
  repeat' (first
    | with_reducible refine pN ?_
    | with_reducible refine cN ?_
    | with_reducible refine bN ?_
    | with_reducible refine cE ?_
    | with_reducible refine cR ?_
    | with_reducible refine bR ?_
    | with_reducible refine lE ?_
    | with_reducible refine lR ?_
    | with_reducible refine jE ?_
    | with_reducible refine jR ?_
    | refine bE rfl ?_
    | refine bP rfl ?_
    | refine pC (by first | exact True.intro | omega | (intros; first | exact True.intro | omega) | (simp only [List.length_cons, List.length_nil, Int.toNat_natCast]; omega)) ?_
    | refine seqI rfl ?_
    | refine regI rfl ?_
    | refine scopeI rfl ?_
    | refine blockI rfl ?_
    | refine exitI rfl ?_
    | refine retI rfl ?_
    | refine skipI rfl ?_)
  refine endR rfl ?_
  repeat' (first | exact trivial | exact rfl | refine ⟨rfl, ?_⟩ | refine And.intro ?_ ?_)

/-- A region reckoned by itself, sums wrapping. -/
theorem regW {P : Program} {tt : TT} {S : Nat → Option Spec} {E : Env P tt S} {K : List Nat} {c : Code} {st : St} {Q : AExit → St → Prop} (hs : List (Nat × Bool)) {cs : List Prop} {st' : St} (h : regRun (tt.1, false, hs) S K c st = some (cs, st')) (k : allP cs (Q .normal st')) : WP E K c st Q :=
  regI (E := (⟨E.hT, E.hS, E.hm⟩ : Env P (tt.1, false, hs) S)) h k

/-! ### Busy -/

def meetR (t s e : Int) (b : Bk.El) : Bool := decide (b.1 = t) && decide (s < e) && decide (b.2.1 < e) && decide (s < b.2.2.1)
def refBusyS : Spec := plain fun
  | [.el (.slice (.pair (.int .i64) (.pair (.int .i64) (.pair (.int .i64) (.int .i64))))) [xs] 0 0, .int .i64 t, .int .i64 s, .int .i64 e] => outV (List.length (α := Bk.El) xs ≤ 1000000) (.bool (List.any (α := Bk.El) xs (meetR t s e)))
  | _ => none

theorem any_take_yes {α : Type} {p : α → Bool} {d : α} {xs : List α} {i : Nat} (hi : i < xs.length) (h : p (getI xs d i) = true) : xs.any p = true := by
  rw [List.any_eq_true]
  have e : getI xs d i = xs[i] := by simp [getI, List.getD, List.getElem?_eq_getElem hi]
  exact ⟨xs[i], List.getElem_mem hi, by rw [← e]; exact h⟩

theorem refBusyOk : SpecSound Try.prog 46 refBusyS := by
  refine soundP (envOf sigNil) Try.func46 (c := body Try.f46) rfl (by kernel_rfl) rfl ?_
  intro args out hf hpre
  split at hf <;> try (cases hf; done)
  rename_i xs t s e
  cases hf
  refine ⟨Nat.le_of_ble_eq_true rfl, initI (args := [.el (.slice Bk) [xs] 0 0, .int .i64 t, .int .i64 s, .int .i64 e]) rfl ?_⟩
  have hX : getI ([xs] : List (Ty.slice Bk).El) (Ty.slice Bk).dflt 0 = xs := rfl
  have hxs : List.length (α := Bk.El) xs ≤ 1000000 := hpre
  repeat' (first
    | with_reducible refine pN ?_
    | with_reducible refine cN ?_
    | with_reducible refine bN ?_
    | with_reducible refine cE ?_
    | with_reducible refine cR ?_
    | with_reducible refine bR ?_
    | with_reducible refine lE ?_
    | with_reducible refine lR ?_
    | with_reducible refine jE ?_
    | with_reducible refine jR ?_
    | refine bE rfl ?_
    | refine bP rfl ?_
    | refine pC (by first | exact True.intro | omega | (intros; first | exact True.intro | omega) | (simp only [List.length_cons, List.length_nil, Int.toNat_natCast]; omega) | (simp only [hX]; omega)) ?_
    | refine seqI rfl ?_
    | refine regI rfl ?_
    | refine scopeI rfl ?_
    | refine blockI rfl ?_
    | refine exitI rfl ?_
    | refine retI rfl ?_
    | refine skipI rfl ?_)
  refine loopI (σ := Nat) (fun i => [(9, .int .i64 i)]) (fun i => []) (fun i => i ≤ xs.length ∧ List.any (α := Bk.El) (xs.take i) (meetR t s e) = false) (fun i => xs.length - i) 0 rfl (fun _ => rfl) rfl ?_ ?_ ?_
  · exact ⟨Nat.zero_le _, rfl⟩
  · repeat' (first | exact trivial | exact rfl | refine ⟨rfl, ?_⟩ | refine And.intro ?_ ?_)
  · rintro i ⟨hi, hn⟩
    repeat' (first
      | with_reducible refine pN ?_
      | with_reducible refine cN ?_
      | with_reducible refine bN ?_
      | with_reducible refine cE ?_
      | with_reducible refine cR ?_
      | with_reducible refine bR ?_
      | with_reducible refine lE ?_
      | with_reducible refine lR ?_
      | with_reducible refine jE ?_
      | with_reducible refine jR ?_
      | refine bE rfl ?_
      | refine bP rfl ?_
      | refine pC (by first | exact True.intro | omega | (intros; first | exact True.intro | omega) | (simp only [List.length_cons, List.length_nil, Int.toNat_natCast]; omega) | (simp only [hX]; omega)) ?_
      | refine seqI rfl ?_
      | refine regI rfl ?_
      | refine scopeI rfl ?_
      | refine blockI rfl ?_
      | refine exitI rfl ?_
      | refine retI rfl ?_
      | refine skipI rfl ?_)
    refine condI rfl (fun c1 => ?_) (fun c1 => ?_)
    · have c1 : (i : Int) < (List.length (α := Bk.El) xs : Nat) := of_decide_eq_true c1
      have hin : ((i : Int)).toNat = i := by omega
      have hil : i < xs.length := by omega
      repeat' (first
        | with_reducible refine pN ?_
        | with_reducible refine cN ?_
        | with_reducible refine bN ?_
        | with_reducible refine cE ?_
        | with_reducible refine cR ?_
        | with_reducible refine bR ?_
        | with_reducible refine lE ?_
        | with_reducible refine lR ?_
        | with_reducible refine jE ?_
        | with_reducible refine jR ?_
        | refine bE rfl ?_
        | refine bP rfl ?_
        | refine pC (by first | exact True.intro | omega | (intros; first | exact True.intro | omega) | (simp only [List.length_cons, List.length_nil, Int.toNat_natCast]; omega) | (simp only [hX]; omega)) ?_
        | refine seqI rfl ?_
        | refine regI rfl ?_
        | refine scopeI rfl ?_
        | refine blockI rfl ?_
        | refine exitI rfl ?_
        | refine retI rfl ?_
        | refine skipI rfl ?_)
      refine condI rfl (fun c2 => ?_) (fun c2 => ?_)
      · have c2' : meetR t s e (getI xs Bk.dflt ((i : Int)).toNat) = true := c2
        rw [hin] at c2'
        repeat' (first
          | with_reducible refine pN ?_
          | with_reducible refine cN ?_
          | with_reducible refine bN ?_
          | with_reducible refine cE ?_
          | with_reducible refine cR ?_
          | with_reducible refine bR ?_
          | with_reducible refine lE ?_
          | with_reducible refine lR ?_
          | with_reducible refine jE ?_
          | with_reducible refine jR ?_
          | refine bE rfl ?_
          | refine bP rfl ?_
          | refine pC (by first | exact True.intro | omega | (intros; first | exact True.intro | omega) | (simp only [List.length_cons, List.length_nil, Int.toNat_natCast]; omega) | (simp only [hX]; omega)) ?_
          | refine seqI rfl ?_
          | refine regI rfl ?_
          | refine scopeI rfl ?_
          | refine blockI rfl ?_
          | refine exitI rfl ?_
          | refine retI rfl ?_
          | refine skipI rfl ?_)
        refine endR rfl ?_
        repeat' (first | exact trivial | exact rfl | refine ⟨rfl, ?_⟩ | refine And.intro ?_ ?_)
        exact any_take_yes hil c2'
      · have c2' : meetR t s e (getI xs Bk.dflt ((i : Int)).toNat) = false := c2
        rw [hin] at c2'
        repeat' (first
          | with_reducible refine pN ?_
          | with_reducible refine cN ?_
          | with_reducible refine bN ?_
          | with_reducible refine cE ?_
          | with_reducible refine cR ?_
          | with_reducible refine bR ?_
          | with_reducible refine lE ?_
          | with_reducible refine lR ?_
          | with_reducible refine jE ?_
          | with_reducible refine jR ?_
          | refine bE rfl ?_
          | refine bP rfl ?_
          | refine pC (by first | exact True.intro | omega | (intros; first | exact True.intro | omega) | (simp only [List.length_cons, List.length_nil, Int.toNat_natCast]; omega) | (simp only [hX]; omega)) ?_
          | refine seqI rfl ?_
          | refine regI rfl ?_
          | refine scopeI rfl ?_
          | refine blockI rfl ?_
          | refine exitI rfl ?_
          | refine retI rfl ?_
          | refine skipI rfl ?_)
        refine roundI (i + 1) rfl ?_ ?_ ?_
        · refine ⟨by omega, ?_⟩
          rw [take_succ_getI (d := Bk.dflt) hil, List.any_append, hn]
          simp [c2']
        · show xs.length - (i + 1) < xs.length - i
          omega
        · repeat' (first | exact trivial | exact rfl | refine ⟨rfl, ?_⟩ | refine And.intro ?_ ?_)
    · have c1 : ¬ (i : Int) < (List.length (α := Bk.El) xs : Nat) := of_decide_eq_false c1
      rw [List.take_of_length_le (i := i) (by omega)] at hn
      repeat' (first
        | with_reducible refine pN ?_
        | with_reducible refine cN ?_
        | with_reducible refine bN ?_
        | with_reducible refine cE ?_
        | with_reducible refine cR ?_
        | with_reducible refine bR ?_
        | with_reducible refine lE ?_
        | with_reducible refine lR ?_
        | with_reducible refine jE ?_
        | with_reducible refine jR ?_
        | refine bE rfl ?_
        | refine bP rfl ?_
        | refine pC (by first | exact True.intro | omega | (intros; first | exact True.intro | omega) | (simp only [List.length_cons, List.length_nil, Int.toNat_natCast]; omega) | (simp only [hX]; omega)) ?_
        | refine seqI rfl ?_
        | refine regI rfl ?_
        | refine scopeI rfl ?_
        | refine blockI rfl ?_
        | refine exitI rfl ?_
        | refine retI rfl ?_
        | refine skipI rfl ?_)
      refine endR rfl ?_
      repeat' (first | exact trivial | exact rfl | refine ⟨rfl, ?_⟩ | refine And.intro ?_ ?_)
      exact hn

/-! ### First -/

def stepR (t n f : Int) (b : Bk.El) : Int := if b.1 = t ∧ f ≤ 1000000 - n ∧ b.2.1 < f + n ∧ f < b.2.2.1 then b.2.2.1 else f
def foldR (t n : Int) (l : List Bk.El) (f : Int) : Int := l.foldl (stepR t n) f
def refFirstF (l : List Bk.El) (t f n : Int) : Int × Bool :=
  if t < 0 ∨ 60 ≤ t ∨ n < 1 ∨ 1000000 < n then (0, false) else if 1000000 - n < foldR t n l (max f 0) then (0, false) else (foldR t n l (max f 0), true)

theorem stepR_le (t n f : Int) (b : Bk.El) : f ≤ stepR t n f b := by
  unfold stepR
  split
  · omega
  · exact Int.le_refl _
theorem foldR_le (t n : Int) : ∀ (l : List Bk.El) (f : Int), f ≤ foldR t n l f
  | [], f => Int.le_refl _
  | b :: l, f => Int.le_trans (stepR_le t n f b) (foldR_le t n l _)
theorem foldR_take {t n : Int} {l : List Bk.El} {i : Nat} (h : i < l.length) (f : Int) : foldR t n (l.take (i + 1)) f = stepR t n (foldR t n (l.take i) f) (getI l Bk.dflt i) := by
  rw [take_succ_getI (d := Bk.dflt) h]
  unfold foldR
  rw [List.foldl_append]
  rfl

def refFirstS : Spec := plain fun
  | [.el (.slice (.pair (.int .i64) (.pair (.int .i64) (.pair (.int .i64) (.int .i64))))) [xs] 0 0, .int .i64 t, .int .i64 f, .int .i64 n] => outV (List.length (α := Bk.El) xs ≤ 1000000) (.tup [.int .i64 (refFirstF xs t f n).1, .bool (refFirstF xs t f n).2])
  | _ => none

theorem refFirstOk : SpecSound Try.prog 72 refFirstS := by
  refine soundP (envOf sigNil) Try.func72 (c := body Try.f72) rfl (by kernel_rfl) rfl ?_
  intro args out hf hpre
  split at hf <;> try (cases hf; done)
  rename_i xs t f n
  cases hf
  refine ⟨Nat.le_of_ble_eq_true rfl, initI (args := [.el (.slice Bk) [xs] 0 0, .int .i64 t, .int .i64 f, .int .i64 n]) rfl ?_⟩
  have hX : getI ([xs] : List (Ty.slice Bk).El) (Ty.slice Bk).dflt 0 = xs := rfl
  have hxs : List.length (α := Bk.El) xs ≤ 1000000 := hpre
  repeat' (first
    | with_reducible refine pN ?_
    | with_reducible refine cN ?_
    | with_reducible refine bN ?_
    | with_reducible refine cE ?_
    | with_reducible refine cR ?_
    | with_reducible refine bR ?_
    | with_reducible refine lE ?_
    | with_reducible refine lR ?_
    | with_reducible refine jE ?_
    | with_reducible refine jR ?_
    | refine bE rfl ?_
    | refine bP rfl ?_
    | refine pC (by first | exact True.intro | omega | (intros; first | exact True.intro | omega) | (simp only [List.length_cons, List.length_nil, Int.toNat_natCast]; omega) | (simp only [decide_eq_true_eq, decide_eq_false_iff_not, Bool.or_eq_false_iff] at *; omega)) ?_
    | refine seqI rfl ?_
    | refine regI rfl ?_
    | refine scopeI rfl ?_
    | refine blockI rfl ?_
    | refine exitI rfl ?_
    | refine retI rfl ?_
    | refine skipI rfl ?_)
  refine condI rfl (fun c0 => ?_) (fun c0 => ?_)
  · have c0' : (decide (t < 0) || decide (60 ≤ t) || decide (n < 1) || decide (1000000 < n)) = true := c0
    simp only [Bool.or_eq_true, decide_eq_true_eq, or_assoc] at c0'
    repeat' (first
      | with_reducible refine pN ?_
      | with_reducible refine cN ?_
      | with_reducible refine bN ?_
      | with_reducible refine cE ?_
      | with_reducible refine cR ?_
      | with_reducible refine bR ?_
      | with_reducible refine lE ?_
      | with_reducible refine lR ?_
      | with_reducible refine jE ?_
      | with_reducible refine jR ?_
      | refine bE rfl ?_
      | refine bP rfl ?_
      | refine pC (by first | exact True.intro | omega | (intros; first | exact True.intro | omega) | (simp only [List.length_cons, List.length_nil, Int.toNat_natCast]; omega) | (simp only [hX]; omega)) ?_
      | refine seqI rfl ?_
      | refine regI rfl ?_
      | refine scopeI rfl ?_
      | refine blockI rfl ?_
      | refine exitI rfl ?_
      | refine retI rfl ?_
      | refine skipI rfl ?_)
    refine endR rfl ?_
    repeat' (first | exact trivial | exact rfl | refine ⟨rfl, ?_⟩ | refine And.intro ?_ ?_)
    all_goals
      unfold refFirstF
      rw [if_pos c0']
  · have c0' : (decide (t < 0) || decide (60 ≤ t) || decide (n < 1) || decide (1000000 < n)) = false := c0
    simp only [Bool.or_eq_false_iff, decide_eq_false_iff_not] at c0'
    obtain ⟨⟨⟨h1, h2⟩, h3⟩, h4⟩ := c0'
    have e0 : refFirstF xs t f n = if 1000000 - n < foldR t n xs (max f 0) then (0, false) else (foldR t n xs (max f 0), true) := by
      unfold refFirstF
      rw [if_neg (by omega)]
    repeat' (first
      | with_reducible refine pN ?_
      | with_reducible refine cN ?_
      | with_reducible refine bN ?_
      | with_reducible refine cE ?_
      | with_reducible refine cR ?_
      | with_reducible refine bR ?_
      | with_reducible refine lE ?_
      | with_reducible refine lR ?_
      | with_reducible refine jE ?_
      | with_reducible refine jR ?_
      | refine bE rfl ?_
      | refine bP rfl ?_
      | refine pC (by first | exact True.intro | omega | (intros; first | exact True.intro | omega) | (simp only [List.length_cons, List.length_nil, Int.toNat_natCast]; omega) | (simp only [hX]; omega)) ?_
      | refine seqI rfl ?_
      | refine regI rfl ?_
      | refine scopeI rfl ?_
      | refine blockI rfl ?_
      | refine exitI rfl ?_
      | refine retI rfl ?_
      | refine skipI rfl ?_)
    have hmx : 0 ≤ max f 0 := Int.le_max_right _ _
    generalize max f 0 = f0 at *
    refine loopI (σ := Nat) (fun i => [(10, .int .i64 (foldR t n (xs.take i) f0)), (11, .int .i64 i)]) (fun i => []) (fun i => i ≤ xs.length) (fun i => xs.length - i) 0 rfl (fun _ => rfl) rfl ?_ ?_ ?_
    · exact Nat.zero_le _
    · repeat' (first | exact trivial | exact rfl | refine ⟨rfl, ?_⟩ | refine And.intro ?_ ?_)
    · intro i hi
      have hle := foldR_le t n (xs.take i) f0
      repeat' (first
        | with_reducible refine pN ?_
        | with_reducible refine cN ?_
        | with_reducible refine bN ?_
        | with_reducible refine cE ?_
        | with_reducible refine cR ?_
        | with_reducible refine bR ?_
        | with_reducible refine lE ?_
        | with_reducible refine lR ?_
        | with_reducible refine jE ?_
        | with_reducible refine jR ?_
        | refine bE rfl ?_
        | refine bP rfl ?_
        | refine pC (by first | exact True.intro | omega | (intros; first | exact True.intro | omega) | (simp only [List.length_cons, List.length_nil, Int.toNat_natCast]; omega) | (simp only [hX]; omega)) ?_
        | refine seqI rfl ?_
        | refine regI rfl ?_
        | refine scopeI rfl ?_
        | refine blockI rfl ?_
        | refine exitI rfl ?_
        | refine retI rfl ?_
        | refine skipI rfl ?_)
      refine condI rfl (fun c1 => ?_) (fun c1 => ?_)
      · have c1 : (i : Int) < (List.length (α := Bk.El) xs : Nat) := of_decide_eq_true c1
        have hin : ((i : Int)).toNat = i := by omega
        have hil : i < xs.length := by omega
        repeat' (first
          | with_reducible refine pN ?_
          | with_reducible refine cN ?_
          | with_reducible refine bN ?_
          | with_reducible refine cE ?_
          | with_reducible refine cR ?_
          | with_reducible refine bR ?_
          | with_reducible refine lE ?_
          | with_reducible refine lR ?_
          | with_reducible refine jE ?_
          | with_reducible refine jR ?_
          | refine bE rfl ?_
          | refine bP rfl ?_
          | refine pC (by first | exact True.intro | omega | (intros; first | exact True.intro | omega) | (simp only [List.length_cons, List.length_nil, Int.toNat_natCast]; omega) | first | (simp only [hX]; omega) | (simp only [decide_eq_true_eq, Bool.and_eq_true] at *; omega)) ?_
          | refine seqI rfl ?_
          | refine regI rfl ?_
          | refine scopeI rfl ?_
          | refine blockI rfl ?_
          | refine exitI rfl ?_
          | refine retI rfl ?_
          | refine skipI rfl ?_)
        refine condI rfl (fun c2 => ?_) (fun c2 => ?_)
        · have c2' : (decide ((getI xs Bk.dflt ((i : Int)).toNat).1 = t) && decide (foldR t n (xs.take i) f0 ≤ 1000000 - n) && decide ((getI xs Bk.dflt ((i : Int)).toNat).2.1 < foldR t n (xs.take i) f0 + n) && decide (foldR t n (xs.take i) f0 < (getI xs Bk.dflt ((i : Int)).toNat).2.2.1)) = true := c2
          simp only [hin, Bool.and_eq_true, decide_eq_true_eq, and_assoc] at c2'
          repeat' (first
            | with_reducible refine pN ?_
            | with_reducible refine cN ?_
            | with_reducible refine bN ?_
            | with_reducible refine cE ?_
            | with_reducible refine cR ?_
            | with_reducible refine bR ?_
            | with_reducible refine lE ?_
            | with_reducible refine lR ?_
            | with_reducible refine jE ?_
            | with_reducible refine jR ?_
            | refine bE rfl ?_
            | refine bP rfl ?_
            | refine pC (by first | exact True.intro | omega | (intros; first | exact True.intro | omega) | (simp only [List.length_cons, List.length_nil, Int.toNat_natCast]; omega) | (simp only [hX]; omega)) ?_
            | refine seqI rfl ?_
            | refine regI rfl ?_
            | refine scopeI rfl ?_
            | refine blockI rfl ?_
            | refine exitI rfl ?_
            | refine retI rfl ?_
            | refine skipI rfl ?_)
          refine roundI (i + 1) rfl ?_ ?_ ?_
          · show i + 1 ≤ xs.length
            omega
          · show xs.length - (i + 1) < xs.length - i
            omega
          · repeat' (first | exact trivial | with_reducible exact rfl | refine And.intro ?_ ?_)
            · rw [foldR_take hil]
              unfold stepR
              rw [if_pos c2', hin]
              rfl
            · rfl
        · have c2' : (decide ((getI xs Bk.dflt ((i : Int)).toNat).1 = t) && decide (foldR t n (xs.take i) f0 ≤ 1000000 - n) && decide ((getI xs Bk.dflt ((i : Int)).toNat).2.1 < foldR t n (xs.take i) f0 + n) && decide (foldR t n (xs.take i) f0 < (getI xs Bk.dflt ((i : Int)).toNat).2.2.1)) = false := c2
          rw [← Bool.not_eq_true] at c2'
          simp only [hin, Bool.and_eq_true, decide_eq_true_eq, and_assoc] at c2'
          repeat' (first
            | with_reducible refine pN ?_
            | with_reducible refine cN ?_
            | with_reducible refine bN ?_
            | with_reducible refine cE ?_
            | with_reducible refine cR ?_
            | with_reducible refine bR ?_
            | with_reducible refine lE ?_
            | with_reducible refine lR ?_
            | with_reducible refine jE ?_
            | with_reducible refine jR ?_
            | refine bE rfl ?_
            | refine bP rfl ?_
            | refine pC (by first | exact True.intro | omega | (intros; first | exact True.intro | omega) | (simp only [List.length_cons, List.length_nil, Int.toNat_natCast]; omega) | (simp only [hX]; omega)) ?_
            | refine seqI rfl ?_
            | refine regI rfl ?_
            | refine scopeI rfl ?_
            | refine blockI rfl ?_
            | refine exitI rfl ?_
            | refine retI rfl ?_
            | refine skipI rfl ?_)
          refine roundI (i + 1) rfl ?_ ?_ ?_
          · show i + 1 ≤ xs.length
            omega
          · show xs.length - (i + 1) < xs.length - i
            omega
          · repeat' (first | exact trivial | with_reducible exact rfl | refine And.intro ?_ ?_)
            · rw [foldR_take hil]
              unfold stepR
              rw [if_neg c2']
            · rfl
      · have c1 : ¬ (i : Int) < (List.length (α := Bk.El) xs : Nat) := of_decide_eq_false c1
        rw [List.take_of_length_le (i := i) (by omega)] at hle ⊢
        repeat' (first
          | with_reducible refine pN ?_
          | with_reducible refine cN ?_
          | with_reducible refine bN ?_
          | with_reducible refine cE ?_
          | with_reducible refine cR ?_
          | with_reducible refine bR ?_
          | with_reducible refine lE ?_
          | with_reducible refine lR ?_
          | with_reducible refine jE ?_
          | with_reducible refine jR ?_
          | refine bE rfl ?_
          | refine bP rfl ?_
          | refine pC (by first | exact True.intro | omega | (intros; first | exact True.intro | omega) | (simp only [List.length_cons, List.length_nil, Int.toNat_natCast]; omega) | (simp only [hX]; omega)) ?_
          | refine seqI rfl ?_
          | refine regI rfl ?_
          | refine scopeI rfl ?_
          | refine blockI rfl ?_
          | refine exitI rfl ?_
          | refine retI rfl ?_
          | refine skipI rfl ?_)
        refine condI rfl (fun c2 => ?_) (fun c2 => ?_)
        · simp only [decide_eq_true_eq] at c2
          repeat' (first
            | with_reducible refine pN ?_
            | with_reducible refine cN ?_
            | with_reducible refine bN ?_
            | with_reducible refine cE ?_
            | with_reducible refine cR ?_
            | with_reducible refine bR ?_
            | with_reducible refine lE ?_
            | with_reducible refine lR ?_
            | with_reducible refine jE ?_
            | with_reducible refine jR ?_
            | refine bE rfl ?_
            | refine bP rfl ?_
            | refine pC (by first | exact True.intro | omega | (intros; first | exact True.intro | omega) | (simp only [List.length_cons, List.length_nil, Int.toNat_natCast]; omega) | (simp only [hX]; omega)) ?_
            | refine seqI rfl ?_
            | refine regI rfl ?_
            | refine scopeI rfl ?_
            | refine blockI rfl ?_
            | refine exitI rfl ?_
            | refine retI rfl ?_
            | refine skipI rfl ?_)
          refine endR rfl ?_
          repeat' (first | exact trivial | exact rfl | refine ⟨rfl, ?_⟩ | refine And.intro ?_ ?_)
          all_goals rw [e0, if_pos c2]
        · simp only [decide_eq_false_iff_not] at c2
          repeat' (first
            | with_reducible refine pN ?_
            | with_reducible refine cN ?_
            | with_reducible refine bN ?_
            | with_reducible refine cE ?_
            | with_reducible refine cR ?_
            | with_reducible refine bR ?_
            | with_reducible refine lE ?_
            | with_reducible refine lR ?_
            | with_reducible refine jE ?_
            | with_reducible refine jR ?_
            | refine bE rfl ?_
            | refine bP rfl ?_
            | refine pC (by first | exact True.intro | omega | (intros; first | exact True.intro | omega) | (simp only [List.length_cons, List.length_nil, Int.toNat_natCast]; omega) | (simp only [hX]; omega)) ?_
            | refine seqI rfl ?_
            | refine regI rfl ?_
            | refine scopeI rfl ?_
            | refine blockI rfl ?_
            | refine exitI rfl ?_
            | refine retI rfl ?_
            | refine skipI rfl ?_)
          refine endR rfl ?_
          repeat' (first | exact trivial | exact rfl | refine ⟨rfl, ?_⟩ | refine And.intro ?_ ?_)
          all_goals rw [e0, if_neg c2]

/-! ### Book -/

/-- Ahead of a booking in the list. -/
def aheadB (b c : Bk.El) : Bool := decide (c.1 < b.1) || (decide (c.1 = b.1) && decide (c.2.1 < b.2.1))
def posR (xs : List Bk.El) (b : Bk.El) : Nat := (xs.takeWhile (aheadB b)).length
def freeR (xs : List Bk.El) (b : Bk.El) : Bool := validB b.1 b.2.1 b.2.2.1 b.2.2.2 && !xs.any (meetR b.1 b.2.1 b.2.2.1)
def bookR (xs : List Bk.El) (b : Bk.El) : List Bk.El := if freeR xs b = true then xs.take (posR xs b) ++ ([b] ++ xs.drop (posR xs b)) else xs
def errR (xs : List Bk.El) (b : Bk.El) : Int := if freeR xs b = true then 0 else 70

def refBookS : Spec := ⟨true, fun args rows => match args, rows with
  | [.ptr 0 0, .agg [.int .i64 t, .int .i64 s, .int .i64 e, .int .i64 o]], [.box [.own 1], .seq (.pair (.int .i64) (.pair (.int .i64) (.pair (.int .i64) (.int .i64)))) xs] =>
    some ⟨List.length (α := Bk.El) xs ≤ 100000, .int .i64 (errR xs (t, s, e, o)), [.box [.own 2], .dead, .seq Bk (bookR xs (t, s, e, o))], true⟩
  | _, _ => none⟩

theorem ahead_takeWhile {b : Bk.El} {xs : List Bk.El} {k : Nat} (hk : k ≤ xs.length) (h : ∀ j, j < k → aheadB b (getI xs Bk.dflt j) = true) (he : k < xs.length → aheadB b (getI xs Bk.dflt k) = false) : posR xs b = k := by
  unfold posR
  induction xs generalizing k with
  | nil => simp at hk; subst hk; rfl
  | cons x xs ih =>
    cases k with
    | zero =>
      have : aheadB b x = false := he (by simp)
      rw [List.takeWhile_cons_of_neg (by rw [this]; simp)]; rfl
    | succ k =>
      have h0 : aheadB b x = true := h 0 (by omega)
      rw [List.takeWhile_cons_of_pos h0, List.length_cons, ih (k := k) (by simpa using hk) (fun j hj => h (j + 1) (by omega)) (fun hk' => he (by simpa using hk'))]

def sigRBook : List (Nat × Spec) := [(45, validS), (46, refBusyS)]
theorem sigRBookOk : SigOk Try.prog (look sigRBook) := sigCons (sigCons sigNil Try.func46 (by kernel_rfl) (c := body Try.f46) rfl refBusyOk)
  Try.func45 (by kernel_rfl) (c := body Try.f45) rfl validRefOk

theorem refBookOk : SpecSound Try.prog 15 refBookS := by
  refine soundR (envOf sigRBookOk) Try.func15 (c := body Try.f15) rfl (by kernel_rfl) rfl ?_
  intro args rows out hf hpre
  split at hf <;> try (cases hf; done)
  rename_i t s e o xs
  cases hf
  refine ⟨Nat.le_of_ble_eq_true rfl, initI (args := [.ptr 0 0, .agg [.int .i64 t, .int .i64 s, .int .i64 e, .int .i64 o]]) (rows := [.box [.own 1], .seq Bk xs]) rfl ?_⟩
  have hxs : List.length (α := Bk.El) xs ≤ 100000 := hpre
  have hxs' : List.length (α := Bk.El) xs ≤ 1000000 := by omega
  repeat' (first
    | with_reducible refine pN ?_
    | with_reducible refine cN ?_
    | with_reducible refine bN ?_
    | with_reducible refine cE ?_
    | with_reducible refine cR ?_
    | with_reducible refine bR ?_
    | with_reducible refine lE ?_
    | with_reducible refine lR ?_
    | with_reducible refine jE ?_
    | with_reducible refine jR ?_
    | refine bE rfl ?_
    | refine bP rfl ?_
    | refine pC (by first | exact True.intro | omega | (intros; first | exact True.intro | omega) | (simp only [List.length_cons, List.length_nil, Int.toNat_natCast]; omega) | first | exact hxs' | exact fun _ => hxs') ?_
    | refine seqI rfl ?_
    | refine regI rfl ?_
    | refine scopeI rfl ?_
    | refine blockI rfl ?_
    | refine exitI rfl ?_
    | refine retI rfl ?_
    | refine skipI rfl ?_)
  refine condI rfl (fun c1 => ?_) (fun c1 => ?_)
  · have c1' : (!validB t s e o || List.any (α := Bk.El) xs (meetR t s e)) = true := c1
    have hno : freeR xs (t, s, e, o) = false := by
      unfold freeR
      show (validB t s e o && !List.any (α := Bk.El) xs (meetR t s e)) = false
      revert c1'
      cases validB t s e o <;> cases List.any (α := Bk.El) xs (meetR t s e) <;> simp
    refine renameI 100001 3000 rfl ?_
    repeat' (first
      | with_reducible refine pN ?_
      | with_reducible refine cN ?_
      | with_reducible refine bN ?_
      | with_reducible refine cE ?_
      | with_reducible refine cR ?_
      | with_reducible refine bR ?_
      | with_reducible refine lE ?_
      | with_reducible refine lR ?_
      | with_reducible refine jE ?_
      | with_reducible refine jR ?_
      | refine bE rfl ?_
      | refine bP rfl ?_
      | refine pC (by first | exact True.intro | omega | (intros; first | exact True.intro | omega) | (simp only [List.length_cons, List.length_nil, Int.toNat_natCast]; omega)) ?_
      | refine seqI rfl ?_
      | refine regI rfl ?_
      | refine scopeI rfl ?_
      | refine blockI rfl ?_
      | refine exitI rfl ?_
      | refine retI rfl ?_
      | refine skipI rfl ?_)
    refine endR rfl ?_
    repeat' (first | exact trivial | exact rfl | refine ⟨rfl, ?_⟩ | refine And.intro ?_ ?_)
    · unfold errR
      rw [hno]; rfl
    · unfold bookR
      rw [hno]; rfl
  · have c1' : (!validB t s e o || List.any (α := Bk.El) xs (meetR t s e)) = false := c1
    have hyes : freeR xs (t, s, e, o) = true := by
      unfold freeR
      show (validB t s e o && !List.any (α := Bk.El) xs (meetR t s e)) = true
      revert c1'
      cases validB t s e o <;> cases List.any (α := Bk.El) xs (meetR t s e) <;> simp
    repeat' (first
      | with_reducible refine pN ?_
      | with_reducible refine cN ?_
      | with_reducible refine bN ?_
      | with_reducible refine cE ?_
      | with_reducible refine cR ?_
      | with_reducible refine bR ?_
      | with_reducible refine lE ?_
      | with_reducible refine lR ?_
      | with_reducible refine jE ?_
      | with_reducible refine jR ?_
      | refine bE rfl ?_
      | refine bP rfl ?_
      | refine pC (by first | exact True.intro | omega | (intros; first | exact True.intro | omega) | (simp only [List.length_cons, List.length_nil, Int.toNat_natCast]; omega)) ?_
      | refine seqI rfl ?_
      | refine regI rfl ?_
      | refine scopeI rfl ?_
      | refine blockI rfl ?_
      | refine exitI rfl ?_
      | refine retI rfl ?_
      | refine skipI rfl ?_)
    refine loopI (σ := Nat) (fun k => [(5, .int .i64 k)]) (fun k => []) (fun k => k ≤ List.length (α := Bk.El) xs ∧ ∀ j, j < k → aheadB (t, s, e, o) (getI xs Bk.dflt j) = true) (fun k => List.length (α := Bk.El) xs - k) 0 rfl (fun _ => rfl) rfl ?_ ?_ ?_
    · exact ⟨Nat.zero_le _, fun j hj => by omega⟩
    · repeat' (first | exact trivial | exact rfl | refine ⟨rfl, ?_⟩ | refine And.intro ?_ ?_)
    · rintro k ⟨hk, hA⟩
      have hkn : ((k : Int)).toNat = k := by omega
      repeat' (first
        | with_reducible refine pN ?_
        | with_reducible refine cN ?_
        | with_reducible refine bN ?_
        | with_reducible refine cE ?_
        | with_reducible refine cR ?_
        | with_reducible refine bR ?_
        | with_reducible refine lE ?_
        | with_reducible refine lR ?_
        | with_reducible refine jE ?_
        | with_reducible refine jR ?_
        | refine bE rfl ?_
        | refine bP rfl ?_
        | refine pC (by first | exact True.intro | omega | (intros; first | exact True.intro | omega) | (simp only [List.length_cons, List.length_nil, Int.toNat_natCast]; omega) | (simp only [decide_eq_true_eq] at *; omega)) ?_
        | refine seqI rfl ?_
        | refine regI rfl ?_
        | refine scopeI rfl ?_
        | refine blockI rfl ?_
        | refine exitI rfl ?_
        | refine retI rfl ?_
        | refine skipI rfl ?_)
      refine condI rfl (fun c2 => ?_) (fun c2 => ?_)
      · have c2' : (decide ((k : Int) < (List.length (α := Bk.El) xs : Nat)) && aheadB (t, s, e, o) (getI xs Bk.dflt ((k : Int)).toNat)) = true := c2
        rw [Bool.and_eq_true, decide_eq_true_eq, hkn] at c2'
        obtain ⟨c2', c3⟩ := c2'
        repeat' (first
          | with_reducible refine pN ?_
          | with_reducible refine cN ?_
          | with_reducible refine bN ?_
          | with_reducible refine cE ?_
          | with_reducible refine cR ?_
          | with_reducible refine bR ?_
          | with_reducible refine lE ?_
          | with_reducible refine lR ?_
          | with_reducible refine jE ?_
          | with_reducible refine jR ?_
          | refine bE rfl ?_
          | refine bP rfl ?_
          | refine pC (by first | exact True.intro | omega | (intros; first | exact True.intro | omega) | (simp only [List.length_cons, List.length_nil, Int.toNat_natCast]; omega)) ?_
          | refine seqI rfl ?_
          | refine regI rfl ?_
          | refine scopeI rfl ?_
          | refine blockI rfl ?_
          | refine exitI rfl ?_
          | refine retI rfl ?_
          | refine skipI rfl ?_)
        refine roundI (k + 1) rfl ?_ ?_ ?_
        · refine ⟨by omega, fun j hj => ?_⟩
          rcases Nat.lt_or_ge j k with h | h
          · exact hA j h
          · rw [show j = k by omega]; exact c3
        · show List.length (α := Bk.El) xs - (k + 1) < List.length (α := Bk.El) xs - k
          omega
        · repeat' (first | exact trivial | exact rfl | refine ⟨rfl, ?_⟩ | refine And.intro ?_ ?_)
      · have c2' : (decide ((k : Int) < (List.length (α := Bk.El) xs : Nat)) && aheadB (t, s, e, o) (getI xs Bk.dflt ((k : Int)).toNat)) = false := c2
        rw [← Bool.not_eq_true, Bool.and_eq_true, decide_eq_true_eq, hkn] at c2'
        have hpos : posR xs (t, s, e, o) = k := ahead_takeWhile hk hA fun h => by
          rw [← Bool.not_eq_true]
          exact fun h2 => c2' ⟨by omega, h2⟩
        repeat' (first | with_reducible refine cE ?_ | with_reducible refine cN ?_ | refine exitI rfl ?_ | with_reducible refine lE ?_ | refine bE rfl ?_ | refine seqI rfl ?_)
        refine freezeI 100001 rfl ?_
        have hd : (List.drop k xs).length ≤ List.length (α := Bk.El) xs := by rw [List.length_drop]; omega
        repeat' (first
          | with_reducible refine pN ?_
          | with_reducible refine cN ?_
          | with_reducible refine bN ?_
          | with_reducible refine cE ?_
          | with_reducible refine cR ?_
          | with_reducible refine bR ?_
          | with_reducible refine lE ?_
          | with_reducible refine lR ?_
          | with_reducible refine jE ?_
          | with_reducible refine jR ?_
          | refine bE rfl ?_
          | refine bP rfl ?_
          | refine pC (by first | exact True.intro | omega | (intros; first | exact True.intro | omega) | (simp only [List.length_cons, List.length_nil, Int.toNat_natCast]; omega) | first | (simp only [List.length_take, List.length_drop, List.length_append, List.length_cons, List.length_nil, hkn, List.drop_zero]; omega)) ?_
          | refine seqI rfl ?_
          | refine regI rfl ?_
          | refine scopeI rfl ?_
          | refine blockI rfl ?_
          | refine exitI rfl ?_
          | refine retI rfl ?_
          | refine skipI rfl ?_)
        refine endR rfl ?_
        repeat' (first | exact trivial | exact rfl | refine ⟨rfl, ?_⟩ | refine And.intro ?_ ?_)
        · unfold errR
          rw [hyes]; rfl
        · unfold bookR
          rw [if_pos hyes, hpos]
          simp [hkn]
end Go.AM.Ytkacoophnfljcaa
