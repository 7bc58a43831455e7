/- The calendar: Book. -/
import Derived.Test.YtkacoophnfljcaaCaB
import Derived.Test.YtkacoophnfljcaaCaIns2
set_option linter.all false
namespace Go.AM.Ytkacoophnfljcaa
open Go.Proofs
set_option maxRecDepth 100000
set_option maxHeartbeats 4000000

/-! ### BinarySearchFunc -/

def startB (b : Bk.El) : Int := b.2.1

/-- In ascending order of starts. -/
def SortedB (xs : List Bk.El) : Prop := ∀ i j, i < j → j < xs.length → startB (getI xs Bk.dflt i) ≤ startB (getI xs Bk.dflt j)

/-- How many bookings start ahead of s. -/
def posF (xs : List Bk.El) (s : Int) : Nat := (xs.takeWhile fun b => decide (startB b < s)).length

theorem posF_eq {s : Int} : ∀ {xs : List Bk.El} {i : Nat}, i ≤ xs.length → (∀ k, k < i → startB (getI xs Bk.dflt k) < s) → (i < xs.length → s ≤ startB (getI xs Bk.dflt i)) → posF xs s = i
  | [], i, h, _, _ => by simp at h; subst h; rfl
  | x :: xs, 0, _, _, h => by
    have h0 : s ≤ startB x := h (by simp)
    unfold posF
    rw [List.takeWhile_cons_of_neg (by simp; omega)]; rfl
  | x :: xs, i + 1, hi, hl, h => by
    have h0 : startB x < s := hl 0 (by omega)
    have := posF_eq (xs := xs) (i := i) (by simpa using hi) (fun k hk => hl (k + 1) (by omega)) (fun hi => h (by simpa using hi))
    unfold posF at this ⊢
    rw [List.takeWhile_cons_of_pos (by simpa using h0)]
    simp [this]

def foundF (xs : List Bk.El) (s : Int) : Bool := decide ((posF xs s : Int) < xs.length) && decide (cmpI (startB (getI xs Bk.dflt (posF xs s))) s = 0)

theorem half_u (n : Int) (h : 0 ≤ n) (k : n < 9223372036854775808) : IntKind.wrap .i64 ((IntKind.wrap .u64 n).fdiv (2 ^ (min (1 : Int).toNat IntKind.u64.bits))) = n / 2 := by
  have h1 : IntKind.wrap .u64 n = n := by simp [IntKind.wrap, IntKind.signed, IntKind.bits]; omega
  have h2 : (2 : Int) ^ (min (1 : Int).toNat IntKind.u64.bits) = 2 := by simp [IntKind.bits]
  rw [h1, h2, Int.fdiv_eq_ediv_of_nonneg _ (by omega)]
  exact wrapId (by omega) (by omega)

def sigBy : List (Nat × Spec) := [(64, byS)]
theorem sigByOk : SigOk Try.prog (look sigBy) := sigCons sigNil Try.func64 (by kernel_rfl) (c := body Try.f64) rfl byOk

def binS : Spec := plain fun
  | [.sl (.pair (.int .i64) (.pair (.int .i64) (.pair (.int .i64) (.int .i64)))) xs, .agg [.int .i64 tl, .int .i64 s, .int .i64 e, .int .i64 o], .fn 64 [] []] =>
    outV (SortedB xs ∧ xs.length ≤ 1000000000) (.tup [.int .i64 (posF xs s), .bool (foundF xs s)])
  | _ => none

theorem cmpI_neg {a b : Int} : cmpI a b < 0 ↔ a < b := by
  unfold cmpI
  split
  · simp; assumption
  · split <;> simp <;> omega

theorem binOk : SpecSound Try.prog 85 binS := by
  refine soundP (envOf sigByOk) Try.func85 (c := body Try.f85) rfl (by kernel_rfl) rfl ?_
  intro args out hf hpre
  split at hf <;> try (cases hf; done)
  rename_i xs tl s e o
  cases hf
  refine ⟨Nat.le_of_ble_eq_true rfl, initI (args := [.sl Bk xs, .agg [.int .i64 tl, .int .i64 s, .int .i64 e, .int .i64 o], .fn 64 [] []]) rfl ?_⟩
  obtain ⟨hso, hlen⟩ := hpre
  repeat' (first
    | with_reducible refine pN ?_
    | with_reducible refine cN ?_
    | with_reducible refine bN ?_
    | with_reducible refine cE ?_
    | with_reducible refine cR ?_
    | with_reducible refine bR ?_
    | with_reducible refine lE ?_
    | with_reducible refine lR ?_
    | with_reducible refine jE ?_
    | with_reducible refine jR ?_
    | refine bE rfl ?_
    | refine bP rfl ?_
    | refine pC (by first | exact True.intro | omega | (intros; first | exact True.intro | omega) | (simp only [List.length_cons, List.length_nil, Int.toNat_natCast]; omega)) ?_
    | refine seqI rfl ?_
    | refine regI rfl ?_
    | refine scopeI rfl ?_
    | refine blockI rfl ?_
    | refine exitI rfl ?_
    | refine retI rfl ?_
    | refine skipI rfl ?_)
  refine loopI (σ := Nat × Nat) (fun p => [(9, .int .i64 p.1), (10, .int .i64 p.2)]) (fun p => []) (fun p => p.1 ≤ p.2 ∧ p.2 ≤ xs.length ∧ (∀ k, k < p.1 → startB (getI xs Bk.dflt k) < s) ∧ (p.2 < xs.length → s ≤ startB (getI xs Bk.dflt p.2))) (fun p => p.2 - p.1) (0, xs.length) rfl (fun _ => rfl) rfl ?_ ?_ ?_
  · exact ⟨Nat.zero_le _, Nat.le_refl _, fun k hk => by omega, fun h => by omega⟩
  · repeat' (first | exact trivial | exact rfl | refine ⟨rfl, ?_⟩ | refine And.intro ?_ ?_)
  · rintro ⟨i, j⟩ ⟨h1, h2, h3, h4⟩
    simp only at h1 h2 h3 h4
    repeat' (first
      | with_reducible refine pN ?_
      | with_reducible refine cN ?_
      | with_reducible refine bN ?_
      | with_reducible refine cE ?_
      | with_reducible refine cR ?_
      | with_reducible refine bR ?_
      | with_reducible refine lE ?_
      | with_reducible refine lR ?_
      | with_reducible refine jE ?_
      | with_reducible refine jR ?_
      | refine bE rfl ?_
      | refine bP rfl ?_
      | refine pC (by first | exact True.intro | omega | (intros; first | exact True.intro | omega) | (simp only [List.length_cons, List.length_nil, Int.toNat_natCast]; omega)) ?_
      | refine seqI rfl ?_
      | refine regI rfl ?_
      | refine scopeI rfl ?_
      | refine blockI rfl ?_
      | refine exitI rfl ?_
      | refine retI rfl ?_
      | refine skipI rfl ?_)
    refine condI rfl (fun c1 => ?_) (fun c1 => ?_)
    · simp only [decide_eq_true_eq] at c1
      have hij : i < j := by omega
      refine skipI rfl ?_
      with_reducible refine cN ?_
      refine blockI rfl ?_
      refine seqI rfl ?_
      refine regI rfl ?_
      repeat' (first | with_reducible refine pN ?_ | refine pC (by first | exact True.intro | omega | (intros; first | exact True.intro | omega) | (simp only [List.length_cons, List.length_nil, Int.toNat_natCast]; omega)) ?_)
      with_reducible refine cN ?_
      have hm : ((i + j) / 2 : Nat) < j ∧ i ≤ (i + j) / 2 := by omega
      refine tidyI [(11, .int .i64 (((i + j) / 2 : Nat) : Int))] [] rfl rfl ?_ ?_
      · repeat' (first | exact trivial | exact rfl | refine ⟨rfl, ?_⟩ | refine And.intro ?_ ?_)
        exact ((half_u ((i : Int) + (j : Int)) (by omega) (by omega)).trans (by omega)).symm
      generalize hmm : (i + j) / 2 = mid at hm
      have ht : ((mid : Int)).toNat = mid := by omega
      repeat' (first
        | with_reducible refine pN ?_
        | with_reducible refine cN ?_
        | with_reducible refine bN ?_
        | with_reducible refine cE ?_
        | with_reducible refine cR ?_
        | with_reducible refine bR ?_
        | with_reducible refine lE ?_
        | with_reducible refine lR ?_
        | with_reducible refine jE ?_
        | with_reducible refine jR ?_
        | refine bE rfl ?_
        | refine bP rfl ?_
        | refine pC (by first | exact True.intro | omega | (intros; first | exact True.intro | omega) | (simp only [List.length_cons, List.length_nil, Int.toNat_natCast]; omega)) ?_
        | refine seqI rfl ?_
        | refine regI rfl ?_
        | refine scopeI rfl ?_
        | refine blockI rfl ?_
        | refine exitI rfl ?_
        | refine retI rfl ?_
        | refine skipI rfl ?_)
      refine condI rfl (fun c2 => ?_) (fun c2 => ?_)
      · simp only [decide_eq_true_eq, cmpI_neg, ht] at c2
        repeat' (first
          | with_reducible refine pN ?_
          | with_reducible refine cN ?_
          | with_reducible refine bN ?_
          | with_reducible refine cE ?_
          | with_reducible refine cR ?_
          | with_reducible refine bR ?_
          | with_reducible refine lE ?_
          | with_reducible refine lR ?_
          | with_reducible refine jE ?_
          | with_reducible refine jR ?_
          | refine bE rfl ?_
          | refine bP rfl ?_
          | refine pC (by first | exact True.intro | omega | (intros; first | exact True.intro | omega) | (simp only [List.length_cons, List.length_nil, Int.toNat_natCast]; omega)) ?_
          | refine seqI rfl ?_
          | refine regI rfl ?_
          | refine scopeI rfl ?_
          | refine blockI rfl ?_
          | refine exitI rfl ?_
          | refine retI rfl ?_
          | refine skipI rfl ?_)
        refine roundI (mid + 1, j) rfl ?_ ?_ ?_
        · refine ⟨by show mid + 1 ≤ j; omega, h2, fun k hk => ?_, h4⟩
          have hk : k < mid + 1 := hk
          rcases Nat.lt_or_ge k mid with h | h
          · exact Int.lt_of_le_of_lt (hso k mid h (by omega)) c2
          · obtain rfl : k = mid := by omega
            exact c2
        · show j - (mid + 1) < j - i
          omega
        · repeat' (first | exact trivial | exact rfl | refine ⟨rfl, ?_⟩ | refine And.intro ?_ ?_)
      · simp only [decide_eq_false_iff_not, cmpI_neg, ht] at c2
        repeat' (first
          | with_reducible refine pN ?_
          | with_reducible refine cN ?_
          | with_reducible refine bN ?_
          | with_reducible refine cE ?_
          | with_reducible refine cR ?_
          | with_reducible refine bR ?_
          | with_reducible refine lE ?_
          | with_reducible refine lR ?_
          | with_reducible refine jE ?_
          | with_reducible refine jR ?_
          | refine bE rfl ?_
          | refine bP rfl ?_
          | refine pC (by first | exact True.intro | omega | (intros; first | exact True.intro | omega) | (simp only [List.length_cons, List.length_nil, Int.toNat_natCast]; omega)) ?_
          | refine seqI rfl ?_
          | refine regI rfl ?_
          | refine scopeI rfl ?_
          | refine blockI rfl ?_
          | refine exitI rfl ?_
          | refine retI rfl ?_
          | refine skipI rfl ?_)
        refine roundI (i, mid) rfl ?_ ?_ ?_
        · exact ⟨hm.2, by show mid ≤ xs.length; omega, h3, fun _ => by show s ≤ startB (getI xs Bk.dflt mid); unfold startB; omega⟩
        · show mid - i < j - i
          omega
        · repeat' (first | exact trivial | exact rfl | refine ⟨rfl, ?_⟩ | refine And.intro ?_ ?_)
    · simp only [decide_eq_false_iff_not] at c1
      have hij : i = j := by omega
      repeat' (first
        | with_reducible refine pN ?_
        | with_reducible refine cN ?_
        | with_reducible refine bN ?_
        | with_reducible refine cE ?_
        | with_reducible refine cR ?_
        | with_reducible refine bR ?_
        | with_reducible refine lE ?_
        | with_reducible refine lR ?_
        | with_reducible refine jE ?_
        | with_reducible refine jR ?_
        | refine bE rfl ?_
        | refine bP rfl ?_
        | refine pC (by first | exact True.intro | omega | (intros; first | exact True.intro | omega) | (simp only [List.length_cons, List.length_nil, Int.toNat_natCast]; omega) | first | exact fun h => (by simpa using h) | exact fun _ => trivial) ?_
        | refine seqI rfl ?_
        | refine regI rfl ?_
        | refine scopeI rfl ?_
        | refine blockI rfl ?_
        | refine exitI rfl ?_
        | refine retI rfl ?_
        | refine skipI rfl ?_)
      have hp := posF_eq (by omega) h3 (by intro h; rw [hij]; exact h4 (by omega))
      refine endR rfl ?_
      repeat' (first | exact trivial | exact rfl | refine ⟨rfl, ?_⟩ | refine And.intro ?_ ?_)
      · rw [hp]
      · unfold foundF
        rw [hp]
        rfl

/-! ### inserted -/

def sigIns : List (Nat × Spec) := [(85, binS), (86, insS)]
theorem sigInsOk : SigOk Try.prog (look sigIns) := sigCons (sigCons sigNil Try.func86 (by kernel_rfl) (c := body Try.f86) rfl insOk)
  Try.func85 (by kernel_rfl) (c := body Try.f85) rfl binOk

/-- A list in ascending order of starts, with a further booking. -/
def addF (xs : List Bk.El) (b : Bk.El) : List Bk.El := insF xs [b] (posF xs (startB b))

theorem posF_le (xs : List Bk.El) (s : Int) : posF xs s ≤ xs.length := (List.takeWhile_sublist _).length_le

def insertedS : Spec := ⟨true, fun args rows => match args, rows with
  | [.own 0, .agg [.int .i64 tl, .int .i64 s, .int .i64 e, .int .i64 o], .fn 64 [] []], [.seq (.pair (.int .i64) (.pair (.int .i64) (.pair (.int .i64) (.int .i64)))) xs] =>
    some ⟨SortedB xs ∧ xs.length ≤ 1000000000, .own 1, [.dead, .seq Bk (addF xs (tl, s, e, o))], true⟩
  | _, _ => none⟩
theorem insertedOk : SpecSound Try.prog 63 insertedS := by
  refine soundR (envOf sigInsOk) Try.func63 (c := body Try.f63) rfl (by kernel_rfl) rfl ?_
  intro args rows out hf hpre
  split at hf <;> try (cases hf; done)
  rename_i tl s e o xs
  cases hf
  refine ⟨Nat.le_of_ble_eq_true rfl, initI (args := [.own 0, .agg [.int .i64 tl, .int .i64 s, .int .i64 e, .int .i64 o], .fn 64 [] []]) (rows := [.seq Bk xs]) rfl ?_⟩
  obtain ⟨hso, hlen⟩ := hpre
  have hp := posF_le xs s
  repeat' (first
    | with_reducible refine pN ?_
    | with_reducible refine cN ?_
    | with_reducible refine bN ?_
    | with_reducible refine cE ?_
    | with_reducible refine cR ?_
    | with_reducible refine bR ?_
    | with_reducible refine lE ?_
    | with_reducible refine lR ?_
    | with_reducible refine jE ?_
    | with_reducible refine jR ?_
    | refine bE rfl ?_
    | refine bP rfl ?_
    | refine pC (by first | exact True.intro | omega | (intros; first | exact True.intro | omega) | (simp only [List.length_cons, List.length_nil, Int.toNat_natCast]; omega) | first | exact ⟨hso, hlen⟩ | exact ⟨by omega, by omega, by simp, by simp; omega⟩) ?_
    | refine seqI rfl ?_
    | refine regI rfl ?_
    | refine scopeI rfl ?_
    | refine blockI rfl ?_
    | refine exitI rfl ?_
    | refine retI rfl ?_
    | refine skipI rfl ?_)
  refine endR rfl ?_
  repeat' (first | exact trivial | exact rfl | refine ⟨rfl, ?_⟩ | refine And.intro ?_ ?_)

/-! ### Book -/

def sigBook : List (Nat × Spec) := [(62, validS), (32, busyS), (63, insertedS)]
theorem sigBookOk : SigOk Try.prog (look sigBook) := sigCons (sigCons (sigCons sigNil Try.func63 (by kernel_rfl) (c := body Try.f63) rfl insertedOk)
  Try.func32 (by kernel_rfl) (c := body Try.f32) rfl busyOk)
  Try.func62 (by kernel_rfl) (c := body Try.f62) rfl validOk

/-- A booking can be made. -/
def freeF (xss : List (List Bk.El)) (b : Bk.El) : Bool := validB b.1 b.2.1 b.2.2.1 b.2.2.2 && !busyF xss b.1 b.2.1 b.2.2.1

def bookF (xss : List (List Bk.El)) (b : Bk.El) : List (List Bk.El) := if freeF xss b = true then xss.set b.1.toNat (addF (toolL xss b.1) b) else xss

def errF (xss : List (List Bk.El)) (b : Bk.El) : Int := if freeF xss b = true then 0 else 70

/-- All lists in ascending order of starts. -/
def CalS (xss : List (List Bk.El)) : Prop := ∀ xs ∈ xss, SortedB xs

def bookS : Spec := ⟨true, fun args rows => match args, rows with
  | [.nilptr, .agg [.int .i64 tl, .int .i64 s, .int .i64 e, .int .i64 o]], [] => some ⟨True, .int .i64 1, [], true⟩
  | [.ptr 0 0, .agg [.int .i64 tl, .int .i64 s, .int .i64 e, .int .i64 o]], [.arr (.pair (.int .i64) (.pair (.int .i64) (.pair (.int .i64) (.int .i64)))) xss none] =>
    some ⟨Cal xss ∧ CalS xss, .int .i64 (errF xss (tl, s, e, o)), [.arr Bk (bookF xss (tl, s, e, o)) none], true⟩
  | _, _ => none⟩

theorem bookOk : SpecSound Try.prog 34 bookS := by
  refine soundR (envOf sigBookOk) Try.func34 (c := body Try.f34) rfl (by kernel_rfl) rfl ?_
  intro args rows out hf hpre
  split at hf <;> try (cases hf; done)
  · rename_i tl s e o
    cases hf
    refine ⟨Nat.le_of_ble_eq_true rfl, initI rfl ?_⟩
    repeat' (first
      | with_reducible refine pN ?_
      | with_reducible refine cN ?_
      | with_reducible refine bN ?_
      | with_reducible refine cE ?_
      | with_reducible refine cR ?_
      | with_reducible refine bR ?_
      | with_reducible refine lE ?_
      | with_reducible refine lR ?_
      | with_reducible refine jE ?_
      | with_reducible refine jR ?_
      | refine bE rfl ?_
      | refine bP rfl ?_
      | refine pC (by first | exact True.intro | omega | (intros; first | exact True.intro | omega) | (simp only [List.length_cons, List.length_nil, Int.toNat_natCast]; omega)) ?_
      | refine seqI rfl ?_
      | refine regI rfl ?_
      | refine scopeI rfl ?_
      | refine blockI rfl ?_
      | refine exitI rfl ?_
      | refine retI rfl ?_
      | refine skipI rfl ?_)
    refine condT rfl ?_
    repeat' (first
      | with_reducible refine pN ?_
      | with_reducible refine cN ?_
      | with_reducible refine bN ?_
      | with_reducible refine cE ?_
      | with_reducible refine cR ?_
      | with_reducible refine bR ?_
      | with_reducible refine lE ?_
      | with_reducible refine lR ?_
      | with_reducible refine jE ?_
      | with_reducible refine jR ?_
      | refine bE rfl ?_
      | refine bP rfl ?_
      | refine pC (by first | exact True.intro | omega | (intros; first | exact True.intro | omega) | (simp only [List.length_cons, List.length_nil, Int.toNat_natCast]; omega)) ?_
      | refine seqI rfl ?_
      | refine regI rfl ?_
      | refine scopeI rfl ?_
      | refine blockI rfl ?_
      | refine exitI rfl ?_
      | refine retI rfl ?_
      | refine skipI rfl ?_)
    refine endR rfl ?_
    repeat' (first | exact trivial | exact rfl | refine ⟨rfl, ?_⟩ | refine And.intro ?_ ?_)
  · rename_i tl s e o xss
    cases hf
    obtain ⟨hcal, hso⟩ := hpre
    refine ⟨Nat.le_of_ble_eq_true rfl, initI (args := [.ptr 0 0, .agg [.int .i64 tl, .int .i64 s, .int .i64 e, .int .i64 o]]) (rows := [.arr Bk xss none]) rfl ?_⟩
    repeat' (first
      | with_reducible refine pN ?_
      | with_reducible refine cN ?_
      | with_reducible refine bN ?_
      | with_reducible refine cE ?_
      | with_reducible refine cR ?_
      | with_reducible refine bR ?_
      | with_reducible refine lE ?_
      | with_reducible refine lR ?_
      | with_reducible refine jE ?_
      | with_reducible refine jR ?_
      | refine bE rfl ?_
      | refine bP rfl ?_
      | refine pC (by first | exact True.intro | omega | (intros; first | exact True.intro | omega) | (simp only [List.length_cons, List.length_nil, Int.toNat_natCast]; omega)) ?_
      | refine seqI rfl ?_
      | refine regI rfl ?_
      | refine scopeI rfl ?_
      | refine blockI rfl ?_
      | refine exitI rfl ?_
      | refine retI rfl ?_
      | refine skipI rfl ?_)
    refine condF rfl ?_
    repeat' (first
      | with_reducible refine pN ?_
      | with_reducible refine cN ?_
      | with_reducible refine bN ?_
      | with_reducible refine cE ?_
      | with_reducible refine cR ?_
      | with_reducible refine bR ?_
      | with_reducible refine lE ?_
      | with_reducible refine lR ?_
      | with_reducible refine jE ?_
      | with_reducible refine jR ?_
      | refine bE rfl ?_
      | refine bP rfl ?_
      | refine pC (by first | exact True.intro | omega | (intros; first | exact True.intro | omega) | (simp only [List.length_cons, List.length_nil, Int.toNat_natCast]; omega) | first | exact hcal | exact fun _ => hcal) ?_
      | refine seqI rfl ?_
      | refine regI rfl ?_
      | refine scopeI rfl ?_
      | refine blockI rfl ?_
      | refine exitI rfl ?_
      | refine retI rfl ?_
      | refine skipI rfl ?_)
    refine condI rfl (fun c1 => ?_) (fun c1 => ?_)
    · repeat' (first
        | with_reducible refine pN ?_
        | with_reducible refine cN ?_
        | with_reducible refine bN ?_
        | with_reducible refine cE ?_
        | with_reducible refine cR ?_
        | with_reducible refine bR ?_
        | with_reducible refine lE ?_
        | with_reducible refine lR ?_
        | with_reducible refine jE ?_
        | with_reducible refine jR ?_
        | refine bE rfl ?_
        | refine bP rfl ?_
        | refine pC (by first | exact True.intro | omega | (intros; first | exact True.intro | omega) | (simp only [List.length_cons, List.length_nil, Int.toNat_natCast]; omega)) ?_
        | refine seqI rfl ?_
        | refine regI rfl ?_
        | refine scopeI rfl ?_
        | refine blockI rfl ?_
        | refine exitI rfl ?_
        | refine retI rfl ?_
        | refine skipI rfl ?_)
      refine endR rfl ?_
      repeat' (first | exact trivial | exact rfl | refine ⟨rfl, ?_⟩ | refine And.intro ?_ ?_)
      all_goals
        have hno : freeF xss (tl, s, e, o) = false := by
          unfold freeF
          show (validB tl s e o && !busyF xss tl s e) = false
          revert c1
          cases validB tl s e o <;> cases busyF xss tl s e <;> simp
      · unfold errF
        rw [hno]; rfl
      · unfold bookF
        rw [hno]; rfl
    · have hl := hcal.len
      obtain ⟨hv, hb⟩ : validB tl s e o = true ∧ busyF xss tl s e = false := by
        revert c1
        cases validB tl s e o <;> cases busyF xss tl s e <;> simp
      have htl : toolB tl = true := by
        revert hv
        unfold validB
        cases toolB tl <;> simp
      obtain ⟨h1, h2⟩ := toolB_true htl
      have h3 : tl.toNat < 60 := by omega
      have h4 := hcal.get h3
      have h5 : 0 + 0 + tl.toNat * 1 = tl.toNat := by omega
      repeat' (first
        | with_reducible refine pN ?_
        | with_reducible refine cN ?_
        | with_reducible refine bN ?_
        | with_reducible refine cE ?_
        | with_reducible refine cR ?_
        | with_reducible refine bR ?_
        | with_reducible refine lE ?_
        | with_reducible refine lR ?_
        | with_reducible refine jE ?_
        | with_reducible refine jR ?_
        | refine bE rfl ?_
        | refine bP rfl ?_
        | refine pC (by first | exact True.intro | omega | (intros; first | exact True.intro | omega) | (simp only [List.length_cons, List.length_nil, Int.toNat_natCast]; omega) | first | (rw [h5, hl]; omega) | (rw [h5]; exact ⟨hso _ h4.1, Nat.le_trans h4.2 (by omega)⟩) | exact rfl) ?_
        | refine seqI rfl ?_
        | refine regI rfl ?_
        | refine scopeI rfl ?_
        | refine blockI rfl ?_
        | refine exitI rfl ?_
        | refine retI rfl ?_
        | refine skipI rfl ?_)
      have hyes : freeF xss (tl, s, e, o) = true := by
        unfold freeF
        show (validB tl s e o && !busyF xss tl s e) = true
        rw [hv, hb]; rfl
      refine endR rfl ?_
      repeat' (first | exact trivial | exact rfl | refine ⟨rfl, ?_⟩ | refine And.intro ?_ ?_)
      · unfold errF
        rw [hyes]; rfl
      · unfold bookF
        rw [hyes, if_pos rfl, h5]; rfl
end Go.AM.Ytkacoophnfljcaa
