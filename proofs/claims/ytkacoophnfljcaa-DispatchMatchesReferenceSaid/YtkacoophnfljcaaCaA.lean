/- The calendar's small functions; the helpers of slices that only read. -/
import Derived.Test.YtkacoophnfljcaaCaBase
set_option linter.all false
namespace Go.AM.Ytkacoophnfljcaa
open Go.Proofs
set_option maxRecDepth 100000
set_option maxHeartbeats 4000000

/-! ### Tools, bookings, spans -/

def toolB (n : Int) : Bool := decide (0 ≤ n) && decide (n < 60)
def isToolS : Spec := plain fun
  | [.int .i64 n] => outV True (.bool (toolB n))
  | _ => none
theorem isToolOk : SpecSound Try.prog 58 isToolS := by
  refine soundP (envOf sigNil) Try.func58 (c := body Try.f58) rfl (by kernel_rfl) rfl ?_
  intro args out hf hpre
  split at hf <;> try (cases hf; done)
  rename_i n
  cases hf
  refine ⟨Nat.le_of_ble_eq_true rfl, initI rfl ?_⟩
  repeat' (first
    | with_reducible refine pN ?_
    | with_reducible refine cN ?_
    | with_reducible refine bN ?_
    | with_reducible refine cE ?_
    | with_reducible refine cR ?_
    | with_reducible refine bR ?_
    | with_reducible refine lE ?_
    | with_reducible refine lR ?_
    | with_reducible refine jE ?_
    | with_reducible refine jR ?_
    | refine bE rfl ?_
    | refine bP rfl ?_
    | refine pC (by first | exact True.intro | omega | (intros; first | exact True.intro | omega) | (simp only [List.length_cons, List.length_nil, Int.toNat_natCast]; omega)) ?_
    | refine seqI rfl ?_
    | refine regI rfl ?_
    | refine scopeI rfl ?_
    | refine blockI rfl ?_
    | refine exitI rfl ?_
    | refine retI rfl ?_
    | refine skipI rfl ?_)
  refine endR rfl ?_
  repeat' (first | exact trivial | exact rfl | refine ⟨rfl, ?_⟩ | refine And.intro ?_ ?_)
def sigTool : List (Nat × Spec) := [(58, isToolS)]
theorem sigToolOk : SigOk Try.prog (look sigTool) := sigCons sigNil Try.func58 (by kernel_rfl) (c := body Try.f58) rfl isToolOk

/-- A booking (tool, start, end, owner) is valid. -/
def validB (tl s e o : Int) : Bool := ((decide (0 ≤ s) && decide (s < e) && decide (e ≤ 1000000)) && toolB tl && decide (1 ≤ o)) && decide (o ≤ 1000000)
def validS : Spec := plain fun
  | [.agg [.int .i64 tl, .int .i64 s, .int .i64 e, .int .i64 o]] => outV True (.bool (validB tl s e o))
  | _ => none
theorem validOk : SpecSound Try.prog 62 validS := by
  refine soundP (envOf sigToolOk) Try.func62 (c := body Try.f62) rfl (by kernel_rfl) rfl ?_
  intro args out hf hpre
  split at hf <;> try (cases hf; done)
  rename_i tl s e o
  cases hf
  refine ⟨Nat.le_of_ble_eq_true rfl, initI rfl ?_⟩
  repeat' (first
    | with_reducible refine pN ?_
    | with_reducible refine cN ?_
    | with_reducible refine bN ?_
    | with_reducible refine cE ?_
    | with_reducible refine cR ?_
    | with_reducible refine bR ?_
    | with_reducible refine lE ?_
    | with_reducible refine lR ?_
    | with_reducible refine jE ?_
    | with_reducible refine jR ?_
    | refine bE rfl ?_
    | refine bP rfl ?_
    | refine pC (by first | exact True.intro | omega | (intros; first | exact True.intro | omega) | (simp only [List.length_cons, List.length_nil, Int.toNat_natCast]; omega)) ?_
    | refine seqI rfl ?_
    | refine regI rfl ?_
    | refine scopeI rfl ?_
    | refine blockI rfl ?_
    | refine exitI rfl ?_
    | refine retI rfl ?_
    | refine skipI rfl ?_)
  refine endR rfl ?_
  repeat' (first | exact trivial | exact rfl | refine ⟨rfl, ?_⟩ | refine And.intro ?_ ?_)
def validR (tl s e o : Int) : Bool := decide (0 ≤ tl) && decide (tl < 60) && decide (0 ≤ s) && decide (s < e) && decide (e ≤ 1000000) && decide (1 ≤ o) && decide (o ≤ 1000000)
theorem validR_eq (tl s e o : Int) : validR tl s e o = validB tl s e o := by
  unfold validR validB toolB
  cases decide (0 ≤ tl) <;> cases decide (tl < 60) <;> cases decide (0 ≤ s) <;> cases decide (s < e) <;> cases decide (e ≤ 1000000) <;> cases decide (1 ≤ o) <;> cases decide (o ≤ 1000000) <;> rfl
theorem validRefOk : SpecSound Try.prog 45 validS := by
  refine soundP (envOf sigNil) Try.func45 (c := body Try.f45) rfl (by kernel_rfl) rfl ?_
  intro args out hf hpre
  split at hf <;> try (cases hf; done)
  rename_i tl s e o
  cases hf
  refine ⟨Nat.le_of_ble_eq_true rfl, initI rfl ?_⟩
  repeat' (first
    | with_reducible refine pN ?_
    | with_reducible refine cN ?_
    | with_reducible refine bN ?_
    | with_reducible refine cE ?_
    | with_reducible refine cR ?_
    | with_reducible refine bR ?_
    | with_reducible refine lE ?_
    | with_reducible refine lR ?_
    | with_reducible refine jE ?_
    | with_reducible refine jR ?_
    | refine bE rfl ?_
    | refine bP rfl ?_
    | refine pC (by first | exact True.intro | omega | (intros; first | exact True.intro | omega) | (simp only [List.length_cons, List.length_nil, Int.toNat_natCast]; omega)) ?_
    | refine seqI rfl ?_
    | refine regI rfl ?_
    | refine scopeI rfl ?_
    | refine blockI rfl ?_
    | refine exitI rfl ?_
    | refine retI rfl ?_
    | refine skipI rfl ?_)
  refine endR rfl ?_
  repeat' (first | exact trivial | exact rfl | refine ⟨rfl, ?_⟩ | refine And.intro ?_ ?_)
  exact (validR_eq tl s e o).symm

/-- A booking meets a span. -/
def meetB (s e bs be : Int) : Bool := decide (bs < e) && decide (s < be)
def meetS : Spec := plain fun
  | [.agg [.int .i64 s, .int .i64 e], .agg [.int .i64 tl, .int .i64 bs, .int .i64 be, .int .i64 o]] => outV True (.bool (meetB s e bs be))
  | _ => none
theorem meetOk : SpecSound Try.prog 60 meetS := by
  refine soundP (envOf sigNil) Try.func60 (c := body Try.f60) rfl (by kernel_rfl) rfl ?_
  intro args out hf hpre
  split at hf <;> try (cases hf; done)
  rename_i s e tl bs be o
  cases hf
  refine ⟨Nat.le_of_ble_eq_true rfl, initI rfl ?_⟩
  repeat' (first
    | with_reducible refine pN ?_
    | with_reducible refine cN ?_
    | with_reducible refine bN ?_
    | with_reducible refine cE ?_
    | with_reducible refine cR ?_
    | with_reducible refine bR ?_
    | with_reducible refine lE ?_
    | with_reducible refine lR ?_
    | with_reducible refine jE ?_
    | with_reducible refine jR ?_
    | refine bE rfl ?_
    | refine bP rfl ?_
    | refine pC (by first | exact True.intro | omega | (intros; first | exact True.intro | omega) | (simp only [List.length_cons, List.length_nil, Int.toNat_natCast]; omega)) ?_
    | refine seqI rfl ?_
    | refine regI rfl ?_
    | refine scopeI rfl ?_
    | refine blockI rfl ?_
    | refine exitI rfl ?_
    | refine retI rfl ?_
    | refine skipI rfl ?_)
  refine endR rfl ?_
  repeat' (first | exact trivial | exact rfl | refine ⟨rfl, ?_⟩ | refine And.intro ?_ ?_)

def nanS : Spec := plain fun
  | [.int .i64 n] => outV True (.bool false)
  | _ => none
theorem nanOk : SpecSound Try.prog 96 nanS := by
  refine soundP (envOf sigNil) Try.func96 (c := body Try.f96) rfl (by kernel_rfl) rfl ?_
  intro args out hf hpre
  split at hf <;> try (cases hf; done)
  rename_i n
  cases hf
  refine ⟨Nat.le_of_ble_eq_true rfl, initI rfl ?_⟩
  repeat' (first
    | with_reducible refine pN ?_
    | with_reducible refine cN ?_
    | with_reducible refine bN ?_
    | with_reducible refine cE ?_
    | with_reducible refine cR ?_
    | with_reducible refine bR ?_
    | with_reducible refine lE ?_
    | with_reducible refine lR ?_
    | with_reducible refine jE ?_
    | with_reducible refine jR ?_
    | refine bE rfl ?_
    | refine bP rfl ?_
    | refine pC (by first | exact True.intro | omega | (intros; first | exact True.intro | omega) | (simp only [List.length_cons, List.length_nil, Int.toNat_natCast]; omega)) ?_
    | refine seqI rfl ?_
    | refine regI rfl ?_
    | refine scopeI rfl ?_
    | refine blockI rfl ?_
    | refine exitI rfl ?_
    | refine retI rfl ?_
    | refine skipI rfl ?_)
  refine endR rfl ?_
  repeat' (first | exact trivial | exact rfl | refine ⟨rfl, ?_⟩ | refine And.intro ?_ ?_)
  simp
def sigNan : List (Nat × Spec) := [(96, nanS)]
theorem sigNanOk : SigOk Try.prog (look sigNan) := sigCons sigNil Try.func96 (by kernel_rfl) (c := body Try.f96) rfl nanOk

def cmpI (a b : Int) : Int := if a < b then -1 else if b < a then 1 else 0
def cmpS : Spec := plain fun
  | [.int .i64 a, .int .i64 b] => outV True (.int .i64 (cmpI a b))
  | _ => none
theorem cmpOk : SpecSound Try.prog 80 cmpS := by
  refine soundP (envOf sigNanOk) Try.func80 (c := body Try.f80) rfl (by kernel_rfl) rfl ?_
  intro args out hf hpre
  split at hf <;> try (cases hf; done)
  rename_i a b
  cases hf
  refine ⟨Nat.le_of_ble_eq_true rfl, initI rfl ?_⟩
  repeat' (first
    | with_reducible refine pN ?_
    | with_reducible refine cN ?_
    | with_reducible refine bN ?_
    | with_reducible refine cE ?_
    | with_reducible refine cR ?_
    | with_reducible refine bR ?_
    | with_reducible refine lE ?_
    | with_reducible refine lR ?_
    | with_reducible refine jE ?_
    | with_reducible refine jR ?_
    | refine bE rfl ?_
    | refine bP rfl ?_
    | refine pC (by first | exact True.intro | omega | (intros; first | exact True.intro | omega) | (simp only [List.length_cons, List.length_nil, Int.toNat_natCast]; omega)) ?_
    | refine seqI rfl ?_
    | refine regI rfl ?_
    | refine scopeI rfl ?_
    | refine blockI rfl ?_
    | refine exitI rfl ?_
    | refine retI rfl ?_
    | refine skipI rfl ?_)
  refine condF rfl ?_
  repeat' (first
    | with_reducible refine pN ?_
    | with_reducible refine cN ?_
    | with_reducible refine bN ?_
    | with_reducible refine cE ?_
    | with_reducible refine cR ?_
    | with_reducible refine bR ?_
    | with_reducible refine lE ?_
    | with_reducible refine lR ?_
    | with_reducible refine jE ?_
    | with_reducible refine jR ?_
    | refine bE rfl ?_
    | refine bP rfl ?_
    | refine pC (by first | exact True.intro | omega | (intros; first | exact True.intro | omega) | (simp only [List.length_cons, List.length_nil, Int.toNat_natCast]; omega)) ?_
    | refine seqI rfl ?_
    | refine regI rfl ?_
    | refine scopeI rfl ?_
    | refine blockI rfl ?_
    | refine exitI rfl ?_
    | refine retI rfl ?_
    | refine skipI rfl ?_)
  refine condF rfl ?_
  repeat' (first
    | with_reducible refine pN ?_
    | with_reducible refine cN ?_
    | with_reducible refine bN ?_
    | with_reducible refine cE ?_
    | with_reducible refine cR ?_
    | with_reducible refine bR ?_
    | with_reducible refine lE ?_
    | with_reducible refine lR ?_
    | with_reducible refine jE ?_
    | with_reducible refine jR ?_
    | refine bE rfl ?_
    | refine bP rfl ?_
    | refine pC (by first | exact True.intro | omega | (intros; first | exact True.intro | omega) | (simp only [List.length_cons, List.length_nil, Int.toNat_natCast]; omega)) ?_
    | refine seqI rfl ?_
    | refine regI rfl ?_
    | refine scopeI rfl ?_
    | refine blockI rfl ?_
    | refine exitI rfl ?_
    | refine retI rfl ?_
    | refine skipI rfl ?_)
  refine condI rfl (fun c1 => ?_) (fun c1 => ?_)
  · simp only [decide_eq_true_eq] at c1
    repeat' (first
      | with_reducible refine pN ?_
      | with_reducible refine cN ?_
      | with_reducible refine bN ?_
      | with_reducible refine cE ?_
      | with_reducible refine cR ?_
      | with_reducible refine bR ?_
      | with_reducible refine lE ?_
      | with_reducible refine lR ?_
      | with_reducible refine jE ?_
      | with_reducible refine jR ?_
      | refine bE rfl ?_
      | refine bP rfl ?_
      | refine pC (by first | exact True.intro | omega | (intros; first | exact True.intro | omega) | (simp only [List.length_cons, List.length_nil, Int.toNat_natCast]; omega)) ?_
      | refine seqI rfl ?_
      | refine regI rfl ?_
      | refine scopeI rfl ?_
      | refine blockI rfl ?_
      | refine exitI rfl ?_
      | refine retI rfl ?_
      | refine skipI rfl ?_)
    refine endR rfl ?_
    repeat' (first | exact trivial | exact rfl | refine ⟨rfl, ?_⟩ | refine And.intro ?_ ?_)
    simp [cmpI, c1]
  · simp only [decide_eq_false_iff_not] at c1
    repeat' (first
      | with_reducible refine pN ?_
      | with_reducible refine cN ?_
      | with_reducible refine bN ?_
      | with_reducible refine cE ?_
      | with_reducible refine cR ?_
      | with_reducible refine bR ?_
      | with_reducible refine lE ?_
      | with_reducible refine lR ?_
      | with_reducible refine jE ?_
      | with_reducible refine jR ?_
      | refine bE rfl ?_
      | refine bP rfl ?_
      | refine pC (by first | exact True.intro | omega | (intros; first | exact True.intro | omega) | (simp only [List.length_cons, List.length_nil, Int.toNat_natCast]; omega)) ?_
      | refine seqI rfl ?_
      | refine regI rfl ?_
      | refine scopeI rfl ?_
      | refine blockI rfl ?_
      | refine exitI rfl ?_
      | refine retI rfl ?_
      | refine skipI rfl ?_)
    refine condI rfl (fun c2 => ?_) (fun c2 => ?_)
    · simp only [decide_eq_true_eq] at c2
      repeat' (first
        | with_reducible refine pN ?_
        | with_reducible refine cN ?_
        | with_reducible refine bN ?_
        | with_reducible refine cE ?_
        | with_reducible refine cR ?_
        | with_reducible refine bR ?_
        | with_reducible refine lE ?_
        | with_reducible refine lR ?_
        | with_reducible refine jE ?_
        | with_reducible refine jR ?_
        | refine bE rfl ?_
        | refine bP rfl ?_
        | refine pC (by first | exact True.intro | omega | (intros; first | exact True.intro | omega) | (simp only [List.length_cons, List.length_nil, Int.toNat_natCast]; omega)) ?_
        | refine seqI rfl ?_
        | refine regI rfl ?_
        | refine scopeI rfl ?_
        | refine blockI rfl ?_
        | refine exitI rfl ?_
        | refine retI rfl ?_
        | refine skipI rfl ?_)
      refine endR rfl ?_
      repeat' (first | exact trivial | exact rfl | refine ⟨rfl, ?_⟩ | refine And.intro ?_ ?_)
      simp [cmpI, c1, c2]
    · simp only [decide_eq_false_iff_not] at c2
      repeat' (first
        | with_reducible refine pN ?_
        | with_reducible refine cN ?_
        | with_reducible refine bN ?_
        | with_reducible refine cE ?_
        | with_reducible refine cR ?_
        | with_reducible refine bR ?_
        | with_reducible refine lE ?_
        | with_reducible refine lR ?_
        | with_reducible refine jE ?_
        | with_reducible refine jR ?_
        | refine bE rfl ?_
        | refine bP rfl ?_
        | refine pC (by first | exact True.intro | omega | (intros; first | exact True.intro | omega) | (simp only [List.length_cons, List.length_nil, Int.toNat_natCast]; omega)) ?_
        | refine seqI rfl ?_
        | refine regI rfl ?_
        | refine scopeI rfl ?_
        | refine blockI rfl ?_
        | refine exitI rfl ?_
        | refine retI rfl ?_
        | refine skipI rfl ?_)
      refine endR rfl ?_
      repeat' (first | exact trivial | exact rfl | refine ⟨rfl, ?_⟩ | refine And.intro ?_ ?_)
      simp [cmpI, c1, c2]
def sigCmp : List (Nat × Spec) := [(80, cmpS)]
theorem sigCmpOk : SigOk Try.prog (look sigCmp) := sigCons sigNil Try.func80 (by kernel_rfl) (c := body Try.f80) rfl cmpOk

def byS : Spec := plain fun
  | [.agg [.int .i64 a, .int .i64 b, .int .i64 c, .int .i64 d], .agg [.int .i64 a', .int .i64 b', .int .i64 c', .int .i64 d']] => outV True (.int .i64 (cmpI b b'))
  | _ => none
theorem byOk : SpecSound Try.prog 64 byS := by
  refine soundP (envOf sigCmpOk) Try.func64 (c := body Try.f64) rfl (by kernel_rfl) rfl ?_
  intro args out hf hpre
  split at hf <;> try (cases hf; done)
  rename_i a b c d a' b' c' d'
  cases hf
  refine ⟨Nat.le_of_ble_eq_true rfl, initI rfl ?_⟩
  repeat' (first
    | with_reducible refine pN ?_
    | with_reducible refine cN ?_
    | with_reducible refine bN ?_
    | with_reducible refine cE ?_
    | with_reducible refine cR ?_
    | with_reducible refine bR ?_
    | with_reducible refine lE ?_
    | with_reducible refine lR ?_
    | with_reducible refine jE ?_
    | with_reducible refine jR ?_
    | refine bE rfl ?_
    | refine bP rfl ?_
    | refine pC (by first | exact True.intro | omega | (intros; first | exact True.intro | omega) | (simp only [List.length_cons, List.length_nil, Int.toNat_natCast]; omega)) ?_
    | refine seqI rfl ?_
    | refine regI rfl ?_
    | refine scopeI rfl ?_
    | refine blockI rfl ?_
    | refine exitI rfl ?_
    | refine retI rfl ?_
    | refine skipI rfl ?_)
  refine endR rfl ?_
  repeat' (first | exact trivial | exact rfl | refine ⟨rfl, ?_⟩ | refine And.intro ?_ ?_)

/-- A booking is an owner's. -/
def ownsB (o : Int) (b : Bk.El) : Bool := decide (b.2.2.2 = o)
def free1S : Spec := ⟨true, fun args rows => match args, rows with
  | [.agg [.int .i64 a, .int .i64 b, .int .i64 c, .int .i64 d], .ptr 0 0], [.box [.int .i64 o]] => some ⟨True, .bool (decide (d = o)), [.box [.int .i64 o]], true⟩
  | _, _ => none⟩
/-! ### IndexFunc, ContainsFunc -/

def meetE (s e : Int) (b : Bk.El) : Bool := meetB s e b.2.1 b.2.2.1

def sigIdxM : List (Nat × Spec) := [(60, meetS)]
theorem sigIdxMOk : SigOk Try.prog (look sigIdxM) := sigCons sigNil Try.func60 (by kernel_rfl) (c := body Try.f60) rfl meetOk
def idxMS : Spec := ⟨true, fun args rows => match args, rows with
  | [.sl (.pair (.int .i64) (.pair (.int .i64) (.pair (.int .i64) (.int .i64)))) xs, .fn 60 [.agg [.int .i64 s, .int .i64 e]] []], [] => some ⟨True, .int .i64 (idxF (meetE s e) xs), [], true⟩
  | _, _ => none⟩
theorem idxMOk : SpecSound Try.prog 84 idxMS := by
  refine soundR (envOf sigIdxMOk) Try.func84 (c := body Try.f84) rfl (by kernel_rfl) rfl ?_
  intro args rows out hf hpre
  split at hf <;> try (cases hf; done)
  rename_i xs s e
  cases hf
  refine ⟨Nat.le_of_ble_eq_true rfl, initI (args := [.sl Bk xs, .fn 60 [.agg [.int .i64 s, .int .i64 e]] []]) (rows := []) rfl ?_⟩
  refine factSl (t := 0) (ty := Bk) rfl (fun hxs => ?_)
  have hmx : xs.length ≤ 9223372036854775807 := by have := hxs.1; unfold maxLen at this; omega
  repeat' (first
    | with_reducible refine pN ?_
    | with_reducible refine cN ?_
    | with_reducible refine bN ?_
    | with_reducible refine cE ?_
    | with_reducible refine cR ?_
    | with_reducible refine bR ?_
    | with_reducible refine lE ?_
    | with_reducible refine lR ?_
    | with_reducible refine jE ?_
    | with_reducible refine jR ?_
    | refine bE rfl ?_
    | refine bP rfl ?_
    | refine pC (by first | exact True.intro | omega | (intros; first | exact True.intro | omega) | (simp only [List.length_cons, List.length_nil, Int.toNat_natCast]; omega)) ?_
    | refine seqI rfl ?_
    | refine regI rfl ?_
    | refine scopeI rfl ?_
    | refine blockI rfl ?_
    | refine exitI rfl ?_
    | refine retI rfl ?_
    | refine skipI rfl ?_)
  refine loopI (σ := Nat) (fun i => [(8, .int .i64 i)]) (fun i => []) (fun i => i ≤ xs.length ∧ ∀ j, j < i → meetE s e (getI xs Bk.dflt j) = false) (fun i => xs.length - i) 0 rfl (fun _ => rfl) rfl ?_ ?_ ?_
  · exact ⟨Nat.zero_le _, fun j hj => by omega⟩
  · repeat' (first | exact trivial | exact rfl | refine ⟨rfl, ?_⟩ | refine And.intro ?_ ?_)
  · intro i ⟨hi, hb⟩
    repeat' (first
      | with_reducible refine pN ?_
      | with_reducible refine cN ?_
      | with_reducible refine bN ?_
      | with_reducible refine cE ?_
      | with_reducible refine cR ?_
      | with_reducible refine bR ?_
      | with_reducible refine lE ?_
      | with_reducible refine lR ?_
      | with_reducible refine jE ?_
      | with_reducible refine jR ?_
      | refine bE rfl ?_
      | refine bP rfl ?_
      | refine pC (by first | exact True.intro | omega | (intros; first | exact True.intro | omega) | (simp only [List.length_cons, List.length_nil, Int.toNat_natCast]; omega)) ?_
      | refine seqI rfl ?_
      | refine regI rfl ?_
      | refine scopeI rfl ?_
      | refine blockI rfl ?_
      | refine exitI rfl ?_
      | refine retI rfl ?_
      | refine skipI rfl ?_)
    refine condI rfl (fun c1 => ?_) (fun c1 => ?_)
    · simp only [decide_eq_true_eq] at c1
      repeat' (first
        | with_reducible refine pN ?_
        | with_reducible refine cN ?_
        | with_reducible refine bN ?_
        | with_reducible refine cE ?_
        | with_reducible refine cR ?_
        | with_reducible refine bR ?_
        | with_reducible refine lE ?_
        | with_reducible refine lR ?_
        | with_reducible refine jE ?_
        | with_reducible refine jR ?_
        | refine bE rfl ?_
        | refine bP rfl ?_
        | refine pC (by first | exact True.intro | omega | (intros; first | exact True.intro | omega) | (simp only [List.length_cons, List.length_nil, Int.toNat_natCast]; omega)) ?_
        | refine seqI rfl ?_
        | refine regI rfl ?_
        | refine scopeI rfl ?_
        | refine blockI rfl ?_
        | refine exitI rfl ?_
        | refine retI rfl ?_
        | refine skipI rfl ?_)
      refine condI rfl (fun c2 => ?_) (fun c2 => ?_)
      · repeat' (first
          | with_reducible refine pN ?_
          | with_reducible refine cN ?_
          | with_reducible refine bN ?_
          | with_reducible refine cE ?_
          | with_reducible refine cR ?_
          | with_reducible refine bR ?_
          | with_reducible refine lE ?_
          | with_reducible refine lR ?_
          | with_reducible refine jE ?_
          | with_reducible refine jR ?_
          | refine bE rfl ?_
          | refine bP rfl ?_
          | refine pC (by first | exact True.intro | omega | (intros; first | exact True.intro | omega) | (simp only [List.length_cons, List.length_nil, Int.toNat_natCast]; omega)) ?_
          | refine seqI rfl ?_
          | refine regI rfl ?_
          | refine scopeI rfl ?_
          | refine blockI rfl ?_
          | refine exitI rfl ?_
          | refine retI rfl ?_
          | refine skipI rfl ?_)
        refine endR rfl ?_
        repeat' (first | exact trivial | exact rfl | refine ⟨rfl, ?_⟩ | refine And.intro ?_ ?_)
        exact idxF_found (d := Bk.dflt) (by omega) hb c2
      · repeat' (first
          | with_reducible refine pN ?_
          | with_reducible refine cN ?_
          | with_reducible refine bN ?_
          | with_reducible refine cE ?_
          | with_reducible refine cR ?_
          | with_reducible refine bR ?_
          | with_reducible refine lE ?_
          | with_reducible refine lR ?_
          | with_reducible refine jE ?_
          | with_reducible refine jR ?_
          | refine bE rfl ?_
          | refine bP rfl ?_
          | refine pC (by first | exact True.intro | omega | (intros; first | exact True.intro | omega) | (simp only [List.length_cons, List.length_nil, Int.toNat_natCast]; omega)) ?_
          | refine seqI rfl ?_
          | refine regI rfl ?_
          | refine scopeI rfl ?_
          | refine blockI rfl ?_
          | refine exitI rfl ?_
          | refine retI rfl ?_
          | refine skipI rfl ?_)
        refine roundI (i + 1) rfl ?_ ?_ ?_
        · refine ⟨by omega, fun j hj => ?_⟩
          by_cases hji : j = i
          · subst hji; exact c2
          · exact hb j (by omega)
        · show xs.length - (i + 1) < xs.length - i
          omega
        · repeat' (first | exact trivial | exact rfl | refine ⟨rfl, ?_⟩ | refine And.intro ?_ ?_)
    · simp only [decide_eq_false_iff_not] at c1
      repeat' (first
        | with_reducible refine pN ?_
        | with_reducible refine cN ?_
        | with_reducible refine bN ?_
        | with_reducible refine cE ?_
        | with_reducible refine cR ?_
        | with_reducible refine bR ?_
        | with_reducible refine lE ?_
        | with_reducible refine lR ?_
        | with_reducible refine jE ?_
        | with_reducible refine jR ?_
        | refine bE rfl ?_
        | refine bP rfl ?_
        | refine pC (by first | exact True.intro | omega | (intros; first | exact True.intro | omega) | (simp only [List.length_cons, List.length_nil, Int.toNat_natCast]; omega)) ?_
        | refine seqI rfl ?_
        | refine regI rfl ?_
        | refine scopeI rfl ?_
        | refine blockI rfl ?_
        | refine exitI rfl ?_
        | refine retI rfl ?_
        | refine skipI rfl ?_)
      refine endR rfl ?_
      repeat' (first | exact trivial | exact rfl | refine ⟨rfl, ?_⟩ | refine And.intro ?_ ?_)
      exact idxF_none (d := Bk.dflt) fun j hj => hb j (by omega)

def sigAny : List (Nat × Spec) := [(84, idxMS)]
theorem sigAnyOk : SigOk Try.prog (look sigAny) := sigCons sigNil Try.func84 (by kernel_rfl) (c := body Try.f84) rfl idxMOk

def anyS : Spec := plain fun
  | [.sl (.pair (.int .i64) (.pair (.int .i64) (.pair (.int .i64) (.int .i64)))) xs, .fn 60 [.agg [.int .i64 s, .int .i64 e]] []] => outV True (.bool (xs.any (meetE s e)))
  | _ => none
theorem anyOk : SpecSound Try.prog 59 anyS := by
  refine soundP (envOf sigAnyOk) Try.func59 (c := body Try.f59) rfl (by kernel_rfl) rfl ?_
  intro args out hf hpre
  split at hf <;> try (cases hf; done)
  rename_i xs s e
  cases hf
  refine ⟨Nat.le_of_ble_eq_true rfl, initI (args := [.sl Bk xs, .fn 60 [.agg [.int .i64 s, .int .i64 e]] []]) rfl ?_⟩
  repeat' (first
    | with_reducible refine pN ?_
    | with_reducible refine cN ?_
    | with_reducible refine bN ?_
    | with_reducible refine cE ?_
    | with_reducible refine cR ?_
    | with_reducible refine bR ?_
    | with_reducible refine lE ?_
    | with_reducible refine lR ?_
    | with_reducible refine jE ?_
    | with_reducible refine jR ?_
    | refine bE rfl ?_
    | refine bP rfl ?_
    | refine pC (by first | exact True.intro | omega | (intros; first | exact True.intro | omega) | (simp only [List.length_cons, List.length_nil, Int.toNat_natCast]; omega)) ?_
    | refine seqI rfl ?_
    | refine regI rfl ?_
    | refine scopeI rfl ?_
    | refine blockI rfl ?_
    | refine exitI rfl ?_
    | refine retI rfl ?_
    | refine skipI rfl ?_)
  refine endR rfl ?_
  repeat' (first | exact trivial | exact rfl | refine ⟨rfl, ?_⟩ | refine And.intro ?_ ?_)
  exact idxF_any.symm
end Go.AM.Ytkacoophnfljcaa
