/- The calendar: New, and the methods that only read (Busy, List, Len, Owned). -/
import Derived.Test.YtkacoophnfljcaaCaA
set_option linter.all false
namespace Go.AM.Ytkacoophnfljcaa
open Go.Proofs
set_option maxRecDepth 100000
set_option maxHeartbeats 4000000

/-- The 60 tools' lists, none too long. -/
structure Cal (xss : List (List Bk.El)) : Prop where
  len : xss.length = 60
  small : ∀ xs ∈ xss, List.length (α := Bk.El) xs ≤ 1000000

theorem Cal.get {xss : List (List Bk.El)} (h : Cal xss) {i : Nat} (hi : i < 60) : (getI xss [] i) ∈ xss ∧ (getI xss [] i).length ≤ 1000000 := by
  have h1 : i < xss.length := by rw [h.len]; exact hi
  have h2 : getI xss [] i = xss[i] := by simp [getI, List.getD, List.getElem?_eq_getElem h1]
  rw [h2]
  exact ⟨List.getElem_mem h1, h.small _ (List.getElem_mem h1)⟩

def noCal : List (List Bk.El) := List.replicate 60 []
theorem noCal_ok : Cal noCal := ⟨by simp [noCal], fun xs h => by have := (List.mem_replicate.1 h).2; subst this; simp⟩

def newS : Spec := plain fun
  | [] => some ⟨True, .ptr 0 0, [.arr Bk noCal none], false⟩
  | _ => none
theorem newOk : SpecSound Try.prog 35 newS := by
  refine soundP (envOf sigNil) Try.func35 (c := body Try.f35) rfl (by kernel_rfl) rfl ?_
  intro args out hf hpre
  split at hf <;> try (cases hf; done)
  cases hf
  refine ⟨Nat.le_of_ble_eq_true rfl, initI rfl ?_⟩
  repeat' (first
    | with_reducible refine pN ?_
    | with_reducible refine cN ?_
    | with_reducible refine bN ?_
    | with_reducible refine cE ?_
    | with_reducible refine cR ?_
    | with_reducible refine bR ?_
    | with_reducible refine lE ?_
    | with_reducible refine lR ?_
    | with_reducible refine jE ?_
    | with_reducible refine jR ?_
    | refine bE rfl ?_
    | refine bP rfl ?_
    | refine pC (by first | exact True.intro | omega | (intros; first | exact True.intro | omega) | (simp only [List.length_cons, List.length_nil, Int.toNat_natCast]; omega)) ?_
    | refine seqI rfl ?_
    | refine regI rfl ?_
    | refine scopeI rfl ?_
    | refine blockI rfl ?_
    | refine exitI rfl ?_
    | refine retI rfl ?_
    | refine skipI rfl ?_)
  refine endR rfl ?_
  repeat' (first | exact trivial | exact rfl | refine ⟨rfl, ?_⟩ | refine And.intro ?_ ?_)

/-! ### slices.Clone -/

def cloneN : Spec := plain fun
  | [.ext (.nl (.pair (.int .i64) (.pair (.int .i64) (.pair (.int .i64) (.int .i64)))))] => some ⟨True, .own 0, [.seq Bk []], false⟩
  | _ => none
theorem cloneNOk : SpecSound Try.prog 65 cloneN := by
  refine soundP (envOf sigNil) Try.func65 (c := body Try.f65) rfl (by kernel_rfl) rfl ?_
  intro args out hf hpre
  split at hf <;> try (cases hf; done)
  cases hf
  refine ⟨Nat.le_of_ble_eq_true rfl, initI rfl ?_⟩
  repeat' (first
    | with_reducible refine pN ?_
    | with_reducible refine cN ?_
    | with_reducible refine bN ?_
    | with_reducible refine cE ?_
    | with_reducible refine cR ?_
    | with_reducible refine bR ?_
    | with_reducible refine lE ?_
    | with_reducible refine lR ?_
    | with_reducible refine jE ?_
    | with_reducible refine jR ?_
    | refine bE rfl ?_
    | refine bP rfl ?_
    | refine pC (by first | exact True.intro | omega | (intros; first | exact True.intro | omega) | (simp only [List.length_cons, List.length_nil, Int.toNat_natCast]; omega)) ?_
    | refine seqI rfl ?_
    | refine regI rfl ?_
    | refine scopeI rfl ?_
    | refine blockI rfl ?_
    | refine exitI rfl ?_
    | refine retI rfl ?_
    | refine skipI rfl ?_)
  refine condT rfl ?_
  repeat' (first
    | with_reducible refine pN ?_
    | with_reducible refine cN ?_
    | with_reducible refine bN ?_
    | with_reducible refine cE ?_
    | with_reducible refine cR ?_
    | with_reducible refine bR ?_
    | with_reducible refine lE ?_
    | with_reducible refine lR ?_
    | with_reducible refine jE ?_
    | with_reducible refine jR ?_
    | refine bE rfl ?_
    | refine bP rfl ?_
    | refine pC (by first | exact True.intro | omega | (intros; first | exact True.intro | omega) | (simp only [List.length_cons, List.length_nil, Int.toNat_natCast]; omega)) ?_
    | refine seqI rfl ?_
    | refine regI rfl ?_
    | refine scopeI rfl ?_
    | refine blockI rfl ?_
    | refine exitI rfl ?_
    | refine retI rfl ?_
    | refine skipI rfl ?_)
  refine endR rfl ?_
  repeat' (first | exact trivial | exact rfl | refine ⟨rfl, ?_⟩ | refine And.intro ?_ ?_)
def cloneM : Spec := plain fun
  | [.ext (.nn (.pair (.int .i64) (.pair (.int .i64) (.pair (.int .i64) (.int .i64)))) xs)] => some ⟨xs.length * 32 ≤ 140737488355328, .own 0, [.seq Bk xs], false⟩
  | _ => none
theorem cloneMOk : SpecSound Try.prog 65 cloneM := by
  refine soundP (envOf sigNil) Try.func65 (c := body Try.f65) rfl (by kernel_rfl) rfl ?_
  intro args out hf hpre
  split at hf <;> try (cases hf; done)
  rename_i xs
  cases hf
  refine ⟨Nat.le_of_ble_eq_true rfl, initI (args := [.ext (.nn Bk xs)]) rfl ?_⟩
  change xs.length * 32 ≤ 140737488355328 at hpre
  repeat' (first
    | with_reducible refine pN ?_
    | with_reducible refine cN ?_
    | with_reducible refine bN ?_
    | with_reducible refine cE ?_
    | with_reducible refine cR ?_
    | with_reducible refine bR ?_
    | with_reducible refine lE ?_
    | with_reducible refine lR ?_
    | with_reducible refine jE ?_
    | with_reducible refine jR ?_
    | refine bE rfl ?_
    | refine bP rfl ?_
    | refine pC (by first | exact True.intro | omega | (intros; first | exact True.intro | omega) | (simp only [List.length_cons, List.length_nil, Int.toNat_natCast]; omega)) ?_
    | refine seqI rfl ?_
    | refine regI rfl ?_
    | refine scopeI rfl ?_
    | refine blockI rfl ?_
    | refine exitI rfl ?_
    | refine retI rfl ?_
    | refine skipI rfl ?_)
  refine condF rfl ?_
  repeat' (first
    | with_reducible refine pN ?_
    | with_reducible refine cN ?_
    | with_reducible refine bN ?_
    | with_reducible refine cE ?_
    | with_reducible refine cR ?_
    | with_reducible refine bR ?_
    | with_reducible refine lE ?_
    | with_reducible refine lR ?_
    | with_reducible refine jE ?_
    | with_reducible refine jR ?_
    | refine bE rfl ?_
    | refine bP rfl ?_
    | refine pC (by first | exact True.intro | omega | (intros; first | exact True.intro | omega) | (simp only [List.length_cons, List.length_nil, Int.toNat_natCast]; omega) | first | exact hpre | (simp; omega)) ?_
    | refine seqI rfl ?_
    | refine regI rfl ?_
    | refine scopeI rfl ?_
    | refine blockI rfl ?_
    | refine exitI rfl ?_
    | refine retI rfl ?_
    | refine skipI rfl ?_)
  refine endR rfl ?_
  repeat' (first | exact trivial | exact rfl | refine ⟨rfl, ?_⟩ | refine And.intro ?_ ?_)
def cloneS : Spec := plain fun
  | [.sl (.pair (.int .i64) (.pair (.int .i64) (.pair (.int .i64) (.int .i64)))) xs] => some ⟨xs.length * 32 ≤ 140737488355328, .own 0, [.seq Bk xs], false⟩
  | _ => none
theorem cloneOk : SpecSound Try.prog 65 cloneS := by
  intro args rows out hf hpre hr w0 g0 R0 vals h1 h2 h3 h4 h5
  unfold cloneS plain at hf
  dsimp only at hf
  split at hf <;> try (cases hf; done)
  rename_i xs
  cases hf
  cases h5 with
  | cons h5 h6 =>
  cases h6
  cases h5 with
  | sl hrd =>
  obtain ⟨a, cap, rfl, hc1, hc2, hc3, hc4⟩ := hrd
  cases a with
  | none =>
    obtain rfl : xs = [] := by
      cases xs with
      | nil => rfl
      | cons x r => obtain ⟨_, _, h, _⟩ := hc4 (by simp); cases h
    exact cloneNOk [.ext (.nl Bk)] rows _ rfl trivial (fun _ => hr rfl) w0 g0 R0 _ h1 h2 h3 h4 (.cons (.ext ⟨cap, rfl, hc2⟩) .nil)
  | some a =>
    exact cloneMOk [.ext (.nn Bk xs)] rows _ rfl hpre (fun _ => hr rfl) w0 g0 R0 _ h1 h2 h3 h4 (.cons (.ext ⟨⟨some a, cap, rfl, hc1, hc2, hc3, hc4⟩, a, _, _, rfl⟩) .nil)

/-! ### Busy -/

def sigBusy : List (Nat × Spec) := [(58, isToolS), (59, anyS)]
theorem sigBusyOk : SigOk Try.prog (look sigBusy) := sigCons (sigCons sigNil Try.func59 (by kernel_rfl) (c := body Try.f59) rfl anyOk)
  Try.func58 (by kernel_rfl) (c := body Try.f58) rfl isToolOk

def toolL (xss : List (List Bk.El)) (tl : Int) : List Bk.El := getI xss [] tl.toNat

def busyF (xss : List (List Bk.El)) (tl s e : Int) : Bool := toolB tl && (decide (s < e) && (toolL xss tl).any (meetE s e))

def busyS : Spec := plain fun
  | [.nilptr, .int .i64 tl, .int .i64 s, .int .i64 e] => outV True (.bool false)
  | [.ext (.cref (.pair (.int .i64) (.pair (.int .i64) (.pair (.int .i64) (.int .i64)))) xss 0), .int .i64 tl, .int .i64 s, .int .i64 e] => outV (Cal xss) (.bool (busyF xss tl s e))
  | _ => none
theorem toolB_true {tl : Int} (h : toolB tl = true) : 0 ≤ tl ∧ tl < 60 := by
  unfold toolB at h; simpa using h
theorem toolB_of {tl : Int} (h : 0 ≤ tl) (k : tl < 60) : toolB tl = true := by
  unfold toolB; simp [h, k]

theorem busyOk : SpecSound Try.prog 32 busyS := by
  refine soundP (envOf sigBusyOk) Try.func32 (c := body Try.f32) rfl (by kernel_rfl) rfl ?_
  intro args out hf hpre
  split at hf <;> try (cases hf; done)
  · rename_i tl s e
    cases hf
    refine ⟨Nat.le_of_ble_eq_true rfl, initI rfl ?_⟩
    repeat' (first
      | with_reducible refine pN ?_
      | with_reducible refine cN ?_
      | with_reducible refine bN ?_
      | with_reducible refine cE ?_
      | with_reducible refine cR ?_
      | with_reducible refine bR ?_
      | with_reducible refine lE ?_
      | with_reducible refine lR ?_
      | with_reducible refine jE ?_
      | with_reducible refine jR ?_
      | refine bE rfl ?_
      | refine bP rfl ?_
      | refine pC (by first | exact True.intro | omega | (intros; first | exact True.intro | omega) | (simp only [List.length_cons, List.length_nil, Int.toNat_natCast]; omega)) ?_
      | refine seqI rfl ?_
      | refine regI rfl ?_
      | refine scopeI rfl ?_
      | refine blockI rfl ?_
      | refine exitI rfl ?_
      | refine retI rfl ?_
      | refine skipI rfl ?_)
    refine condT (by first | rfl | simp [condRun, St.pathOf, St.get, St.ent, look]) ?_
    repeat' (first
      | with_reducible refine pN ?_
      | with_reducible refine cN ?_
      | with_reducible refine bN ?_
      | with_reducible refine cE ?_
      | with_reducible refine cR ?_
      | with_reducible refine bR ?_
      | with_reducible refine lE ?_
      | with_reducible refine lR ?_
      | with_reducible refine jE ?_
      | with_reducible refine jR ?_
      | refine bE rfl ?_
      | refine bP rfl ?_
      | refine pC (by first | exact True.intro | omega | (intros; first | exact True.intro | omega) | (simp only [List.length_cons, List.length_nil, Int.toNat_natCast]; omega)) ?_
      | refine seqI rfl ?_
      | refine regI rfl ?_
      | refine scopeI rfl ?_
      | refine blockI rfl ?_
      | refine exitI rfl ?_
      | refine retI rfl ?_
      | refine skipI rfl ?_)
    refine endR rfl ?_
    repeat' (first | exact trivial | exact rfl | refine ⟨rfl, ?_⟩ | refine And.intro ?_ ?_)
  · rename_i xss tl s e
    cases hf
    change Cal xss at hpre
    refine ⟨Nat.le_of_ble_eq_true rfl, initI (args := [.ext (.cref Bk xss 0), .int .i64 tl, .int .i64 s, .int .i64 e]) rfl ?_⟩
    repeat' (first
      | with_reducible refine pN ?_
      | with_reducible refine cN ?_
      | with_reducible refine bN ?_
      | with_reducible refine cE ?_
      | with_reducible refine cR ?_
      | with_reducible refine bR ?_
      | with_reducible refine lE ?_
      | with_reducible refine lR ?_
      | with_reducible refine jE ?_
      | with_reducible refine jR ?_
      | refine bE rfl ?_
      | refine bP rfl ?_
      | refine pC (by first | exact True.intro | omega | (intros; first | exact True.intro | omega) | (simp only [List.length_cons, List.length_nil, Int.toNat_natCast]; omega)) ?_
      | refine seqI rfl ?_
      | refine regI rfl ?_
      | refine scopeI rfl ?_
      | refine blockI rfl ?_
      | refine exitI rfl ?_
      | refine retI rfl ?_
      | refine skipI rfl ?_)
    refine condI rfl (fun c1 => ?_) (fun c1 => ?_)
    · repeat' (first
        | with_reducible refine pN ?_
        | with_reducible refine cN ?_
        | with_reducible refine bN ?_
        | with_reducible refine cE ?_
        | with_reducible refine cR ?_
        | with_reducible refine bR ?_
        | with_reducible refine lE ?_
        | with_reducible refine lR ?_
        | with_reducible refine jE ?_
        | with_reducible refine jR ?_
        | refine bE rfl ?_
        | refine bP rfl ?_
        | refine pC (by first | exact True.intro | omega | (intros; first | exact True.intro | omega) | (simp only [List.length_cons, List.length_nil, Int.toNat_natCast]; omega)) ?_
        | refine seqI rfl ?_
        | refine regI rfl ?_
        | refine scopeI rfl ?_
        | refine blockI rfl ?_
        | refine exitI rfl ?_
        | refine retI rfl ?_
        | refine skipI rfl ?_)
      refine endR rfl ?_
      repeat' (first | exact trivial | exact rfl | refine ⟨rfl, ?_⟩ | refine And.intro ?_ ?_)
      unfold busyF
      simp only [Bool.or_eq_true, Bool.not_eq_true', decide_eq_true_eq, Bool.false_or] at c1
      rcases c1 with c1 | c1
      · rw [c1]; rfl
      · rw [show decide (s < e) = false by simpa using c1]; simp
    · simp only [Bool.or_eq_false_iff, Bool.not_eq_false', decide_eq_false_iff_not] at c1
      obtain ⟨h1, h2⟩ := toolB_true (tl := tl) (by simpa using c1.1)
      have hl := hpre.len
      have h3 : tl.toNat < 60 := by omega
      repeat' (first
        | with_reducible refine pN ?_
        | with_reducible refine cN ?_
        | with_reducible refine bN ?_
        | with_reducible refine cE ?_
        | with_reducible refine cR ?_
        | with_reducible refine bR ?_
        | with_reducible refine lE ?_
        | with_reducible refine lR ?_
        | with_reducible refine jE ?_
        | with_reducible refine jR ?_
        | refine bE rfl ?_
        | refine bP rfl ?_
        | refine pC (by first | exact True.intro | omega | (intros; first | exact True.intro | omega) | (simp only [List.length_cons, List.length_nil, Int.toNat_natCast]; omega) | (rw [hl]; omega)) ?_
        | refine seqI rfl ?_
        | refine regI rfl ?_
        | refine scopeI rfl ?_
        | refine blockI rfl ?_
        | refine exitI rfl ?_
        | refine retI rfl ?_
        | refine skipI rfl ?_)
      refine endR rfl ?_
      repeat' (first | exact trivial | exact rfl | refine ⟨rfl, ?_⟩ | refine And.intro ?_ ?_)
      unfold busyF
      rw [toolB_of h1 h2, show decide (s < e) = true by simp; omega]
      simp [toolL]
end Go.AM.Ytkacoophnfljcaa
