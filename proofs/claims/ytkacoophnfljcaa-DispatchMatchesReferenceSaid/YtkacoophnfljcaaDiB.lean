/- Package dispatch: the rules, and jobs in order. -/
import Derived.Test.YtkacoophnfljcaaDiA
import Derived.Test.YtkacoophnfljcaaCaC
set_option linter.all false
namespace Go.AM.Ytkacoophnfljcaa
open Go.Proofs
set_option maxRecDepth 100000
set_option maxHeartbeats 8000000

/-! ### known -/

/-- The closures that 'known' makes, as what they answer. -/
def seeK : List AV → List AV
  | [.fn 74 [] []] => [.ext (.fn1 tJob .bool jHot)]
  | [.fn 75 [] []] => [.ext (.fn1 tJob (.int .i64) jDue)]
  | [.fn 76 [] [.el (.int .i64) [rc] 0 0]] => [.ext (.fn1 tJob .bool fun j => decide (jRec j = rc))]
  | [.fn 77 [] []] => [.ext (.fn1 tJob (.int .i64) jArr)]
  | [.fn 78 [] []] => [.ext (.fn1 tJob (.int .i64) jLen)]
  | [.fn 53 [] []] => [.ext (.fn1 tJob (.int .i64) jLot)]
  | l => l

theorem seen_k1 : Seen (.fn 74 [] []) (.ext (.fn1 tJob .bool jHot)) := seen1 k1Ok (callF Try.func74 (by kernel_rfl) (c := body Try.f74) rfl) rfl rfl rfl rfl fun x => ⟨_, rfl, trivial, rfl⟩
theorem seen_k2 : Seen (.fn 75 [] []) (.ext (.fn1 tJob (.int .i64) jDue)) := seen1 k2Ok (callF Try.func75 (by kernel_rfl) (c := body Try.f75) rfl) rfl rfl rfl rfl fun x => ⟨_, rfl, trivial, rfl⟩
theorem seen_k3 (rc : Int) : Seen (.fn 76 [] [.el (.int .i64) [rc] 0 0]) (.ext (.fn1 tJob .bool fun j => decide (jRec j = rc))) := seen1 k3Ok (callF Try.func76 (by kernel_rfl) (c := body Try.f76) rfl) rfl rfl rfl rfl fun x => ⟨_, rfl, trivial, rfl⟩
theorem seen_k4 : Seen (.fn 77 [] []) (.ext (.fn1 tJob (.int .i64) jArr)) := seen1 k4Ok (callF Try.func77 (by kernel_rfl) (c := body Try.f77) rfl) rfl rfl rfl rfl fun x => ⟨_, rfl, trivial, rfl⟩
theorem seen_k5 : Seen (.fn 78 [] []) (.ext (.fn1 tJob (.int .i64) jLen)) := seen1 k5Ok (callF Try.func78 (by kernel_rfl) (c := body Try.f78) rfl) rfl rfl rfl rfl fun x => ⟨_, rfl, trivial, rfl⟩
theorem seen_lot : Seen (.fn 53 [] []) (.ext (.fn1 tJob (.int .i64) jLot)) := seen1 lotOk (callF Try.func53 (by kernel_rfl) (c := body Try.f53) rfl) rfl rfl rfl rfl fun x => ⟨_, rfl, trivial, rfl⟩

theorem seeK_rel : ∀ (g : Nat → Gh) (K R : Nat → Prop) (w : World) (args : List AV) (vals : List Value), RelL g K R w args vals → RelL g K R w (seeK args) vals := by
  intro g K R w args vals h
  unfold seeK
  split
  · cases h with | cons h1 h2 => exact .cons (seen_k1 _ _ _ _ _ h1) h2
  · cases h with | cons h1 h2 => exact .cons (seen_k2 _ _ _ _ _ h1) h2
  · cases h with | cons h1 h2 => exact .cons (seen_k3 _ _ _ _ _ _ h1) h2
  · cases h with | cons h1 h2 => exact .cons (seen_k4 _ _ _ _ _ h1) h2
  · cases h with | cons h1 h2 => exact .cons (seen_k5 _ _ _ _ _ h1) h2
  · cases h with | cons h1 h2 => exact .cons (seen_lot _ _ _ _ _ h1) h2
  · exact h

def riseK : Spec := ⟨true, fun args rows => riseS.f (seeK args) rows⟩
def holdK : Spec := ⟨true, fun args rows => holdS.f (seeK args) rows⟩
def sigKnown : List (Nat × Spec) := [(52, riseK), (73, holdK), (79, k6S)]
theorem sigKnownOk : SigOk Try.prog (look sigKnown) := sigCons (sigCons (sigCons sigNil
  Try.func79 (by kernel_rfl) (c := body Try.f79) rfl k6Ok)
  Try.func73 (by kernel_rfl) (c := body Try.f73) rfl (holdOk.see seeK seeK_rel))
  Try.func52 (by kernel_rfl) (c := body Try.f52) rfl (riseOk.see seeK seeK_rel)

def cntC (x y : JobT) : Int := cmpI (jCnt y) (jCnt x)

/-- All rules, for a recipe. -/
def ruleM (rc : Int) : List (Int × (JobT → JobT → Int)) := [(1, holdC jHot), (2, riseC jDue), (3, holdC fun j => decide (jRec j = rc)), (4, riseC jArr), (5, riseC jLen), (6, cntC)]

def knownS : Spec := ⟨true, fun args rows => match args, rows with
  | [.int .i64 rc], [] => some ⟨True, .own 0, [.map (.int .i64) tCmp (ruleM rc)], true⟩
  | _, _ => none⟩
theorem knownOk : SpecSound Try.prog 51 knownS := by
  refine soundR (envOf sigKnownOk) Try.func51 (c := body Try.f51) rfl (by kernel_rfl) rfl ?_
  intro args rows out hf hpre
  split at hf <;> try (cases hf; done)
  rename_i rc
  cases hf
  refine ⟨Nat.le_of_ble_eq_true rfl, initI (args := [.int .i64 rc]) (rows := []) rfl ?_⟩
  refine seqI rfl ?_
  refine regI rfl ?_
  repeat' (first | with_reducible refine pN ?_)
  with_reducible refine cN ?_
  refine freezeBoxI 1 (.int .i64) rfl ?_
  repeat' (first
    | with_reducible refine pN ?_
    | with_reducible refine cN ?_
    | with_reducible refine bN ?_
    | with_reducible refine cE ?_
    | with_reducible refine cR ?_
    | with_reducible refine bR ?_
    | with_reducible refine lE ?_
    | with_reducible refine lR ?_
    | with_reducible refine jE ?_
    | with_reducible refine jR ?_
    | refine bE rfl ?_
    | refine bP rfl ?_
    | refine pC (by first | exact True.intro | omega | (intros; first | exact True.intro | omega) | (simp only [List.length_cons, List.length_nil, Int.toNat_natCast]; omega)) ?_
    | refine seqI rfl ?_
    | refine regI rfl ?_
    | refine scopeI rfl ?_
    | refine blockI rfl ?_
    | refine exitI rfl ?_
    | refine retI rfl ?_
    | refine skipI rfl ?_)
  refine pC rfl (pC (fun x x' => ⟨⟨rfl, trivial⟩, rfl⟩) (pN ?_))
  repeat' (first
    | with_reducible refine pN ?_
    | with_reducible refine cN ?_
    | with_reducible refine bN ?_
    | with_reducible refine cE ?_
    | with_reducible refine cR ?_
    | with_reducible refine bR ?_
    | with_reducible refine lE ?_
    | with_reducible refine lR ?_
    | with_reducible refine jE ?_
    | with_reducible refine jR ?_
    | refine bE rfl ?_
    | refine bP rfl ?_
    | refine pC (by first | exact True.intro | omega | (intros; first | exact True.intro | omega) | (simp only [List.length_cons, List.length_nil, Int.toNat_natCast]; omega)) ?_
    | refine seqI rfl ?_
    | refine regI rfl ?_
    | refine scopeI rfl ?_
    | refine blockI rfl ?_
    | refine exitI rfl ?_
    | refine retI rfl ?_
    | refine skipI rfl ?_)
  refine endR rfl ?_
  repeat' (first | exact trivial | exact rfl | refine ⟨rfl, ?_⟩ | refine And.intro ?_ ?_)

/-! ### Valid -/

def ruleOk (r : Int) : Prop := 1 ≤ r ∧ r ≤ 6
instance (r : Int) : Decidable (ruleOk r) := by unfold ruleOk; infer_instance
def RulesOk (rs : List Int) : Prop := (∀ r ∈ rs, ruleOk r) ∧ rs.Nodup
instance (rs : List Int) : Decidable (RulesOk rs) := by unfold RulesOk; infer_instance
def rulesB (rs : List Int) : Bool := decide (RulesOk rs)

def marks (rs : List Int) : List (Int × Bool) := rs.map fun r => (r, true)

theorem mark_find {r : Int} : ∀ {rs : List Int}, ((mapFind (.int .i64) .bool r (marks rs)).getD false) = decide (r ∈ rs)
  | [] => rfl
  | x :: rs => by
    have ih := mark_find (r := r) (rs := rs)
    unfold marks at ih ⊢
    simp only [List.map_cons, mapFind, keyEq]
    by_cases h : r = x
    · simp [h]
    · simp [h]
      exact ih
theorem mark_set {r : Int} : ∀ {rs : List Int}, r ∉ rs → mapSet (.int .i64) .bool r true (marks rs) = marks (rs ++ [r])
  | [], _ => rfl
  | x :: rs, h => by
    have hx : r ≠ x := fun e => h (by simp [e])
    have ih := mark_set (r := r) (rs := rs) (fun hm => h (by simp [hm]))
    unfold marks at ih ⊢
    simp only [List.map_cons, mapSet, keyEq, List.cons_append]
    simp [hx]
    rw [ih, List.map_append]
    rfl

def validRS : Spec := plain fun
  | [.sl (.int .i64) rs] => outV (List.length (α := Int) rs ≤ 1000000) (.bool (rulesB rs))
  | _ => none

def badRule (r : Int) (m : Bool) : Bool := (decide (r < 1) || decide (6 < r)) || m

theorem validROk : SpecSound Try.prog 27 validRS := by
  refine soundP (envOf sigNil) Try.func27 (c := body Try.f27) rfl (by kernel_rfl) rfl ?_
  intro args out hf hpre
  split at hf <;> try (cases hf; done)
  rename_i rs
  cases hf
  refine ⟨Nat.le_of_ble_eq_true rfl, initI (args := [.sl tInt rs]) rfl ?_⟩
  change List.length (α := Int) rs ≤ 1000000 at hpre
  repeat' (first
    | with_reducible refine pN ?_
    | with_reducible refine cN ?_
    | with_reducible refine bN ?_
    | with_reducible refine cE ?_
    | with_reducible refine cR ?_
    | with_reducible refine bR ?_
    | with_reducible refine lE ?_
    | with_reducible refine lR ?_
    | with_reducible refine jE ?_
    | with_reducible refine jR ?_
    | refine bE rfl ?_
    | refine bP rfl ?_
    | refine pC (by first | exact True.intro | omega | (intros; first | exact True.intro | omega) | (simp only [List.length_cons, List.length_nil, Int.toNat_natCast]; omega)) ?_
    | refine seqI rfl ?_
    | refine regI rfl ?_
    | refine scopeI rfl ?_
    | refine blockI rfl ?_
    | refine exitI rfl ?_
    | refine retI rfl ?_
    | refine skipI rfl ?_)
  refine loopI (σ := Nat) (fun i => [(3, .own 3000), (9, .int .i64 i)]) (fun i => [(3000, .map (.int .i64) .bool (marks (List.take (α := Int) i rs)))]) (fun i => i ≤ List.length (α := Int) rs ∧ RulesOk (List.take (α := Int) i rs)) (fun i => List.length (α := Int) rs - i) 0 rfl (fun _ => rfl) rfl ?_ ?_ ?_
  · exact ⟨Nat.zero_le _, fun r h => by simp at h, by simp⟩
  · repeat' (first | exact trivial | exact rfl | refine ⟨rfl, ?_⟩ | refine And.intro ?_ ?_)
  rintro i ⟨hi, hok⟩
  repeat' (first
    | with_reducible refine pN ?_
    | with_reducible refine cN ?_
    | with_reducible refine bN ?_
    | with_reducible refine cE ?_
    | with_reducible refine cR ?_
    | with_reducible refine bR ?_
    | with_reducible refine lE ?_
    | with_reducible refine lR ?_
    | with_reducible refine jE ?_
    | with_reducible refine jR ?_
    | refine bE rfl ?_
    | refine bP rfl ?_
    | refine pC (by first | exact True.intro | omega | (intros; first | exact True.intro | omega) | (simp only [List.length_cons, List.length_nil, Int.toNat_natCast]; omega)) ?_
    | refine seqI rfl ?_
    | refine regI rfl ?_
    | refine scopeI rfl ?_
    | refine blockI rfl ?_
    | refine exitI rfl ?_
    | refine retI rfl ?_
    | refine skipI rfl ?_)
  refine condI rfl (fun c1 => ?_) (fun c1 => ?_)
  · simp only [decide_eq_true_eq] at c1
    have hil : i < List.length (α := Int) rs := by omega
    have hin : ((i : Int)).toNat = i := by omega
    have htk : List.take (α := Int) (i + 1) rs = List.take (α := Int) i rs ++ [getI rs (0 : Int) i] := take_succ_getI (d := (0 : Int)) hil
    repeat' (first
      | with_reducible refine pN ?_
      | with_reducible refine cN ?_
      | with_reducible refine bN ?_
      | with_reducible refine cE ?_
      | with_reducible refine cR ?_
      | with_reducible refine bR ?_
      | with_reducible refine lE ?_
      | with_reducible refine lR ?_
      | with_reducible refine jE ?_
      | with_reducible refine jR ?_
      | refine bE rfl ?_
      | refine bP rfl ?_
      | refine pC (by first | exact True.intro | omega | (intros; first | exact True.intro | omega) | (simp only [List.length_cons, List.length_nil, Int.toNat_natCast]; omega)) ?_
      | refine seqI rfl ?_
      | refine regI rfl ?_
      | refine scopeI rfl ?_
      | refine blockI rfl ?_
      | refine exitI rfl ?_
      | refine retI rfl ?_
      | refine skipI rfl ?_)
    refine condI rfl (fun c2 => ?_) (fun c2 => ?_)
    · have c2' : badRule (getI rs (0 : Int) i) ((mapFind (.int .i64) .bool (getI rs (0 : Int) i) (marks (List.take (α := Int) i rs))).getD false) = true := c2
      repeat' (first
        | with_reducible refine pN ?_
        | with_reducible refine cN ?_
        | with_reducible refine bN ?_
        | with_reducible refine cE ?_
        | with_reducible refine cR ?_
        | with_reducible refine bR ?_
        | with_reducible refine lE ?_
        | with_reducible refine lR ?_
        | with_reducible refine jE ?_
        | with_reducible refine jR ?_
        | refine bE rfl ?_
        | refine bP rfl ?_
        | refine pC (by first | exact True.intro | omega | (intros; first | exact True.intro | omega) | (simp only [List.length_cons, List.length_nil, Int.toNat_natCast]; omega)) ?_
        | refine seqI rfl ?_
        | refine regI rfl ?_
        | refine scopeI rfl ?_
        | refine blockI rfl ?_
        | refine exitI rfl ?_
        | refine retI rfl ?_
        | refine skipI rfl ?_)
      refine endR rfl ?_
      repeat' (first | exact trivial | exact rfl | refine ⟨rfl, ?_⟩ | refine And.intro ?_ ?_)
      unfold badRule at c2'
      rw [mark_find] at c2'
      simp only [Bool.or_eq_true, decide_eq_true_eq] at c2'
      unfold rulesB
      refine decide_eq_false fun h => ?_
      have hmem : getI rs (0 : Int) i ∈ rs := by
        have := List.getElem_mem (l := (rs : List Int)) (n := i) hil
        simpa [getI, List.getD, List.getElem?_eq_getElem hil] using this
      have hr := h.1 _ hmem
      unfold ruleOk at hr
      rcases c2' with (h1 | h1) | h1
      · omega
      · omega
      · have hnd : (List.take (α := Int) (i + 1) rs).Nodup := h.2.sublist (List.take_sublist _ _)
        rw [htk, List.nodup_append] at hnd
        exact hnd.2.2 _ h1 _ (List.mem_singleton.2 rfl) rfl
    · have c2' : badRule (getI rs (0 : Int) i) ((mapFind (.int .i64) .bool (getI rs (0 : Int) i) (marks (List.take (α := Int) i rs))).getD false) = false := c2
      unfold badRule at c2'
      rw [mark_find] at c2'
      simp only [Bool.or_eq_false_iff, decide_eq_false_iff_not] at c2'
      repeat' (first
        | with_reducible refine pN ?_
        | with_reducible refine cN ?_
        | with_reducible refine bN ?_
        | with_reducible refine cE ?_
        | with_reducible refine cR ?_
        | with_reducible refine bR ?_
        | with_reducible refine lE ?_
        | with_reducible refine lR ?_
        | with_reducible refine jE ?_
        | with_reducible refine jR ?_
        | refine bE rfl ?_
        | refine bP rfl ?_
        | refine pC (by first | exact True.intro | omega | (intros; first | exact True.intro | omega) | (simp only [List.length_cons, List.length_nil, Int.toNat_natCast]; omega)) ?_
        | refine seqI rfl ?_
        | refine regI rfl ?_
        | refine scopeI rfl ?_
        | refine blockI rfl ?_
        | refine exitI rfl ?_
        | refine retI rfl ?_
        | refine skipI rfl ?_)
      refine roundI (i + 1) rfl ?_ ?_ ?_
      · refine ⟨by show i + 1 ≤ List.length (α := Int) rs; omega, ?_⟩
        show RulesOk (List.take (α := Int) (i + 1) rs)
        rw [htk]
        refine ⟨fun r hr => ?_, ?_⟩
        · rcases List.mem_append.1 hr with hr | hr
          · exact hok.1 r hr
          · rw [List.mem_singleton.1 hr]
            unfold ruleOk
            omega
        · rw [List.nodup_append]
          refine ⟨hok.2, by simp, fun x hx y hy e => ?_⟩
          rw [List.mem_singleton.1 hy] at e
          exact c2'.2 (e ▸ hx)
      · show List.length (α := Int) rs - (i + 1) < List.length (α := Int) rs - i
        omega
      · repeat' (first | exact trivial | with_reducible exact rfl | refine And.intro ?_ ?_)
        all_goals first | rfl | skip
        show marks (List.take (α := Int) (i + 1) rs) = _
        rw [htk]
        exact (mark_set c2'.2).symm
  · simp only [decide_eq_false_iff_not] at c1
    rw [List.take_of_length_le (by omega)] at hok
    repeat' (first
      | with_reducible refine pN ?_
      | with_reducible refine cN ?_
      | with_reducible refine bN ?_
      | with_reducible refine cE ?_
      | with_reducible refine cR ?_
      | with_reducible refine bR ?_
      | with_reducible refine lE ?_
      | with_reducible refine lR ?_
      | with_reducible refine jE ?_
      | with_reducible refine jR ?_
      | refine bE rfl ?_
      | refine bP rfl ?_
      | refine pC (by first | exact True.intro | omega | (intros; first | exact True.intro | omega) | (simp only [List.length_cons, List.length_nil, Int.toNat_natCast]; omega)) ?_
      | refine seqI rfl ?_
      | refine regI rfl ?_
      | refine scopeI rfl ?_
      | refine blockI rfl ?_
      | refine exitI rfl ?_
      | refine retI rfl ?_
      | refine skipI rfl ?_)
    refine endR rfl ?_
    repeat' (first | exact trivial | exact rfl | refine ⟨rfl, ?_⟩ | refine And.intro ?_ ?_)
    unfold rulesB
    rw [decide_eq_true hok]
end Go.AM.Ytkacoophnfljcaa
