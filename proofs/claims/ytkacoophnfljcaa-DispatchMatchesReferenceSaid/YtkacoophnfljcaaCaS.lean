/- What the calendars' laws share: arbitrary numbers as bookings, calendars in which they are made, equality. -/
import Derived.Test.YtkacoophnfljcaaCaC
import Derived.Test.YtkacoophnfljcaaCaD
set_option linter.all false
namespace Go.AM.Ytkacoophnfljcaa
open Go.Proofs
set_option maxRecDepth 100000
set_option maxHeartbeats 4000000

/-! ### pick -/

def pickF (c n : Int) : Int := (if c < 0 then -(c + 1) else c) % n
def pickP : Spec := plain fun
  | [.int .i64 c, .int .i64 n] => outV (0 < n) (.int .i64 (pickF c n))
  | _ => none
theorem pick_b {c n : Int} (h : 0 < n) : 0 ≤ pickF c n ∧ pickF c n < n := ⟨Int.emod_nonneg _ (by omega), Int.emod_lt_of_pos _ h⟩
theorem pickF_neg {c n : Int} (h : 0 < n) (c1 : c < 0) : pickF c n = (0 - (c + 1)).tmod n := by
  unfold pickF; rw [if_pos c1, Int.tmod_eq_emod_of_nonneg (by omega)]; congr 1; omega
theorem pickF_pos {c n : Int} (h : 0 < n) (c1 : ¬ c < 0) : pickF c n = c.tmod n := by
  unfold pickF; rw [if_neg c1, Int.tmod_eq_emod_of_nonneg (by omega)]

theorem pickROk : SpecSound Try.prog 44 pickP := by
  refine soundP (envOf sigNil) Try.func44 (c := body Try.f44) rfl (by kernel_rfl) rfl ?_
  intro args out hf hpre
  split at hf <;> try (cases hf; done)
  rename_i c n
  cases hf
  refine ⟨Nat.le_of_ble_eq_true rfl, initI rfl ?_⟩
  refine factInt (t := 0) rfl (fun hc => ?_)
  have hc := wrap64 hc
  change 0 < n at hpre
  repeat' (first
    | with_reducible refine pN ?_
    | with_reducible refine cN ?_
    | with_reducible refine bN ?_
    | with_reducible refine cE ?_
    | with_reducible refine cR ?_
    | with_reducible refine bR ?_
    | with_reducible refine lE ?_
    | with_reducible refine lR ?_
    | with_reducible refine jE ?_
    | with_reducible refine jR ?_
    | refine bE rfl ?_
    | refine bP rfl ?_
    | refine pC (by first | exact True.intro | omega | (intros; first | exact True.intro | omega) | (simp only [List.length_cons, List.length_nil, Int.toNat_natCast]; omega)) ?_
    | refine seqI rfl ?_
    | refine regI rfl ?_
    | refine scopeI rfl ?_
    | refine blockI rfl ?_
    | refine exitI rfl ?_
    | refine retI rfl ?_
    | refine skipI rfl ?_)
  refine condI rfl (fun c1 => ?_) (fun c1 => ?_)
  · simp only [decide_eq_true_eq] at c1
    repeat' (first
      | with_reducible refine pN ?_
      | with_reducible refine cN ?_
      | with_reducible refine bN ?_
      | with_reducible refine cE ?_
      | with_reducible refine cR ?_
      | with_reducible refine bR ?_
      | with_reducible refine lE ?_
      | with_reducible refine lR ?_
      | with_reducible refine jE ?_
      | with_reducible refine jR ?_
      | refine bE rfl ?_
      | refine bP rfl ?_
      | refine pC (by first | exact True.intro | omega | (intros; first | exact True.intro | omega) | (simp only [List.length_cons, List.length_nil, Int.toNat_natCast]; omega)) ?_
      | refine seqI rfl ?_
      | refine regI rfl ?_
      | refine scopeI rfl ?_
      | refine blockI rfl ?_
      | refine exitI rfl ?_
      | refine retI rfl ?_
      | refine skipI rfl ?_)
    refine endR rfl ?_
    repeat' (first | exact trivial | exact rfl | refine ⟨rfl, ?_⟩ | refine And.intro ?_ ?_)
    exact pickF_neg hpre c1
  · simp only [decide_eq_false_iff_not] at c1
    repeat' (first
      | with_reducible refine pN ?_
      | with_reducible refine cN ?_
      | with_reducible refine bN ?_
      | with_reducible refine cE ?_
      | with_reducible refine cR ?_
      | with_reducible refine bR ?_
      | with_reducible refine lE ?_
      | with_reducible refine lR ?_
      | with_reducible refine jE ?_
      | with_reducible refine jR ?_
      | refine bE rfl ?_
      | refine bP rfl ?_
      | refine pC (by first | exact True.intro | omega | (intros; first | exact True.intro | omega) | (simp only [List.length_cons, List.length_nil, Int.toNat_natCast]; omega)) ?_
      | refine seqI rfl ?_
      | refine regI rfl ?_
      | refine scopeI rfl ?_
      | refine blockI rfl ?_
      | refine exitI rfl ?_
      | refine retI rfl ?_
      | refine skipI rfl ?_)
    refine endR rfl ?_
    repeat' (first | exact trivial | exact rfl | refine ⟨rfl, ?_⟩ | refine And.intro ?_ ?_)
    exact pickF_pos hpre c1

def sigPick : List (Nat × Spec) := [(44, pickP)]
theorem sigPickOk : SigOk Try.prog (look sigPick) := sigCons sigNil Try.func44 (by kernel_rfl) (c := body Try.f44) rfl pickROk

/-! ### Some -/

/-- Four numbers as a booking. -/
def mkB (e : t4.El) : Bk.El := (pickF e.1 6, pickF e.2.1 300, pickF e.2.1 300 + 1 + pickF e.2.2.1 40, 1 + pickF e.2.2.2 6)
def someF (x : List t4.El) : List Bk.El := (x.take 40).map mkB

theorem someF_len (x : List t4.El) : (someF x).length ≤ 40 := by unfold someF; simp; omega

def someS : Spec := plain fun
  | [.sl (.pair (.int .i64) (.pair (.int .i64) (.pair (.int .i64) (.int .i64)))) x] => some ⟨True, .own 0, [.seq Bk (someF x)], false⟩
  | _ => none

theorem someOk : SpecSound Try.prog 14 someS := by
  refine soundP (envOf sigPickOk) Try.func14 (c := body Try.f14) rfl (by kernel_rfl) rfl ?_
  intro args out hf hpre
  split at hf <;> try (cases hf; done)
  rename_i x
  cases hf
  refine ⟨Nat.le_of_ble_eq_true rfl, initI (args := [.sl t4 x]) rfl ?_⟩
  refine factSl (t := 0) (ty := t4) rfl (fun hxs => ?_)
  have hmx : x.length ≤ 9223372036854775807 := by have := hxs.1; unfold maxLen at this; omega
  repeat' (first
    | with_reducible refine pN ?_
    | with_reducible refine cN ?_
    | with_reducible refine bN ?_
    | with_reducible refine cE ?_
    | with_reducible refine cR ?_
    | with_reducible refine bR ?_
    | with_reducible refine lE ?_
    | with_reducible refine lR ?_
    | with_reducible refine jE ?_
    | with_reducible refine jR ?_
    | refine bE rfl ?_
    | refine bP rfl ?_
    | refine pC (by first | exact True.intro | omega | (intros; first | exact True.intro | omega) | (simp only [List.length_cons, List.length_nil, Int.toNat_natCast]; omega)) ?_
    | refine seqI rfl ?_
    | refine regI rfl ?_
    | refine scopeI rfl ?_
    | refine blockI rfl ?_
    | refine exitI rfl ?_
    | refine retI rfl ?_
    | refine skipI rfl ?_)
  refine loopI (σ := Nat) (fun i => [(3, .own 3000), (4, .int .i64 i)]) (fun i => [(3000, .seq Bk ((x.take i).map mkB))]) (fun i => i ≤ x.length ∧ i ≤ 40) (fun i => 40 - i) 0 rfl (fun _ => rfl) rfl ?_ ?_ ?_
  · exact ⟨Nat.zero_le _, Nat.zero_le _⟩
  · repeat' (first | exact trivial | exact rfl | refine ⟨rfl, ?_⟩ | refine And.intro ?_ ?_)
  · intro i ⟨hi, hi40⟩
    repeat' (first
      | with_reducible refine pN ?_
      | with_reducible refine cN ?_
      | with_reducible refine bN ?_
      | with_reducible refine cE ?_
      | with_reducible refine cR ?_
      | with_reducible refine bR ?_
      | with_reducible refine lE ?_
      | with_reducible refine lR ?_
      | with_reducible refine jE ?_
      | with_reducible refine jR ?_
      | refine bE rfl ?_
      | refine bP rfl ?_
      | refine pC (by first | exact True.intro | omega | (intros; first | exact True.intro | omega) | (simp only [List.length_cons, List.length_nil, Int.toNat_natCast]; omega)) ?_
      | refine seqI rfl ?_
      | refine regI rfl ?_
      | refine scopeI rfl ?_
      | refine blockI rfl ?_
      | refine exitI rfl ?_
      | refine retI rfl ?_
      | refine skipI rfl ?_)
    refine condI rfl (fun c1 => ?_) (fun c1 => ?_)
    · simp only [Bool.and_eq_true, decide_eq_true_eq] at c1
      have hix : i < x.length := by omega
      have hin : ((i : Int)).toNat = i := by omega
      have b1 := fun c : Int => pick_b (c := c) (n := 300) (by omega)
      have b2 := fun c : Int => pick_b (c := c) (n := 40) (by omega)
      have b3 := fun c : Int => pick_b (c := c) (n := 6) (by omega)
      have e1 := b1 (getI x t4.dflt ((i : Int)).toNat).2.1
      have e2 := b2 (getI x t4.dflt ((i : Int)).toNat).2.2.1
      have e3 := b3 (getI x t4.dflt ((i : Int)).toNat).2.2.2
      repeat' (first
        | with_reducible refine pN ?_
        | with_reducible refine cN ?_
        | with_reducible refine bN ?_
        | with_reducible refine cE ?_
        | with_reducible refine cR ?_
        | with_reducible refine bR ?_
        | with_reducible refine lE ?_
        | with_reducible refine lR ?_
        | with_reducible refine jE ?_
        | with_reducible refine jR ?_
        | refine bE rfl ?_
        | refine bP rfl ?_
        | refine pC (by first | exact True.intro | omega | (intros; first | exact True.intro | omega) | (simp only [List.length_cons, List.length_nil, Int.toNat_natCast]; omega) | (simp only [List.length_append, List.length_map, List.length_take, List.length_cons, List.length_nil]; omega)) ?_
        | refine seqI rfl ?_
        | refine regI rfl ?_
        | refine scopeI rfl ?_
        | refine blockI rfl ?_
        | refine exitI rfl ?_
        | refine retI rfl ?_
        | refine skipI rfl ?_)
      refine roundI (i + 1) rfl ?_ ?_ ?_
      · exact ⟨by omega, by omega⟩
      · show 40 - (i + 1) < 40 - i
        omega
      · repeat' (first | exact trivial | exact rfl | refine ⟨rfl, ?_⟩ | refine And.intro ?_ ?_)
        rw [take_succ_getI (d := t4.dflt) hix, List.map_append, hin]
        rfl
    · simp only [Bool.and_eq_false_iff, decide_eq_false_iff_not] at c1
      repeat' (first
        | with_reducible refine pN ?_
        | with_reducible refine cN ?_
        | with_reducible refine bN ?_
        | with_reducible refine cE ?_
        | with_reducible refine cR ?_
        | with_reducible refine bR ?_
        | with_reducible refine lE ?_
        | with_reducible refine lR ?_
        | with_reducible refine jE ?_
        | with_reducible refine jR ?_
        | refine bE rfl ?_
        | refine bP rfl ?_
        | refine pC (by first | exact True.intro | omega | (intros; first | exact True.intro | omega) | (simp only [List.length_cons, List.length_nil, Int.toNat_natCast]; omega)) ?_
        | refine seqI rfl ?_
        | refine regI rfl ?_
        | refine scopeI rfl ?_
        | refine blockI rfl ?_
        | refine exitI rfl ?_
        | refine retI rfl ?_
        | refine skipI rfl ?_)
      refine endR rfl ?_
      repeat' (first | exact trivial | exact rfl | refine ⟨rfl, ?_⟩ | refine And.intro ?_ ?_)
      unfold someF
      rcases c1 with c1 | c1
      · rw [List.take_of_length_le (i := i) (by omega), List.take_of_length_le (i := 40) (by omega)]
      · rw [show i = 40 by omega]

/-! ### Same -/

def sameB : List Bk.El → List Bk.El → Bool
  | [], [] => true
  | a :: l, b :: m => (decide (a.1 = b.1) && (decide (a.2.1 = b.2.1) && (decide (a.2.2.1 = b.2.2.1) && decide (a.2.2.2 = b.2.2.2)))) && sameB l m
  | _, _ => false

theorem bk_ext {a b : Bk.El} (h : (decide (a.1 = b.1) && (decide (a.2.1 = b.2.1) && (decide (a.2.2.1 = b.2.2.1) && decide (a.2.2.2 = b.2.2.2)))) = true) : a = b := by
  simp only [Bool.and_eq_true, decide_eq_true_eq] at h
  obtain ⟨h1, h2, h3, h4⟩ := h
  exact Prod.ext h1 (Prod.ext h2 (Prod.ext h3 h4))

theorem sameB_iff : ∀ {a b : List Bk.El}, sameB a b = true ↔ a = b
  | [], [] => by simp [sameB]
  | [], _ :: _ => by simp [sameB]
  | _ :: _, [] => by simp [sameB]
  | a :: l, b :: m => by
    rw [sameB, Bool.and_eq_true, sameB_iff]
    constructor
    · rintro ⟨h1, rfl⟩
      rw [bk_ext h1]
    · intro h
      injection h with h1 h2
      subst h1 h2
      simp

theorem sameB_false {a b : List Bk.El} (h : a ≠ b) : sameB a b = false := by
  cases hs : sameB a b
  · rfl
  · exact absurd (sameB_iff.1 hs) h

def sameS : Spec := plain fun
  | [.sl (.pair (.int .i64) (.pair (.int .i64) (.pair (.int .i64) (.int .i64)))) a, .sl (.pair (.int .i64) (.pair (.int .i64) (.pair (.int .i64) (.int .i64)))) b] => outV True (.bool (sameB a b))
  | _ => none

theorem take_eq_succ {a b : List Bk.El} {i : Nat} (ha : i < a.length) (hb : i < b.length) (h : a.take i = b.take i) (he : getI a Bk.dflt i = getI b Bk.dflt i) : a.take (i + 1) = b.take (i + 1) := by
  rw [take_succ_getI (d := Bk.dflt) ha, take_succ_getI (d := Bk.dflt) hb, h, he]

/-! ### equal -/

def eqC : List (List Bk.El) → List (List Bk.El) → Bool
  | [], [] => true
  | a :: l, b :: m => sameB a b && eqC l m
  | _, _ => false
theorem eqC_iff : ∀ {a b : List (List Bk.El)}, eqC a b = true ↔ a = b
  | [], [] => by simp [eqC]
  | [], _ :: _ => by simp [eqC]
  | _ :: _, [] => by simp [eqC]
  | a :: l, b :: m => by rw [eqC, Bool.and_eq_true, eqC_iff, sameB_iff]; simp
theorem eqC_false {a b : List (List Bk.El)} (h : a ≠ b) : eqC a b = false := by
  cases hs : eqC a b
  · rfl
  · exact absurd (eqC_iff.1 hs) h

def equalS : Spec := plain fun
  | [.ext (.cref (.pair (.int .i64) (.pair (.int .i64) (.pair (.int .i64) (.int .i64)))) a 0), .ext (.cref (.pair (.int .i64) (.pair (.int .i64) (.pair (.int .i64) (.int .i64)))) b 0)] => outV (Cal a ∧ Cal b) (.bool (eqC a b))
  | _ => none

theorem listF_get {a : List (List Bk.El)} {i : Nat} (h : i < 60) : listF a (i : Int) = getI a [] i := by
  unfold listF
  rw [if_pos (toolB_of (by omega) (by omega))]
  simp [toolL]

end Go.AM.Ytkacoophnfljcaa
