/- The law CalendarExclusive: her function. -/
import Derived.Test.YtibjkdbmlmmcjaaCaU
set_option linter.all false
namespace Go.AM.Ytibjkdbmlmmcjaa
open Go.Proofs
set_option maxRecDepth 100000
set_option maxHeartbeats 8000000

/-- The accepted bookings, and the calendar that they are in. -/
structure Kept (xss : List (List Bk.El)) (kept : List Bk.El) : Prop where
  mem : ∀ c, 0 ≤ tlB c → (inC xss c ↔ c ∈ kept)
  len : lenF xss = kept.length
  pos : ∀ c ∈ kept, 0 ≤ tlB c

theorem kept_no : Kept noCal [] := ⟨fun c _ => by
  unfold inC toolL
  have : getI noCal [] (tlB c).toNat = [] := by
    unfold getI noCal
    rw [List.getD_eq_getElem?_getD, List.getElem?_replicate]
    split <;> rfl
  rw [this], lenF_no, by simp⟩

def clashB (b c : Bk.El) : Bool := decide (c.1 = b.1) && decide (c.2.1 < b.2.2.1) && decide (b.2.1 < c.2.2.1)
theorem clash_iff {b c : Bk.El} : clashB b c = true ↔ tlB c = tlB b ∧ meet c b := by
  unfold clashB
  simp only [Bool.and_eq_true, decide_eq_true_eq]
  exact ⟨fun ⟨⟨h1, h2⟩, h3⟩ => ⟨h1, h2, h3⟩, fun ⟨h1, h2, h3⟩ => ⟨⟨h1, h2⟩, h3⟩⟩

theorem Kept.free {xss : List (List Bk.El)} {kept : List Bk.El} (h : Kept xss kept) (g : CalG xss) (b : Bk.El) : freeF xss b = (!(kept.any (clashB b)) && validB b.1 b.2.1 b.2.2.1 b.2.2.2) := by
  rw [Bool.eq_iff_iff, free_iff, Bool.and_eq_true, validB_iff]
  constructor
  · rintro ⟨h1, h2⟩
    refine ⟨?_, h1⟩
    rw [Bool.not_eq_true', List.any_eq_false]
    intro c hc hcl
    obtain ⟨h3, h4⟩ := clash_iff.1 hcl
    have h5 := (h.mem c (h.pos c hc)).2 hc
    unfold inC at h5
    rw [h3] at h5
    exact h2 c h5 h4
  · rintro ⟨h1, h2⟩
    refine ⟨h2, fun c hc hm => ?_⟩
    rw [Bool.not_eq_true', List.any_eq_false] at h1
    have ht : tlB c = tlB b := by
      have := ((g.tool h2.t0 h2.t1).all c hc).2
      have := h2.t0
      have := ((g.tool h2.t0 h2.t1).all c hc).1.t0
      omega
    exact h1 c ((h.mem c (by rw [ht]; exact h2.t0)).1 (by unfold inC; rw [ht]; exact hc)) (clash_iff.2 ⟨ht, hm⟩)

theorem Kept.yes {xss : List (List Bk.El)} {kept : List Bk.El} (h : Kept xss kept) (g : CalG xss) {b : Bk.El} (hf : freeF xss b = true) : Kept (bookF xss b) (kept ++ [b]) := by
  obtain ⟨_, h2, h3⟩ := book_yes g hf
  refine ⟨fun c hc => ?_, by rw [h3, h.len, List.length_append]; rfl, fun c hc => ?_⟩
  · rw [h2 c hc, h.mem c hc, List.mem_append, List.mem_singleton]
    exact Or.comm
  · rcases List.mem_append.1 hc with hc | hc
    · exact h.pos c hc
    · rw [List.mem_singleton.1 hc]; exact (free_iff.1 hf).1.t0

def exBad (e : Int) (f r : Bool) : Bool := (!(decide (e = 0) == (f && r))) || (decide (e ≠ 0) && decide (e ≠ 70))
theorem exBad_no {xss : List (List Bk.El)} {b : Bk.El} {f r : Bool} (h : freeF xss b = (f && r)) : exBad (errF xss b) f r = false := by
  unfold exBad errF
  rw [← h]
  cases freeF xss b <;> decide

def exS : Spec := plain fun
  | [.sl (.pair (.int .i64) (.pair (.int .i64) (.pair (.int .i64) (.int .i64)))) _, .agg [.int .i64 _, .int .i64 _, .int .i64 _, .int .i64 _]] => outV True (.bool true)
  | _ => none

def sigEx : List (Nat × Spec) := [(10, saneS), (11, someS), (12, newS), (29, validS), (14, bookS), (24, listS), (28, lenS)]
theorem sigExOk : SigOk Try.prog (look sigEx) := sigCons (sigCons (sigCons (sigCons (sigCons (sigCons (sigCons sigNil
  Try.func28 (by kernel_rfl) (c := body Try.f28) rfl lenOk)
  Try.func24 (by kernel_rfl) (c := body Try.f24) rfl listOk)
  Try.func14 (by kernel_rfl) (c := body Try.f14) rfl bookOk)
  Try.func29 (by kernel_rfl) (c := body Try.f29) rfl validRefOk)
  Try.func12 (by kernel_rfl) (c := body Try.f12) rfl newOk)
  Try.func11 (by kernel_rfl) (c := body Try.f11) rfl someOk)
  Try.func10 (by kernel_rfl) (c := body Try.f10) rfl saneOk

theorem ord_get {t : Nat} {m : List Bk.El} (h : GoodL t m) {j : Nat} (hj : j + 1 < m.length) : enB (getI m Bk.dflt j) ≤ stB (getI m Bk.dflt (j + 1)) := by
  have := List.pairwise_iff_getElem.1 h.ord j (j + 1) (by omega) hj (by omega)
  simpa [getI, List.getD, List.getElem?_eq_getElem hj, List.getElem?_eq_getElem (show j < m.length by omega)] using this

theorem exOk : SpecSound Try.prog 4 exS := by
  refine soundP (envOf sigExOk) Try.func4 (c := body Try.f4) rfl (by kernel_rfl) rfl ?_
  intro args out hf hpre
  split at hf <;> try (cases hf; done)
  rename_i x ra rb rc rd
  cases hf
  refine ⟨Nat.le_of_ble_eq_true rfl, initI (args := [.sl t4 x, .agg [.int .i64 ra, .int .i64 rb, .int .i64 rc, .int .i64 rd]]) rfl ?_⟩
  have hsl := someF_len x
  repeat' (first
    | with_reducible refine pN ?_
    | with_reducible refine cN ?_
    | with_reducible refine bN ?_
    | with_reducible refine cE ?_
    | with_reducible refine cR ?_
    | with_reducible refine bR ?_
    | with_reducible refine lE ?_
    | with_reducible refine lR ?_
    | with_reducible refine jE ?_
    | with_reducible refine jR ?_
    | refine bE rfl ?_
    | refine bP rfl ?_
    | refine pC (by first | exact True.intro | omega | (intros; first | exact True.intro | omega) | (simp only [List.length_cons, List.length_nil, Int.toNat_natCast]; omega) | (simp only [List.length_append, List.length_cons, List.length_nil]; omega)) ?_
    | refine seqI rfl ?_
    | refine regI rfl ?_
    | refine scopeI rfl ?_
    | refine blockI rfl ?_
    | refine exitI rfl ?_
    | refine retI rfl ?_
    | refine skipI rfl ?_)
  have hll : (someF x ++ [((ra, rb, rc, rd) : Bk.El)]).length ≤ 41 := by rw [List.length_append]; simp only [List.length_cons, List.length_nil]; omega
  generalize someF x ++ [((ra, rb, rc, rd) : Bk.El)] = l at *
  refine loopI (σ := (Nat × List Bk.El)) (fun s => [(7, .ptr 7000 0), (8, .own 8000), (9, .int .i64 s.1)]) (fun s => [(7000, .arr Bk (bookAll (l.take s.1) noCal) none), (8000, .seq Bk s.2)]) (fun s => s.1 ≤ l.length ∧ s.2.length ≤ s.1 ∧ Kept (bookAll (l.take s.1) noCal) s.2) (fun s => l.length - s.1) (0, []) rfl (fun _ => rfl) rfl ?_ ?_ ?_
  · exact ⟨Nat.zero_le _, Nat.zero_le _, kept_no⟩
  · repeat' (first | exact trivial | exact rfl | refine ⟨rfl, ?_⟩ | refine And.intro ?_ ?_)
  · rintro ⟨i, kept⟩ ⟨hi, hki, hk⟩
    dsimp only at hi hki hk ⊢
    have hlt : (l.take i).length ≤ 1000 := by rw [List.length_take]; omega
    obtain ⟨g1, g2, g3⟩ := bookAll_ok (l.take i) hlt
    repeat' (first
      | with_reducible refine pN ?_
      | with_reducible refine cN ?_
      | with_reducible refine bN ?_
      | with_reducible refine cE ?_
      | with_reducible refine cR ?_
      | with_reducible refine bR ?_
      | with_reducible refine lE ?_
      | with_reducible refine lR ?_
      | with_reducible refine jE ?_
      | with_reducible refine jR ?_
      | refine bE rfl ?_
      | refine bP rfl ?_
      | refine pC (by first | exact True.intro | omega | (intros; first | exact True.intro | omega) | (simp only [List.length_cons, List.length_nil, Int.toNat_natCast]; omega)) ?_
      | refine seqI rfl ?_
      | refine regI rfl ?_
      | refine scopeI rfl ?_
      | refine blockI rfl ?_
      | refine exitI rfl ?_
      | refine retI rfl ?_
      | refine skipI rfl ?_)
    refine condI rfl (fun c1 => ?_) (fun c1 => ?_)
    · simp only [decide_eq_true_eq] at c1
      have hin : ((i : Int)).toNat = i := by omega
      have hil : i < l.length := by omega
      repeat' (first
        | with_reducible refine pN ?_
        | with_reducible refine cN ?_
        | with_reducible refine bN ?_
        | with_reducible refine cE ?_
        | with_reducible refine cR ?_
        | with_reducible refine bR ?_
        | with_reducible refine lE ?_
        | with_reducible refine lR ?_
        | with_reducible refine jE ?_
        | with_reducible refine jR ?_
        | refine bE rfl ?_
        | refine bP rfl ?_
        | refine pC (by first | exact True.intro | omega | (intros; first | exact True.intro | omega) | (simp only [List.length_cons, List.length_nil, Int.toNat_natCast]; omega)) ?_
        | refine seqI rfl ?_
        | refine regI rfl ?_
        | refine scopeI rfl ?_
        | refine blockI rfl ?_
        | refine exitI rfl ?_
        | refine retI rfl ?_
        | refine skipI rfl ?_)
      refine loopI (σ := Nat) (fun k => [(10, .bool (!((kept.take k).any (clashB (getI l Bk.dflt i))))), (11, .int .i64 k)]) (fun k => []) (fun k => k ≤ kept.length) (fun k => kept.length - k) 0 rfl (fun _ => rfl) rfl ?_ ?_ ?_
      · exact Nat.zero_le _
      · repeat' (first | exact trivial | exact rfl | refine ⟨rfl, ?_⟩ | refine And.intro ?_ ?_)
      · intro k hkk
        repeat' (first
          | with_reducible refine pN ?_
          | with_reducible refine cN ?_
          | with_reducible refine bN ?_
          | with_reducible refine cE ?_
          | with_reducible refine cR ?_
          | with_reducible refine bR ?_
          | with_reducible refine lE ?_
          | with_reducible refine lR ?_
          | with_reducible refine jE ?_
          | with_reducible refine jR ?_
          | refine bE rfl ?_
          | refine bP rfl ?_
          | refine pC (by first | exact True.intro | omega | (intros; first | exact True.intro | omega) | (simp only [List.length_cons, List.length_nil, Int.toNat_natCast]; omega)) ?_
          | refine seqI rfl ?_
          | refine regI rfl ?_
          | refine scopeI rfl ?_
          | refine blockI rfl ?_
          | refine exitI rfl ?_
          | refine retI rfl ?_
          | refine skipI rfl ?_)
        refine condI rfl (fun c2 => ?_) (fun c2 => ?_)
        · simp only [decide_eq_true_eq] at c2
          have hkn : ((k : Int)).toNat = k := by omega
          have hkl : k < kept.length := by omega
          repeat' (first
            | with_reducible refine pN ?_
            | with_reducible refine cN ?_
            | with_reducible refine bN ?_
            | with_reducible refine cE ?_
            | with_reducible refine cR ?_
            | with_reducible refine bR ?_
            | with_reducible refine lE ?_
            | with_reducible refine lR ?_
            | with_reducible refine jE ?_
            | with_reducible refine jR ?_
            | refine bE rfl ?_
            | refine bP rfl ?_
            | refine pC (by first | exact True.intro | omega | (intros; first | exact True.intro | omega) | (simp only [List.length_cons, List.length_nil, Int.toNat_natCast]; omega)) ?_
            | refine seqI rfl ?_
            | refine regI rfl ?_
            | refine scopeI rfl ?_
            | refine blockI rfl ?_
            | refine exitI rfl ?_
            | refine retI rfl ?_
            | refine skipI rfl ?_)
          refine condI rfl (fun c3 => ?_) (fun c3 => ?_)
          · have c3' : clashB (getI l Bk.dflt ((i : Int)).toNat) (getI kept Bk.dflt ((k : Int)).toNat) = true := c3
            repeat' (first
              | with_reducible refine pN ?_
              | with_reducible refine cN ?_
              | with_reducible refine bN ?_
              | with_reducible refine cE ?_
              | with_reducible refine cR ?_
              | with_reducible refine bR ?_
              | with_reducible refine lE ?_
              | with_reducible refine lR ?_
              | with_reducible refine jE ?_
              | with_reducible refine jR ?_
              | refine bE rfl ?_
              | refine bP rfl ?_
              | refine pC (by first | exact True.intro | omega | (intros; first | exact True.intro | omega) | (simp only [List.length_cons, List.length_nil, Int.toNat_natCast]; omega)) ?_
              | refine seqI rfl ?_
              | refine regI rfl ?_
              | refine scopeI rfl ?_
              | refine blockI rfl ?_
              | refine exitI rfl ?_
              | refine retI rfl ?_
              | refine skipI rfl ?_)
            refine roundI (k + 1) rfl ?_ ?_ ?_
            · show k + 1 ≤ kept.length
              omega
            · show kept.length - (k + 1) < kept.length - k
              omega
            · repeat' (first | exact trivial | exact rfl | refine ⟨rfl, ?_⟩ | refine And.intro ?_ ?_)
              rw [take_succ_getI (d := Bk.dflt) hkl, List.any_append]
              rw [hin, hkn] at c3'
              simp [c3']
          · have c3' : clashB (getI l Bk.dflt ((i : Int)).toNat) (getI kept Bk.dflt ((k : Int)).toNat) = false := c3
            repeat' (first
              | with_reducible refine pN ?_
              | with_reducible refine cN ?_
              | with_reducible refine bN ?_
              | with_reducible refine cE ?_
              | with_reducible refine cR ?_
              | with_reducible refine bR ?_
              | with_reducible refine lE ?_
              | with_reducible refine lR ?_
              | with_reducible refine jE ?_
              | with_reducible refine jR ?_
              | refine bE rfl ?_
              | refine bP rfl ?_
              | refine pC (by first | exact True.intro | omega | (intros; first | exact True.intro | omega) | (simp only [List.length_cons, List.length_nil, Int.toNat_natCast]; omega)) ?_
              | refine seqI rfl ?_
              | refine regI rfl ?_
              | refine scopeI rfl ?_
              | refine blockI rfl ?_
              | refine exitI rfl ?_
              | refine retI rfl ?_
              | refine skipI rfl ?_)
            refine roundI (k + 1) rfl ?_ ?_ ?_
            · show k + 1 ≤ kept.length
              omega
            · show kept.length - (k + 1) < kept.length - k
              omega
            · repeat' (first | exact trivial | exact rfl | refine ⟨rfl, ?_⟩ | refine And.intro ?_ ?_)
              rw [take_succ_getI (d := Bk.dflt) hkl, List.any_append]
              rw [hin, hkn] at c3'
              simp [c3']
        · simp only [decide_eq_false_iff_not] at c2
          rw [List.take_of_length_le (by omega)]
          have hF := hk.free g1 (getI l Bk.dflt i)
          repeat' (first
            | with_reducible refine pN ?_
            | with_reducible refine cN ?_
            | with_reducible refine bN ?_
            | with_reducible refine cE ?_
            | with_reducible refine cR ?_
            | with_reducible refine bR ?_
            | with_reducible refine lE ?_
            | with_reducible refine lR ?_
            | with_reducible refine jE ?_
            | with_reducible refine jR ?_
            | refine bE rfl ?_
            | refine bP rfl ?_
            | refine pC (by first | exact True.intro | omega | (intros; first | exact True.intro | omega) | (simp only [List.length_cons, List.length_nil, Int.toNat_natCast]; omega) | exact ⟨g2, g3⟩) ?_
            | refine seqI rfl ?_
            | refine regI rfl ?_
            | refine scopeI rfl ?_
            | refine blockI rfl ?_
            | refine exitI rfl ?_
            | refine retI rfl ?_
            | refine skipI rfl ?_)
          refine condI rfl (fun c4 => ?_) (fun c4 => ?_)
          · exfalso
            have c4' : exBad (errF (bookAll (l.take i) noCal) (getI l Bk.dflt ((i : Int)).toNat)) (!kept.any (clashB (getI l Bk.dflt i))) (validB (getI l Bk.dflt ((i : Int)).toNat).1 (getI l Bk.dflt ((i : Int)).toNat).2.1 (getI l Bk.dflt ((i : Int)).toNat).2.2.1 (getI l Bk.dflt ((i : Int)).toNat).2.2.2) = true := c4
            rw [hin, exBad_no hF] at c4'
            cases c4'
          · repeat' (first
              | with_reducible refine pN ?_
              | with_reducible refine cN ?_
              | with_reducible refine bN ?_
              | with_reducible refine cE ?_
              | with_reducible refine cR ?_
              | with_reducible refine bR ?_
              | with_reducible refine lE ?_
              | with_reducible refine lR ?_
              | with_reducible refine jE ?_
              | with_reducible refine jR ?_
              | refine bE rfl ?_
              | refine bP rfl ?_
              | refine pC (by first | exact True.intro | omega | (intros; first | exact True.intro | omega) | (simp only [List.length_cons, List.length_nil, Int.toNat_natCast]; omega)) ?_
              | refine seqI rfl ?_
              | refine regI rfl ?_
              | refine scopeI rfl ?_
              | refine blockI rfl ?_
              | refine exitI rfl ?_
              | refine retI rfl ?_
              | refine skipI rfl ?_)
            refine condI rfl (fun c5 => ?_) (fun c5 => ?_)
            · have c5' : decide (errF (bookAll (l.take i) noCal) (getI l Bk.dflt ((i : Int)).toNat) = 0) = true := c5
              rw [hin, decide_eq_true_eq] at c5'
              have hf : freeF (bookAll (l.take i) noCal) (getI l Bk.dflt i) = true := by
                cases hf : freeF (bookAll (l.take i) noCal) (getI l Bk.dflt i)
                · unfold errF at c5'; rw [hf] at c5'; simp at c5'
                · rfl
              repeat' (first
                | with_reducible refine pN ?_
                | with_reducible refine cN ?_
                | with_reducible refine bN ?_
                | with_reducible refine cE ?_
                | with_reducible refine cR ?_
                | with_reducible refine bR ?_
                | with_reducible refine lE ?_
                | with_reducible refine lR ?_
                | with_reducible refine jE ?_
                | with_reducible refine jR ?_
                | refine bE rfl ?_
                | refine bP rfl ?_
                | refine pC (by first | exact True.intro | omega | (intros; first | exact True.intro | omega) | (simp only [List.length_cons, List.length_nil, Int.toNat_natCast]; omega) | (simp only [List.length_append, List.length_cons, List.length_nil]; omega)) ?_
                | refine seqI rfl ?_
                | refine regI rfl ?_
                | refine scopeI rfl ?_
                | refine blockI rfl ?_
                | refine exitI rfl ?_
                | refine retI rfl ?_
                | refine skipI rfl ?_)
              refine roundI (i + 1, kept ++ [getI l Bk.dflt i]) rfl ?_ ?_ ?_
              · refine ⟨by show i + 1 ≤ l.length; omega, by show (kept ++ [getI l Bk.dflt i]).length ≤ i + 1; rw [List.length_append]; simp only [List.length_cons, List.length_nil]; omega, ?_⟩
                show Kept (bookAll (l.take (i + 1)) noCal) (kept ++ [getI l Bk.dflt i])
                rw [bookAll_take hil]
                exact hk.yes g1 hf
              · show l.length - (i + 1) < l.length - i
                omega
              · repeat' (first | exact trivial | with_reducible exact rfl | refine And.intro ?_ ?_)
                · rfl
                · show bookAll (l.take (i + 1)) noCal = _
                  rw [bookAll_take hil, hin]
                · rw [hin]
            · have c5' : decide (errF (bookAll (l.take i) noCal) (getI l Bk.dflt ((i : Int)).toNat) = 0) = false := c5
              rw [hin, decide_eq_false_iff_not] at c5'
              have hf : freeF (bookAll (l.take i) noCal) (getI l Bk.dflt i) = false := by
                cases hf : freeF (bookAll (l.take i) noCal) (getI l Bk.dflt i)
                · rfl
                · unfold errF at c5'; rw [hf] at c5'; simp at c5'
              repeat' (first
                | with_reducible refine pN ?_
                | with_reducible refine cN ?_
                | with_reducible refine bN ?_
                | with_reducible refine cE ?_
                | with_reducible refine cR ?_
                | with_reducible refine bR ?_
                | with_reducible refine lE ?_
                | with_reducible refine lR ?_
                | with_reducible refine jE ?_
                | with_reducible refine jR ?_
                | refine bE rfl ?_
                | refine bP rfl ?_
                | refine pC (by first | exact True.intro | omega | (intros; first | exact True.intro | omega) | (simp only [List.length_cons, List.length_nil, Int.toNat_natCast]; omega)) ?_
                | refine seqI rfl ?_
                | refine regI rfl ?_
                | refine scopeI rfl ?_
                | refine blockI rfl ?_
                | refine exitI rfl ?_
                | refine retI rfl ?_
                | refine skipI rfl ?_)
              refine roundI (i + 1, kept) rfl ?_ ?_ ?_
              · refine ⟨by show i + 1 ≤ l.length; omega, by show kept.length ≤ i + 1; omega, ?_⟩
                show Kept (bookAll (l.take (i + 1)) noCal) kept
                rw [bookAll_take hil, book_no hf]
                exact hk
              · show l.length - (i + 1) < l.length - i
                omega
              · repeat' (first | exact trivial | with_reducible exact rfl | refine And.intro ?_ ?_)
                · rfl
                · show bookAll (l.take (i + 1)) noCal = _
                  rw [bookAll_take hil, hin]
    · simp only [decide_eq_false_iff_not] at c1
      have hil : i = l.length := by omega
      have hlen := hk.len
      generalize bookAll (l.take i) noCal = xss at *
      repeat' (first
        | with_reducible refine pN ?_
        | with_reducible refine cN ?_
        | with_reducible refine bN ?_
        | with_reducible refine cE ?_
        | with_reducible refine cR ?_
        | with_reducible refine bR ?_
        | with_reducible refine lE ?_
        | with_reducible refine lR ?_
        | with_reducible refine jE ?_
        | with_reducible refine jR ?_
        | refine bE rfl ?_
        | refine bP rfl ?_
        | refine pC (by first | exact True.intro | omega | (intros; first | exact True.intro | omega) | (simp only [List.length_cons, List.length_nil, Int.toNat_natCast]; omega)) ?_
        | refine seqI rfl ?_
        | refine regI rfl ?_
        | refine scopeI rfl ?_
        | refine blockI rfl ?_
        | refine exitI rfl ?_
        | refine retI rfl ?_
        | refine skipI rfl ?_)
      refine loopI (σ := Nat) (fun t => [(14, .int .i64 t)]) (fun t => []) (fun t => t ≤ 60) (fun t => 60 - t) 0 rfl (fun _ => rfl) rfl ?_ ?_ ?_
      · exact Nat.zero_le _
      · repeat' (first | exact trivial | exact rfl | refine ⟨rfl, ?_⟩ | refine And.intro ?_ ?_)
      · intro t ht
        repeat' (first
          | with_reducible refine pN ?_
          | with_reducible refine cN ?_
          | with_reducible refine bN ?_
          | with_reducible refine cE ?_
          | with_reducible refine cR ?_
          | with_reducible refine bR ?_
          | with_reducible refine lE ?_
          | with_reducible refine lR ?_
          | with_reducible refine jE ?_
          | with_reducible refine jR ?_
          | refine bE rfl ?_
          | refine bP rfl ?_
          | refine pC (by first | exact True.intro | omega | (intros; first | exact True.intro | omega) | (simp only [List.length_cons, List.length_nil, Int.toNat_natCast]; omega)) ?_
          | refine seqI rfl ?_
          | refine regI rfl ?_
          | refine scopeI rfl ?_
          | refine blockI rfl ?_
          | refine exitI rfl ?_
          | refine retI rfl ?_
          | refine skipI rfl ?_)
        refine condI rfl (fun c2 => ?_) (fun c2 => ?_)
        · simp only [decide_eq_true_eq] at c2
          have ht60 : t < 60 := by omega
          repeat' (first
            | with_reducible refine pN ?_
            | with_reducible refine cN ?_
            | with_reducible refine bN ?_
            | with_reducible refine cE ?_
            | with_reducible refine cR ?_
            | with_reducible refine bR ?_
            | with_reducible refine lE ?_
            | with_reducible refine lR ?_
            | with_reducible refine jE ?_
            | with_reducible refine jR ?_
            | refine bE rfl ?_
            | refine bP rfl ?_
            | refine pC (by first | exact True.intro | omega | (intros; first | exact True.intro | omega) | (simp only [List.length_cons, List.length_nil, Int.toNat_natCast]; omega) | exact g2) ?_
            | refine seqI rfl ?_
            | refine regI rfl ?_
            | refine scopeI rfl ?_
            | refine blockI rfl ?_
            | refine exitI rfl ?_
            | refine retI rfl ?_
            | refine skipI rfl ?_)
          have hg := g1.each t ht60
          have e : listF xss (t : Int) = getI xss [] t := listF_get ht60
          have hsz := (g2.get ht60).2
          rw [e]
          generalize getI xss [] t = m at *
          refine loopI (σ := Nat) (fun j => [(16, .int .i64 ((j : Int) + 1))]) (fun j => []) (fun j => j ≤ m.length) (fun j => m.length - j) 0 rfl (fun _ => rfl) rfl ?_ ?_ ?_
          · exact Nat.zero_le _
          · repeat' (first | exact trivial | exact rfl | refine ⟨rfl, ?_⟩ | refine And.intro ?_ ?_)
          · intro j hj
            repeat' (first
              | with_reducible refine pN ?_
              | with_reducible refine cN ?_
              | with_reducible refine bN ?_
              | with_reducible refine cE ?_
              | with_reducible refine cR ?_
              | with_reducible refine bR ?_
              | with_reducible refine lE ?_
              | with_reducible refine lR ?_
              | with_reducible refine jE ?_
              | with_reducible refine jR ?_
              | refine bE rfl ?_
              | refine bP rfl ?_
              | refine pC (by first | exact True.intro | omega | (intros; first | exact True.intro | omega) | (simp only [List.length_cons, List.length_nil, Int.toNat_natCast]; omega)) ?_
              | refine seqI rfl ?_
              | refine regI rfl ?_
              | refine scopeI rfl ?_
              | refine blockI rfl ?_
              | refine exitI rfl ?_
              | refine retI rfl ?_
              | refine skipI rfl ?_)
            refine condI rfl (fun c3 => ?_) (fun c3 => ?_)
            · simp only [decide_eq_true_eq] at c3
              repeat' (first
                | with_reducible refine pN ?_
                | with_reducible refine cN ?_
                | with_reducible refine bN ?_
                | with_reducible refine cE ?_
                | with_reducible refine cR ?_
                | with_reducible refine bR ?_
                | with_reducible refine lE ?_
                | with_reducible refine lR ?_
                | with_reducible refine jE ?_
                | with_reducible refine jR ?_
                | refine bE rfl ?_
                | refine bP rfl ?_
                | refine pC (by first | exact True.intro | omega | (intros; first | exact True.intro | omega) | (simp only [List.length_cons, List.length_nil, Int.toNat_natCast]; omega)) ?_
                | refine seqI rfl ?_
                | refine regI rfl ?_
                | refine scopeI rfl ?_
                | refine blockI rfl ?_
                | refine exitI rfl ?_
                | refine retI rfl ?_
                | refine skipI rfl ?_)
              refine condI rfl (fun c4 => ?_) (fun c4 => ?_)
              · exfalso
                have c4' : decide (stB (getI m Bk.dflt ((j : Int) + 1).toNat) < enB (getI m Bk.dflt ((j : Int) + 1 - 1).toNat)) = true := c4
                rw [show ((j : Int) + 1).toNat = j + 1 by omega, show ((j : Int) + 1 - 1).toNat = j by omega, decide_eq_true_eq] at c4'
                have := ord_get hg (j := j) (by omega)
                omega
              · repeat' (first
                  | with_reducible refine pN ?_
                  | with_reducible refine cN ?_
                  | with_reducible refine bN ?_
                  | with_reducible refine cE ?_
                  | with_reducible refine cR ?_
                  | with_reducible refine bR ?_
                  | with_reducible refine lE ?_
                  | with_reducible refine lR ?_
                  | with_reducible refine jE ?_
                  | with_reducible refine jR ?_
                  | refine bE rfl ?_
                  | refine bP rfl ?_
                  | refine pC (by first | exact True.intro | omega | (intros; first | exact True.intro | omega) | (simp only [List.length_cons, List.length_nil, Int.toNat_natCast]; omega)) ?_
                  | refine seqI rfl ?_
                  | refine regI rfl ?_
                  | refine scopeI rfl ?_
                  | refine blockI rfl ?_
                  | refine exitI rfl ?_
                  | refine retI rfl ?_
                  | refine skipI rfl ?_)
                refine roundI (j + 1) rfl ?_ ?_ ?_
                · show j + 1 ≤ m.length
                  omega
                · show m.length - (j + 1) < m.length - j
                  omega
                · repeat' (first | exact trivial | exact rfl | refine ⟨rfl, ?_⟩ | refine And.intro ?_ ?_)
            · simp only [decide_eq_false_iff_not] at c3
              repeat' (first
                | with_reducible refine pN ?_
                | with_reducible refine cN ?_
                | with_reducible refine bN ?_
                | with_reducible refine cE ?_
                | with_reducible refine cR ?_
                | with_reducible refine bR ?_
                | with_reducible refine lE ?_
                | with_reducible refine lR ?_
                | with_reducible refine jE ?_
                | with_reducible refine jR ?_
                | refine bE rfl ?_
                | refine bP rfl ?_
                | refine pC (by first | exact True.intro | omega | (intros; first | exact True.intro | omega) | (simp only [List.length_cons, List.length_nil, Int.toNat_natCast]; omega)) ?_
                | refine seqI rfl ?_
                | refine regI rfl ?_
                | refine scopeI rfl ?_
                | refine blockI rfl ?_
                | refine exitI rfl ?_
                | refine retI rfl ?_
                | refine skipI rfl ?_)
              refine roundI (t + 1) rfl ?_ ?_ ?_
              · show t + 1 ≤ 60
                omega
              · show 60 - (t + 1) < 60 - t
                omega
              · repeat' (first | exact trivial | exact rfl | refine ⟨rfl, ?_⟩ | refine And.intro ?_ ?_)
        · simp only [decide_eq_false_iff_not] at c2
          repeat' (first
            | with_reducible refine pN ?_
            | with_reducible refine cN ?_
            | with_reducible refine bN ?_
            | with_reducible refine cE ?_
            | with_reducible refine cR ?_
            | with_reducible refine bR ?_
            | with_reducible refine lE ?_
            | with_reducible refine lR ?_
            | with_reducible refine jE ?_
            | with_reducible refine jR ?_
            | refine bE rfl ?_
            | refine bP rfl ?_
            | refine pC (by first | exact True.intro | omega | (intros; first | exact True.intro | omega) | (simp only [List.length_cons, List.length_nil, Int.toNat_natCast]; omega) | exact g2) ?_
            | refine seqI rfl ?_
            | refine regI rfl ?_
            | refine scopeI rfl ?_
            | refine blockI rfl ?_
            | refine exitI rfl ?_
            | refine retI rfl ?_
            | refine skipI rfl ?_)
          refine endR rfl ?_
          repeat' (first | exact trivial | exact rfl | refine ⟨rfl, ?_⟩ | refine And.intro ?_ ?_)
          simp [hlen]
end Go.AM.Ytibjkdbmlmmcjaa
