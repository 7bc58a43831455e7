/- The law CalendarMatchesReference: her function. -/
import Derived.Test.YtibjkdbmlmmcjaaCaRefT
set_option linter.all false
namespace Go.AM.Ytibjkdbmlmmcjaa
open Go.Proofs
set_option maxRecDepth 100000
set_option maxHeartbeats 16000000


def reLawS : Spec := plain fun
  | [.sl (.pair (.int .i64) (.pair (.int .i64) (.pair (.int .i64) (.int .i64)))) _, .sl (.pair (.int .i64) (.pair (.int .i64) (.pair (.int .i64) (.int .i64)))) _, .sl (.int .i64) _, .sl (.pair (.int .i64) (.pair (.int .i64) (.int .i64))) _] => outV True (.bool true)
  | _ => none

def sigRe : List (Nat × Spec) := [(10, saneS), (11, someS), (12, newS), (13, refNewS), (14, bookS), (15, refBookS), (16, pickP),
  (17, freeS), (18, refFreeS), (19, firstS), (20, refFirstS), (21, busyS), (22, refBusyS),
  (24, listS), (25, refListS), (26, ownedS), (27, refOwnedS), (23, sameS), (28, lenS)]
theorem sigReOk : SigOk Try.prog (look sigRe) := sigCons (sigCons (sigCons (sigCons (sigCons (sigCons (sigCons (sigCons (sigCons (sigCons (sigCons (sigCons (sigCons (sigCons (sigCons (sigCons (sigCons (sigCons (sigCons sigNil
  Try.func28 (by kernel_rfl) (c := body Try.f28) rfl lenOk)
  Try.func23 (by kernel_rfl) (c := body Try.f23) rfl sameOk)
  Try.func27 (by kernel_rfl) (c := body Try.f27) rfl refOwnedOk)
  Try.func26 (by kernel_rfl) (c := body Try.f26) rfl ownedOk)
  Try.func25 (by kernel_rfl) (c := body Try.f25) rfl refListOk)
  Try.func24 (by kernel_rfl) (c := body Try.f24) rfl listOk)
  Try.func22 (by kernel_rfl) (c := body Try.f22) rfl refBusyOk)
  Try.func21 (by kernel_rfl) (c := body Try.f21) rfl busyOk)
  Try.func20 (by kernel_rfl) (c := body Try.f20) rfl refFirstOk)
  Try.func19 (by kernel_rfl) (c := body Try.f19) rfl firstOk)
  Try.func18 (by kernel_rfl) (c := body Try.f18) rfl refFreeOk)
  Try.func17 (by kernel_rfl) (c := body Try.f17) rfl freeOk)
  Try.func16 (by kernel_rfl) (c := body Try.f16) rfl pickLOk)
  Try.func15 (by kernel_rfl) (c := body Try.f15) rfl refBookOk)
  Try.func14 (by kernel_rfl) (c := body Try.f14) rfl bookOk)
  Try.func13 (by kernel_rfl) (c := body Try.f13) rfl refNewOk)
  Try.func12 (by kernel_rfl) (c := body Try.f12) rfl newOk)
  Try.func11 (by kernel_rfl) (c := body Try.f11) rfl someOk)
  Try.func10 (by kernel_rfl) (c := body Try.f10) rfl saneOk

/-- What holds of both calendars all the way. -/
structure Both (k : Nat) (xss : List (List Bk.El)) : Prop where
  g : CalG xss
  le : lenF xss ≤ k

theorem Both.facts {k : Nat} {xss : List (List Bk.El)} (h : Both k xss) (hk : k ≤ 1000) : Cal xss ∧ CalS xss ∧ xss.flatten.length ≤ 100000 ∧ xss.flatten.length ≤ 1000000 := by
  have := h.le
  exact ⟨h.g.cal (by omega), h.g.sorted, by rw [flat_len]; omega, by rw [flat_len]; omega⟩
theorem Both.book {k : Nat} {xss : List (List Bk.El)} (h : Both k xss) (b : Bk.El) : Both (k + 1) (bookF xss b) := by
  obtain ⟨h1, h2⟩ := book_good h.g b
  have := h.le
  exact ⟨h1, by omega⟩
theorem Both.free {k : Nat} {xss : List (List Bk.El)} (h : Both k xss) (o : Int) : Both k (freedF xss o) := by
  have := freed_len xss o
  have := h.le
  exact ⟨freed_good h.g o, by omega⟩
theorem Both.more {k k' : Nat} {xss : List (List Bk.El)} (h : Both k xss) (hk : k ≤ k') : Both k' xss := ⟨h.g, Nat.le_trans h.le hk⟩

theorem reOk : SpecSound Try.prog 3 reLawS := by
  refine soundP (envOf sigReOk) Try.func3 (c := body Try.f3) rfl (by kernel_rfl) rfl ?_
  intro args out hf hpre
  split at hf <;> try (cases hf; done)
  rename_i x raw fr sp
  cases hf
  refine ⟨Nat.le_of_ble_eq_true rfl, initI (args := [.sl t4 x, .sl Bk raw, .sl tInt fr, .sl t3 sp]) rfl ?_⟩
  refine factSl (t := 1) (ty := Bk) rfl (fun h1 => ?_)
  refine factSl (t := 2) (ty := tInt) rfl (fun h2 => ?_)
  refine factSl (t := 3) (ty := t3) rfl (fun h3 => ?_)
  have hm1 : raw.length ≤ 9223372036854775807 := by have := h1.1; unfold maxLen at this; omega
  have hm2 : fr.length ≤ 9223372036854775807 := by have := h2.1; unfold maxLen at this; omega
  have hm3 : sp.length ≤ 9223372036854775807 := by have := h3.1; unfold maxLen at this; omega
  have hsl := someF_len x
  repeat' (first
    | with_reducible refine pN ?_
    | with_reducible refine cN ?_
    | with_reducible refine bN ?_
    | with_reducible refine cE ?_
    | with_reducible refine cR ?_
    | with_reducible refine bR ?_
    | with_reducible refine lE ?_
    | with_reducible refine lR ?_
    | with_reducible refine jE ?_
    | with_reducible refine jR ?_
    | refine bE rfl ?_
    | refine bP rfl ?_
    | refine pC (by first | exact True.intro | omega | (intros; first | exact True.intro | omega) | (simp only [List.length_cons, List.length_nil, Int.toNat_natCast]; omega)) ?_
    | refine seqI rfl ?_
    | refine regI rfl ?_
    | refine scopeI rfl ?_
    | refine blockI rfl ?_
    | refine exitI rfl ?_
    | refine retI rfl ?_
    | refine skipI rfl ?_)
  generalize someF x = l at *
  refine loopI (σ := (Nat × List (List Bk.El))) (fun s => [(11, .ptr 11000 0), (12, .ptr 12000 0), (13, .int .i64 s.1)]) (fun s => [(11000, .arr Bk s.2 none), (12000, .box [.own 12100]), (12100, .seq Bk s.2.flatten)]) (fun s => s.1 ≤ l.length ∧ Both (2 * s.1) s.2) (fun s => l.length - s.1) (0, noCal) rfl (fun _ => rfl) rfl ?_ ?_ ?_
  · exact ⟨Nat.zero_le _, noCal_good, by rw [lenF_no]; exact Nat.zero_le _⟩
  · repeat' (first | exact trivial | exact rfl | refine ⟨rfl, ?_⟩ | refine And.intro ?_ ?_)
  · rintro ⟨i, xss⟩ ⟨hi, hB⟩
    dsimp only at hi hB ⊢
    have hin : ((i : Int)).toNat = i := by omega
    obtain ⟨a2, a3, a4, a5⟩ := hB.facts (by omega)
    repeat' (first
      | with_reducible refine pN ?_
      | with_reducible refine cN ?_
      | with_reducible refine bN ?_
      | with_reducible refine cE ?_
      | with_reducible refine cR ?_
      | with_reducible refine bR ?_
      | with_reducible refine lE ?_
      | with_reducible refine lR ?_
      | with_reducible refine jE ?_
      | with_reducible refine jR ?_
      | refine bE rfl ?_
      | refine bP rfl ?_
      | refine pC (by first | exact True.intro | omega | (intros; first | exact True.intro | omega) | (simp only [List.length_cons, List.length_nil, Int.toNat_natCast]; omega)) ?_
      | refine seqI rfl ?_
      | refine regI rfl ?_
      | refine scopeI rfl ?_
      | refine blockI rfl ?_
      | refine exitI rfl ?_
      | refine retI rfl ?_
      | refine skipI rfl ?_)
    refine condI rfl (fun c1 => ?_) (fun c1 => ?_)
    · simp only [decide_eq_true_eq] at c1
      repeat' (first
        | with_reducible refine pN ?_
        | with_reducible refine cN ?_
        | with_reducible refine bN ?_
        | with_reducible refine cE ?_
        | with_reducible refine cR ?_
        | with_reducible refine bR ?_
        | with_reducible refine lE ?_
        | with_reducible refine lR ?_
        | with_reducible refine jE ?_
        | with_reducible refine jR ?_
        | refine bE rfl ?_
        | refine bP rfl ?_
        | refine pC (by first | exact True.intro | omega | (intros; first | exact True.intro | omega) | (simp only [List.length_cons, List.length_nil, Int.toNat_natCast]; omega) | first | exact ⟨a2, a3⟩ | exact a4) ?_
        | refine seqI rfl ?_
        | refine regI rfl ?_
        | refine scopeI rfl ?_
        | refine blockI rfl ?_
        | refine exitI rfl ?_
        | refine retI rfl ?_
        | refine skipI rfl ?_)
      rw [ref_err hB.g, ref_book hB.g]
      have hB1 := hB.book (getI l Bk.dflt ((i : Int)).toNat)
      generalize bookF xss (getI l Bk.dflt ((i : Int)).toNat) = yss at hB1 ⊢
      refine condI rfl (fun c2 => ?_) (fun c2 => ?_)
      · exfalso
        simp at c2
      · repeat' (first | with_reducible refine cN ?_ | refine skipI rfl ?_ | refine seqI rfl ?_)
        obtain ⟨b2, b3, b4, b5⟩ := hB1.facts (by omega)
        refine joinC (fun _ : List (List Bk.El) => [(11, .ptr 11000 0), (12, .ptr 12000 0), (44, .junk), (67, .bool false)]) (fun s => [(11000, .arr Bk s none), (12000, .box [.own 12100]), (12100, .seq Bk s.flatten)]) (fun s => Both (2 * i + 2) s) (fun _ => rfl) ?_ (fun zss hB2 => ?_)
        · cases hc : (decide ((i : Int) < raw.length) && decide ((i : Int) < 10))
          · refine regH [(53, false)] rfl ?_
            repeat' (first | with_reducible refine pN ?_ | refine pC (by first | exact hc | exact True.intro | exact rfl | (intros; omega)) ?_)
            refine meetI yss rfl (hB1.more (by omega)) ?_
            repeat' (first | exact trivial | exact rfl | refine ⟨rfl, ?_⟩ | refine And.intro ?_ ?_)
          · refine regH [(53, true)] rfl ?_
            have hc' := hc
            simp only [Bool.and_eq_true, decide_eq_true_eq] at hc'
            repeat' (first | with_reducible refine pN ?_ | refine pC (by first | exact hc | exact True.intro | exact ⟨b2, b3⟩ | exact b4 | (intros; omega)) ?_)
            refine meetI (bookF yss (getI raw Bk.dflt ((i : Int)).toNat)) rfl (hB1.book _) ?_
            repeat' (first | exact trivial | with_reducible exact rfl | refine And.intro ?_ ?_)
            · rw [ref_err hB1.g]
              simp
            · rw [ref_book hB1.g]
        · refine condF rfl ?_
          repeat' (first | with_reducible refine cN ?_ | refine skipI rfl ?_ | refine seqI rfl ?_)
          obtain ⟨d2, d3, d4, d5⟩ := hB2.facts (by omega)
          refine joinC (fun _ : List (List Bk.El) => [(11, .ptr 11000 0), (12, .ptr 12000 0), (67, .junk), (100, .bool false)]) (fun s => [(11000, .arr Bk s none), (12000, .box [.own 12100]), (12100, .seq Bk s.flatten)]) (fun s => Both (2 * i + 2) s) (fun _ => rfl) ?_ (fun wss hB3 => ?_)
          · have q1 := fun c : Int => pick_b (c := c) (n := 6) (by omega)
            cases hc : (decide ((i : Int) < fr.length) && decide (pickF (getI fr tInt.dflt ((i : Int)).toNat) 4 = 0))
            · refine regH [(80, false)] rfl ?_
              repeat' (first | with_reducible refine pN ?_ | refine pC (by first | exact hc | exact True.intro | exact rfl | (intros; omega) | (simp only [decide_eq_true_eq]; omega)) ?_)
              refine meetI zss rfl hB2 ?_
              repeat' (first | exact trivial | exact rfl | refine ⟨rfl, ?_⟩ | refine And.intro ?_ ?_)
            · refine regH [(80, true)] rfl ?_
              have hc' := hc
              simp only [Bool.and_eq_true, decide_eq_true_eq] at hc'
              have q2 := q1 ((getI fr tInt.dflt ((i : Int)).toNat).tdiv 4)
              repeat' (first | with_reducible refine pN ?_ | refine pC (by first | exact hc | exact True.intro | exact rfl | exact d2 | exact d5 | (intros; omega) | (simp only [decide_eq_true_eq]; omega)) ?_)
              refine meetI (freedF zss (1 + pickF ((getI fr tInt.dflt ((i : Int)).toNat).tdiv 4) 6)) rfl (hB2.free _) ?_
              repeat' (first | exact trivial | with_reducible exact rfl | refine And.intro ?_ ?_)
              · rw [← freed_flat, flat_len, flat_len]
                simp
              · rw [freed_flat]
          · obtain ⟨e2, e3, e4, e5⟩ := hB3.facts (by omega)
            refine condF rfl ?_
            repeat' (first
              | with_reducible refine pN ?_
              | with_reducible refine cN ?_
              | with_reducible refine bN ?_
              | with_reducible refine cE ?_
              | with_reducible refine cR ?_
              | with_reducible refine bR ?_
              | with_reducible refine lE ?_
              | with_reducible refine lR ?_
              | with_reducible refine jE ?_
              | with_reducible refine jR ?_
              | refine bE rfl ?_
              | refine bP rfl ?_
              | refine pC (by first | exact True.intro | omega | (intros; first | exact True.intro | omega) | (simp only [List.length_cons, List.length_nil, Int.toNat_natCast]; omega)) ?_
              | refine seqI rfl ?_
              | refine regI rfl ?_
              | refine scopeI rfl ?_
              | refine blockI rfl ?_
              | refine exitI rfl ?_
              | refine retI rfl ?_
              | refine skipI rfl ?_)
            refine condI rfl (fun c3 => ?_) (fun c3 => ?_)
            · repeat' (first
                | with_reducible refine pN ?_
                | with_reducible refine cN ?_
                | with_reducible refine bN ?_
                | with_reducible refine cE ?_
                | with_reducible refine cR ?_
                | with_reducible refine bR ?_
                | with_reducible refine lE ?_
                | with_reducible refine lR ?_
                | with_reducible refine jE ?_
                | with_reducible refine jR ?_
                | refine bE rfl ?_
                | refine bP rfl ?_
                | refine pC (by first | exact True.intro | omega | (intros; first | exact True.intro | omega) | (simp only [List.length_cons, List.length_nil, Int.toNat_natCast]; omega)) ?_
                | refine seqI rfl ?_
                | refine regI rfl ?_
                | refine scopeI rfl ?_
                | refine blockI rfl ?_
                | refine exitI rfl ?_
                | refine retI rfl ?_
                | refine skipI rfl ?_)
              refine roundI (i + 1, wss) rfl ?_ ?_ ?_
              · exact ⟨by show i + 1 ≤ l.length; omega, hB3.more (by show 2 * i + 2 ≤ 2 * (i + 1); omega)⟩
              · show l.length - (i + 1) < l.length - i
                omega
              · repeat' (first | exact trivial | with_reducible exact rfl | refine And.intro ?_ ?_)
                rfl
            · have c3' : (i : Int) < sp.length := by
                have c3'' : decide ((sp.length : Int) ≤ i) = false := c3
                rw [decide_eq_false_iff_not] at c3''
                omega
              have q1 := fun c : Int => pick_b (c := c) (n := 330) (by omega)
              have q2 := fun c : Int => pick_b (c := c) (n := 60) (by omega)
              have r1 := q1 (getI sp t3.dflt ((i : Int)).toNat).2.1
              have r2 := q2 (getI sp t3.dflt ((i : Int)).toNat).2.2
              repeat' (first
                | with_reducible refine pN ?_
                | with_reducible refine cN ?_
                | with_reducible refine bN ?_
                | with_reducible refine cE ?_
                | with_reducible refine cR ?_
                | with_reducible refine bR ?_
                | with_reducible refine lE ?_
                | with_reducible refine lR ?_
                | with_reducible refine jE ?_
                | with_reducible refine jR ?_
                | refine bE rfl ?_
                | refine bP rfl ?_
                | refine pC (by first | exact True.intro | omega | (intros; first | exact True.intro | omega) | (simp only [List.length_cons, List.length_nil, Int.toNat_natCast]; omega)) ?_
                | refine seqI rfl ?_
                | refine regI rfl ?_
                | refine scopeI rfl ?_
                | refine blockI rfl ?_
                | refine exitI rfl ?_
                | refine retI rfl ?_
                | refine skipI rfl ?_)
              refine loopI (σ := (Nat × List t3.El)) (fun s => [(104, .junk), (122, .own 12200), (123, .int .i64 2), (124, .int .i64 s.1)]) (fun s => [(12200, .seq t3 s.2)]) (fun s => s.1 ≤ 2 ∧ s.2.length = 2) (fun s => 2 - s.1) (0, [((getI sp t3.dflt ((i : Int)).toNat).1, (getI sp t3.dflt ((i : Int)).toNat).2.1, (getI sp t3.dflt ((i : Int)).toNat).2.2), (pickF (getI sp t3.dflt ((i : Int)).toNat).1 6, pickF (getI sp t3.dflt ((i : Int)).toNat).2.1 330 - 5, pickF (getI sp t3.dflt ((i : Int)).toNat).2.2 60 - 5)]) rfl (fun _ => rfl) rfl ?_ ?_ ?_
              · exact ⟨Nat.zero_le _, rfl⟩
              · repeat' (first | exact trivial | exact rfl | refine ⟨rfl, ?_⟩ | refine And.intro ?_ ?_)
              · rintro ⟨j, Y⟩ ⟨hj, hY⟩
                dsimp only at hj hY ⊢
                repeat' (first
                  | with_reducible refine pN ?_
                  | with_reducible refine cN ?_
                  | with_reducible refine bN ?_
                  | with_reducible refine cE ?_
                  | with_reducible refine cR ?_
                  | with_reducible refine bR ?_
                  | with_reducible refine lE ?_
                  | with_reducible refine lR ?_
                  | with_reducible refine jE ?_
                  | with_reducible refine jR ?_
                  | refine bE rfl ?_
                  | refine bP rfl ?_
                  | refine pC (by first | exact True.intro | omega | (intros; first | exact True.intro | omega) | (simp only [List.length_cons, List.length_nil, Int.toNat_natCast]; omega)) ?_
                  | refine seqI rfl ?_
                  | refine regI rfl ?_
                  | refine scopeI rfl ?_
                  | refine blockI rfl ?_
                  | refine exitI rfl ?_
                  | refine retI rfl ?_
                  | refine skipI rfl ?_)
                refine condI rfl (fun c4 => ?_) (fun c4 => ?_)
                · simp only [decide_eq_true_eq] at c4
                  have hjn : ((j : Int)).toNat = j := by omega
                  repeat' (first | with_reducible refine cN ?_ | refine skipI rfl ?_ | refine scopeI rfl ?_ | refine seqI rfl ?_ | refine blockI rfl ?_)
                  refine regI rfl ?_
                  repeat' (first | with_reducible refine pN ?_ | refine pC (by first | exact True.intro | (intros; omega)) ?_)
                  with_reducible refine cN ?_
                  generalize getI Y t3.dflt ((j : Int)).toNat = y
                  repeat' (first | with_reducible refine cN ?_ | refine skipI rfl ?_ | refine scopeI rfl ?_ | refine seqI rfl ?_ | refine blockI rfl ?_)
                  refine regI rfl ?_
                  repeat' (first | with_reducible refine pN ?_ | refine pC (by first | exact True.intro | exact e2 | (intros; omega)) ?_)
                  with_reducible refine cN ?_
                  repeat' (first | with_reducible refine cN ?_ | refine skipI rfl ?_ | refine scopeI rfl ?_ | refine seqI rfl ?_ | refine blockI rfl ?_)
                  refine regI rfl ?_
                  repeat' (first | with_reducible refine pN ?_ | refine pC (by first | exact True.intro | exact e5 | (intros; omega)) ?_)
                  with_reducible refine cN ?_
                  rw [ref_first hB3.g]
                  generalize firstF wss y.1 y.2.1 y.2.2 = fi
                  repeat' (first | with_reducible refine cN ?_ | refine skipI rfl ?_ | refine scopeI rfl ?_ | refine seqI rfl ?_ | refine blockI rfl ?_)
                  refine regW [] rfl ?_
                  repeat' (first | with_reducible refine pN ?_ | refine pC (by first | exact True.intro | exact fun _ => e2 | exact fun _ => e5 | (intros; omega)) ?_)
                  with_reducible refine cN ?_
                  simp only [ref_busy hB3.g]
                  refine condI rfl (fun c5 => ?_) (fun c5 => ?_)
                  · exfalso
                    simp at c5
                  · repeat' (first | with_reducible refine cN ?_ | refine skipI rfl ?_ | refine seqI rfl ?_)
                    refine regH [(216, false), (228, false)] rfl ?_
                    repeat' (first | with_reducible refine pN ?_ | refine pC (by first | exact True.intro | exact rfl | exact e2 | exact e5 | (intros; omega) | (rw [ref_list hB3.g, sameB_iff.2 rfl]; rfl) | (rw [show List.filter (ownsB y.2.2) wss.flatten = ownedF wss y.2.2 from rfl, sameB_iff.2 rfl]; rfl)) ?_)
                    with_reducible refine cN ?_
                    refine condI rfl (fun c6 => ?_) (fun c6 => ?_)
                    · exfalso
                      rw [flat_len] at c6
                      simp at c6
                    · repeat' (first
                        | with_reducible refine pN ?_
                        | with_reducible refine cN ?_
                        | with_reducible refine bN ?_
                        | with_reducible refine cE ?_
                        | with_reducible refine cR ?_
                        | with_reducible refine bR ?_
                        | with_reducible refine lE ?_
                        | with_reducible refine lR ?_
                        | with_reducible refine jE ?_
                        | with_reducible refine jR ?_
                        | refine bE rfl ?_
                        | refine bP rfl ?_
                        | refine pC (by first | exact True.intro | omega | (intros; first | exact True.intro | omega) | (simp only [List.length_cons, List.length_nil, Int.toNat_natCast]; omega)) ?_
                        | refine seqI rfl ?_
                        | refine regI rfl ?_
                        | refine scopeI rfl ?_
                        | refine blockI rfl ?_
                        | refine exitI rfl ?_
                        | refine retI rfl ?_
                        | refine skipI rfl ?_)
                      refine roundI (j + 1, Y) rfl ?_ ?_ ?_
                      · exact ⟨by show j + 1 ≤ 2; omega, hY⟩
                      · show 2 - (j + 1) < 2 - j
                        omega
                      · repeat' (first | exact trivial | with_reducible exact rfl | refine And.intro ?_ ?_)
                        rfl
                · repeat' (first
                    | with_reducible refine pN ?_
                    | with_reducible refine cN ?_
                    | with_reducible refine bN ?_
                    | with_reducible refine cE ?_
                    | with_reducible refine cR ?_
                    | with_reducible refine bR ?_
                    | with_reducible refine lE ?_
                    | with_reducible refine lR ?_
                    | with_reducible refine jE ?_
                    | with_reducible refine jR ?_
                    | refine bE rfl ?_
                    | refine bP rfl ?_
                    | refine pC (by first | exact True.intro | omega | (intros; first | exact True.intro | omega) | (simp only [List.length_cons, List.length_nil, Int.toNat_natCast]; omega)) ?_
                    | refine seqI rfl ?_
                    | refine regI rfl ?_
                    | refine scopeI rfl ?_
                    | refine blockI rfl ?_
                    | refine exitI rfl ?_
                    | refine retI rfl ?_
                    | refine skipI rfl ?_)
                  refine roundI (i + 1, wss) rfl ?_ ?_ ?_
                  · exact ⟨by show i + 1 ≤ l.length; omega, hB3.more (by show 2 * i + 2 ≤ 2 * (i + 1); omega)⟩
                  · show l.length - (i + 1) < l.length - i
                    omega
                  · repeat' (first | exact trivial | with_reducible exact rfl | refine And.intro ?_ ?_)
                    rfl
    · repeat' (first
        | with_reducible refine pN ?_
        | with_reducible refine cN ?_
        | with_reducible refine bN ?_
        | with_reducible refine cE ?_
        | with_reducible refine cR ?_
        | with_reducible refine bR ?_
        | with_reducible refine lE ?_
        | with_reducible refine lR ?_
        | with_reducible refine jE ?_
        | with_reducible refine jR ?_
        | refine bE rfl ?_
        | refine bP rfl ?_
        | refine pC (by first | exact True.intro | omega | (intros; first | exact True.intro | omega) | (simp only [List.length_cons, List.length_nil, Int.toNat_natCast]; omega)) ?_
        | refine seqI rfl ?_
        | refine regI rfl ?_
        | refine scopeI rfl ?_
        | refine blockI rfl ?_
        | refine exitI rfl ?_
        | refine retI rfl ?_
        | refine skipI rfl ?_)
      refine endR rfl ?_
      repeat' (first | exact trivial | exact rfl | refine ⟨rfl, ?_⟩ | refine And.intro ?_ ?_)
end Go.AM.Ytibjkdbmlmmcjaa
