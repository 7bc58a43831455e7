/- The law CalendarClone: her function. -/
import Derived.Test.YtibjkdbmlmmcjaaCaU
set_option linter.all false
namespace Go.AM.Ytibjkdbmlmmcjaa
open Go.Proofs
set_option maxRecDepth 100000
set_option maxHeartbeats 8000000

def clS : Spec := plain fun
  | [.sl (.pair (.int .i64) (.pair (.int .i64) (.pair (.int .i64) (.int .i64)))) _, .int .i64 _] => outV True (.bool true)
  | _ => none

def sigClo : List (Nat × Spec) := [(10, saneS), (11, someS), (30, bookedS), (16, pickP), (32, calCloneS), (31, equalS), (14, bookS), (24, listS)]
theorem sigCloOk : SigOk Try.prog (look sigClo) := sigCons (sigCons (sigCons (sigCons (sigCons (sigCons (sigCons (sigCons sigNil
  Try.func24 (by kernel_rfl) (c := body Try.f24) rfl listOk)
  Try.func14 (by kernel_rfl) (c := body Try.f14) rfl bookOk)
  Try.func31 (by kernel_rfl) (c := body Try.f31) rfl equalOk)
  Try.func32 (by kernel_rfl) (c := body Try.f32) rfl calCloneOk)
  Try.func16 (by kernel_rfl) (c := body Try.f16) rfl pickLOk)
  Try.func30 (by kernel_rfl) (c := body Try.f30) rfl bookedOk)
  Try.func11 (by kernel_rfl) (c := body Try.f11) rfl someOk)
  Try.func10 (by kernel_rfl) (c := body Try.f10) rfl saneOk

theorem clOk : SpecSound Try.prog 9 clS := by
  refine soundP (envOf sigCloOk) Try.func9 (c := body Try.f9) rfl (by kernel_rfl) rfl ?_
  intro args out hf hpre
  split at hf <;> try (cases hf; done)
  rename_i x ka
  cases hf
  refine ⟨Nat.le_of_ble_eq_true rfl, initI (args := [.sl t4 x, .int .i64 ka]) rfl ?_⟩
  have hsl := someF_len x
  refine seqI rfl ?_
  refine regI rfl ?_
  repeat' (first | with_reducible refine pN ?_ | refine pC (by first | exact True.intro | omega | (intros; first | exact True.intro | omega) | (simp only [List.length_cons, List.length_nil, Int.toNat_natCast]; omega)) ?_)
  with_reducible refine cN ?_
  refine seqI rfl ?_
  refine regI rfl ?_
  repeat' (first | with_reducible refine pN ?_ | refine pC (by first | exact True.intro | omega | (intros; first | exact True.intro | omega) | (simp only [List.length_cons, List.length_nil, Int.toNat_natCast]; omega)) ?_)
  with_reducible refine cN ?_
  refine seqI rfl ?_
  refine regI rfl ?_
  repeat' (first | with_reducible refine pN ?_ | refine pC (by first | exact True.intro | omega | (intros; first | exact True.intro | omega) | (simp only [List.length_cons, List.length_nil, Int.toNat_natCast]; omega)) ?_)
  with_reducible refine cN ?_
  refine freezeI (key 16 0) rfl ?_
  generalize someF x = l at *
  obtain ⟨p1, p2⟩ := pick_b (c := ka) (n := (l.length : Int) + 1) (by omega)
  obtain ⟨k, hk⟩ : ∃ k : Nat, pickF ka ((l.length : Int) + 1) = k := ⟨(pickF ka ((l.length : Int) + 1)).toNat, by omega⟩
  refine seqI rfl ?_
  refine regI rfl ?_
  repeat' (first | with_reducible refine pN ?_ | refine pC (by first | exact True.intro | omega | (intros; first | exact True.intro | omega) | (simp only [List.length_cons, List.length_nil, Int.toNat_natCast]; omega)) ?_)
  with_reducible refine cN ?_
  rw [hk] at p1 p2 ⊢
  have hkl : k ≤ l.length := by omega
  have e : List.drop (Int.toNat 0) (List.take ((k : Int)).toNat l) = l.take k := by simp
  obtain ⟨g1, g2, g3⟩ := bookAll_ok (l.take k) (by rw [List.length_take]; omega)
  have hlt : (l.take k).length ≤ 1000 := by rw [List.length_take]; omega
  repeat' (first
    | with_reducible refine pN ?_
    | with_reducible refine cN ?_
    | with_reducible refine bN ?_
    | with_reducible refine cE ?_
    | with_reducible refine cR ?_
    | with_reducible refine bR ?_
    | with_reducible refine lE ?_
    | with_reducible refine lR ?_
    | with_reducible refine jE ?_
    | with_reducible refine jR ?_
    | refine bE rfl ?_
    | refine bP rfl ?_
    | refine pC (by first | exact True.intro | omega | (intros; first | exact True.intro | omega) | (simp only [List.length_cons, List.length_nil, Int.toNat_natCast]; omega) | first | exact hlt | exact g2 | exact fun _ => ⟨g2, g2⟩) ?_
    | refine seqI rfl ?_
    | refine regI rfl ?_
    | refine scopeI rfl ?_
    | refine blockI rfl ?_
    | refine exitI rfl ?_
    | refine retI rfl ?_
    | refine skipI rfl ?_)
  rw [e]
  refine condI rfl (fun c0 => ?_) (fun c0 => ?_)
  · exfalso
    have c0' : (false || !eqC (bookAll (l.take k) noCal) (bookAll (l.take k) noCal)) = true := c0
    rw [eqC_iff.2 rfl] at c0'
    cases c0'
  · repeat' (first
      | with_reducible refine pN ?_
      | with_reducible refine cN ?_
      | with_reducible refine bN ?_
      | with_reducible refine cE ?_
      | with_reducible refine cR ?_
      | with_reducible refine bR ?_
      | with_reducible refine lE ?_
      | with_reducible refine lR ?_
      | with_reducible refine jE ?_
      | with_reducible refine jR ?_
      | refine bE rfl ?_
      | refine bP rfl ?_
      | refine pC (by first | exact True.intro | omega | (intros; first | exact True.intro | omega) | (simp only [List.length_cons, List.length_nil, Int.toNat_natCast]; omega)) ?_
      | refine seqI rfl ?_
      | refine regI rfl ?_
      | refine scopeI rfl ?_
      | refine blockI rfl ?_
      | refine exitI rfl ?_
      | refine retI rfl ?_
      | refine skipI rfl ?_)
    refine loopI (σ := Nat) (fun i => [(9, .ptr 9000 0), (10, .int .i64 i)]) (fun i => [(9000, .arr Bk (bookAll (l.take i) noCal) none)]) (fun i => k ≤ i ∧ i ≤ l.length) (fun i => l.length - i) k rfl (fun _ => rfl) rfl ?_ ?_ ?_
    · exact ⟨Nat.le_refl _, hkl⟩
    · repeat' (first | exact trivial | exact rfl | refine ⟨rfl, ?_⟩ | refine And.intro ?_ ?_)
    · rintro i ⟨hki, hi⟩
      obtain ⟨k1, k2, k3⟩ := bookAll_ok (l.take i) (by rw [List.length_take]; omega)
      repeat' (first
        | with_reducible refine pN ?_
        | with_reducible refine cN ?_
        | with_reducible refine bN ?_
        | with_reducible refine cE ?_
        | with_reducible refine cR ?_
        | with_reducible refine bR ?_
        | with_reducible refine lE ?_
        | with_reducible refine lR ?_
        | with_reducible refine jE ?_
        | with_reducible refine jR ?_
        | refine bE rfl ?_
        | refine bP rfl ?_
        | refine pC (by first | exact True.intro | omega | (intros; first | exact True.intro | omega) | (simp only [List.length_cons, List.length_nil, Int.toNat_natCast]; omega)) ?_
        | refine seqI rfl ?_
        | refine regI rfl ?_
        | refine scopeI rfl ?_
        | refine blockI rfl ?_
        | refine exitI rfl ?_
        | refine retI rfl ?_
        | refine skipI rfl ?_)
      refine condI rfl (fun c1 => ?_) (fun c1 => ?_)
      · simp only [decide_eq_true_eq] at c1
        have hin : ((i : Int)).toNat = i := by omega
        have hil : i < l.length := by omega
        repeat' (first
          | with_reducible refine pN ?_
          | with_reducible refine cN ?_
          | with_reducible refine bN ?_
          | with_reducible refine cE ?_
          | with_reducible refine cR ?_
          | with_reducible refine bR ?_
          | with_reducible refine lE ?_
          | with_reducible refine lR ?_
          | with_reducible refine jE ?_
          | with_reducible refine jR ?_
          | refine bE rfl ?_
          | refine bP rfl ?_
          | refine pC (by first | exact True.intro | omega | (intros; first | exact True.intro | omega) | (simp only [List.length_cons, List.length_nil, Int.toNat_natCast]; omega) | exact ⟨k2, k3⟩) ?_
          | refine seqI rfl ?_
          | refine regI rfl ?_
          | refine scopeI rfl ?_
          | refine blockI rfl ?_
          | refine exitI rfl ?_
          | refine retI rfl ?_
          | refine skipI rfl ?_)
        refine roundI (i + 1) rfl ?_ ?_ ?_
        · exact ⟨by omega, by omega⟩
        · show l.length - (i + 1) < l.length - i
          omega
        · repeat' (first | exact trivial | with_reducible exact rfl | refine And.intro ?_ ?_)
          · rfl
          · rw [bookAll_take hil, hin]
      · simp only [decide_eq_false_iff_not] at c1
        have hil : i = l.length := by omega
        have et : l.take i = l := List.take_of_length_le (by omega)
        rw [et] at k1 k2 k3 ⊢
        have hlt2 : l.length ≤ 1000 := by omega
        repeat' (first
          | with_reducible refine pN ?_
          | with_reducible refine cN ?_
          | with_reducible refine bN ?_
          | with_reducible refine cE ?_
          | with_reducible refine cR ?_
          | with_reducible refine bR ?_
          | with_reducible refine lE ?_
          | with_reducible refine lR ?_
          | with_reducible refine jE ?_
          | with_reducible refine jR ?_
          | refine bE rfl ?_
          | refine bP rfl ?_
          | refine pC (by first | exact True.intro | omega | (intros; first | exact True.intro | omega) | (simp only [List.length_cons, List.length_nil, Int.toNat_natCast]; omega)) ?_
          | refine seqI rfl ?_
          | refine regI rfl ?_
          | refine scopeI rfl ?_
          | refine blockI rfl ?_
          | refine exitI rfl ?_
          | refine retI rfl ?_
          | refine skipI rfl ?_)
        refine loopI (σ := Nat) (fun t => [(11, .int .i64 t)]) (fun t => []) (fun t => t ≤ 6) (fun t => 6 - t) 0 rfl (fun _ => rfl) rfl ?_ ?_ ?_
        · exact Nat.zero_le _
        · repeat' (first | exact trivial | exact rfl | refine ⟨rfl, ?_⟩ | refine And.intro ?_ ?_)
        · intro t ht
          repeat' (first
            | with_reducible refine pN ?_
            | with_reducible refine cN ?_
            | with_reducible refine bN ?_
            | with_reducible refine cE ?_
            | with_reducible refine cR ?_
            | with_reducible refine bR ?_
            | with_reducible refine lE ?_
            | with_reducible refine lR ?_
            | with_reducible refine jE ?_
            | with_reducible refine jR ?_
            | refine bE rfl ?_
            | refine bP rfl ?_
            | refine pC (by first | exact True.intro | omega | (intros; first | exact True.intro | omega) | (simp only [List.length_cons, List.length_nil, Int.toNat_natCast]; omega)) ?_
            | refine seqI rfl ?_
            | refine regI rfl ?_
            | refine scopeI rfl ?_
            | refine blockI rfl ?_
            | refine exitI rfl ?_
            | refine retI rfl ?_
            | refine skipI rfl ?_)
          refine condI rfl (fun c2 => ?_) (fun c2 => ?_)
          · simp only [decide_eq_true_eq] at c2
            repeat' (first
              | with_reducible refine pN ?_
              | with_reducible refine cN ?_
              | with_reducible refine bN ?_
              | with_reducible refine cE ?_
              | with_reducible refine cR ?_
              | with_reducible refine bR ?_
              | with_reducible refine lE ?_
              | with_reducible refine lR ?_
              | with_reducible refine jE ?_
              | with_reducible refine jR ?_
              | refine bE rfl ?_
              | refine bP rfl ?_
              | refine pC (by first | exact True.intro | omega | (intros; first | exact True.intro | omega) | (simp only [List.length_cons, List.length_nil, Int.toNat_natCast]; omega) | first | exact g2 | exact k2) ?_
              | refine seqI rfl ?_
              | refine regI rfl ?_
              | refine scopeI rfl ?_
              | refine blockI rfl ?_
              | refine exitI rfl ?_
              | refine retI rfl ?_
              | refine skipI rfl ?_)
            have hsz : (listF (bookAll (l.take k) noCal) (t : Int)).length ≤ 1000000 := by
              rw [listF_get (by omega)]; exact (g2.get (by omega)).2
            refine loopI (σ := (Nat × List Bk.El)) (fun s => [(12, .own 12000), (13, .int .i64 s.1)]) (fun s => [(12000, .seq Bk s.2)]) (fun s => s.1 ≤ s.2.length ∧ s.2.length ≤ 1000000) (fun s => s.2.length - s.1) (0, listF (bookAll (l.take k) noCal) (t : Int)) rfl (fun _ => rfl) rfl ?_ ?_ ?_
            · exact ⟨Nat.zero_le _, hsz⟩
            · repeat' (first | exact trivial | exact rfl | refine ⟨rfl, ?_⟩ | refine And.intro ?_ ?_)
            · rintro ⟨j, m⟩ ⟨hj, hm⟩
              dsimp only at hj hm ⊢
              repeat' (first
                | with_reducible refine pN ?_
                | with_reducible refine cN ?_
                | with_reducible refine bN ?_
                | with_reducible refine cE ?_
                | with_reducible refine cR ?_
                | with_reducible refine bR ?_
                | with_reducible refine lE ?_
                | with_reducible refine lR ?_
                | with_reducible refine jE ?_
                | with_reducible refine jR ?_
                | refine bE rfl ?_
                | refine bP rfl ?_
                | refine pC (by first | exact True.intro | omega | (intros; first | exact True.intro | omega) | (simp only [List.length_cons, List.length_nil, Int.toNat_natCast]; omega)) ?_
                | refine seqI rfl ?_
                | refine regI rfl ?_
                | refine scopeI rfl ?_
                | refine blockI rfl ?_
                | refine exitI rfl ?_
                | refine retI rfl ?_
                | refine skipI rfl ?_)
              refine condI rfl (fun c3 => ?_) (fun c3 => ?_)
              · simp only [decide_eq_true_eq] at c3
                have hjn : ((j : Int)).toNat = j := by omega
                repeat' (first
                  | with_reducible refine pN ?_
                  | with_reducible refine cN ?_
                  | with_reducible refine bN ?_
                  | with_reducible refine cE ?_
                  | with_reducible refine cR ?_
                  | with_reducible refine bR ?_
                  | with_reducible refine lE ?_
                  | with_reducible refine lR ?_
                  | with_reducible refine jE ?_
                  | with_reducible refine jR ?_
                  | refine bE rfl ?_
                  | refine bP rfl ?_
                  | refine pC (by first | exact True.intro | omega | (intros; first | exact True.intro | omega) | (simp only [List.length_cons, List.length_nil, Int.toNat_natCast]; omega)) ?_
                  | refine seqI rfl ?_
                  | refine regI rfl ?_
                  | refine scopeI rfl ?_
                  | refine blockI rfl ?_
                  | refine exitI rfl ?_
                  | refine retI rfl ?_
                  | refine skipI rfl ?_)
                refine roundI (j + 1, m.set j ((getI m Bk.dflt j).1, (getI m Bk.dflt j).2.1, (getI m Bk.dflt j).2.2.1, 99)) rfl ?_ ?_ ?_
                · exact ⟨by rw [List.length_set]; omega, by rw [List.length_set]; exact hm⟩
                · show (m.set j _).length - (j + 1) < m.length - j
                  rw [List.length_set]
                  omega
                · repeat' (first | exact trivial | with_reducible exact rfl | refine And.intro ?_ ?_)
                  · rfl
                  · rw [hjn]
              · simp only [decide_eq_false_iff_not] at c3
                repeat' (first
                  | with_reducible refine pN ?_
                  | with_reducible refine cN ?_
                  | with_reducible refine bN ?_
                  | with_reducible refine cE ?_
                  | with_reducible refine cR ?_
                  | with_reducible refine bR ?_
                  | with_reducible refine lE ?_
                  | with_reducible refine lR ?_
                  | with_reducible refine jE ?_
                  | with_reducible refine jR ?_
                  | refine bE rfl ?_
                  | refine bP rfl ?_
                  | refine pC (by first | exact True.intro | omega | (intros; first | exact True.intro | omega) | (simp only [List.length_cons, List.length_nil, Int.toNat_natCast]; omega)) ?_
                  | refine seqI rfl ?_
                  | refine regI rfl ?_
                  | refine scopeI rfl ?_
                  | refine blockI rfl ?_
                  | refine exitI rfl ?_
                  | refine retI rfl ?_
                  | refine skipI rfl ?_)
                refine roundI (t + 1) rfl ?_ ?_ ?_
                · show t + 1 ≤ 6
                  omega
                · show 6 - (t + 1) < 6 - t
                  omega
                · repeat' (first | exact trivial | exact rfl | refine ⟨rfl, ?_⟩ | refine And.intro ?_ ?_)
          · simp only [decide_eq_false_iff_not] at c2
            repeat' (first
              | with_reducible refine pN ?_
              | with_reducible refine cN ?_
              | with_reducible refine bN ?_
              | with_reducible refine cE ?_
              | with_reducible refine cR ?_
              | with_reducible refine bR ?_
              | with_reducible refine lE ?_
              | with_reducible refine lR ?_
              | with_reducible refine jE ?_
              | with_reducible refine jR ?_
              | refine bE rfl ?_
              | refine bP rfl ?_
              | refine pC (by first | exact True.intro | omega | (intros; first | exact True.intro | omega) | (simp only [List.length_cons, List.length_nil, Int.toNat_natCast]; omega)) ?_
              | refine seqI rfl ?_
              | refine regI rfl ?_
              | refine scopeI rfl ?_
              | refine blockI rfl ?_
              | refine exitI rfl ?_
              | refine retI rfl ?_
              | refine skipI rfl ?_)
            refine regH [(74, true)] rfl ?_
            repeat' (first | with_reducible refine pN ?_ | refine pC (by first | exact True.intro | exact fun _ => hlt | exact fun _ => hlt2 | exact fun _ => ⟨g2, g2⟩ | exact fun _ => ⟨k2, k2⟩ | (intros; first | omega | (simp [eqC_iff]; done) | (simp; omega))) ?_)
            repeat' (first
              | with_reducible refine pN ?_
              | with_reducible refine cN ?_
              | with_reducible refine bN ?_
              | with_reducible refine cE ?_
              | with_reducible refine cR ?_
              | with_reducible refine bR ?_
              | with_reducible refine lE ?_
              | with_reducible refine lR ?_
              | with_reducible refine jE ?_
              | with_reducible refine jR ?_
              | refine bE rfl ?_
              | refine bP rfl ?_
              | refine pC (by first | exact True.intro | omega | (intros; first | exact True.intro | omega) | (simp only [List.length_cons, List.length_nil, Int.toNat_natCast]; omega)) ?_
              | refine seqI rfl ?_
              | refine regI rfl ?_
              | refine scopeI rfl ?_
              | refine blockI rfl ?_
              | refine exitI rfl ?_
              | refine retI rfl ?_
              | refine skipI rfl ?_)
            refine endR rfl ?_
            repeat' (first | exact trivial | exact rfl | refine ⟨rfl, ?_⟩ | refine And.intro ?_ ?_)
            rw [eqC_iff.2 rfl]
            rfl
end Go.AM.Ytibjkdbmlmmcjaa
