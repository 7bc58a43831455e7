/- The law CalendarFirst: her function. -/
import Derived.Test.YtibjkdbmlmmcjaaCaU
set_option linter.all false
namespace Go.AM.Ytibjkdbmlmmcjaa
open Go.Proofs
set_option maxRecDepth 100000
set_option maxHeartbeats 8000000

theorem tool_inC {xss : List (List Bk.El)} (g : CalG xss) {t : Int} (h0 : 0 ≤ t) (h1 : t < 60) {c : Bk.El} (hc : c ∈ toolL xss t) : tlB c = t ∧ GoodB c ∧ inC xss c := by
  obtain ⟨h2, h3⟩ := (g.tool h0 h1).all c hc
  have e : tlB c = t := by omega
  exact ⟨e, h2, by unfold inC; rw [e]; exact hc⟩

theorem in_all {c : Bk.El} (hc : 0 ≤ tlB c) : ∀ {l : List Bk.El} {xss : List (List Bk.El)}, CalG xss → inC (bookAll l xss) c → c ∈ l ∨ inC xss c
  | [], xss, _, h => .inr h
  | b :: l, xss, g, h => by
    have h : inC (bookAll l (bookF xss b)) c := h
    rcases in_all hc (l := l) (book_good g b).1 h with h | h
    · exact .inl (List.mem_cons_of_mem _ h)
    · cases hf : freeF xss b
      · rw [book_no hf] at h; exact .inr h
      · rcases ((book_yes g hf).2.1 c hc).1 h with rfl | h
        · exact .inl (by simp)
        · exact .inr h

theorem noCal_in (c : Bk.El) : ¬ inC noCal c := by
  unfold inC toolL
  have : getI noCal [] (tlB c).toNat = [] := by
    unfold getI noCal
    rw [List.getD_eq_getElem?_getD, List.getElem?_replicate]
    split <;> rfl
  rw [this]; simp

theorem some_end {x : List t4.El} {b : Bk.El} (h : b ∈ someF x) : enB b ≤ 339 := by
  unfold someF at h
  obtain ⟨e, _, rfl⟩ := List.mem_map.1 h
  have h1 := pick_b (c := e.2.1) (n := 300) (by omega)
  have h2 := pick_b (c := e.2.2.1) (n := 40) (by omega)
  show pickF e.2.1 300 + 1 + pickF e.2.2.1 40 ≤ 339
  omega

theorem some_late {x : List t4.El} {t : Int} (h0 : 0 ≤ t) (h1 : t < 60) {c : Bk.El} (g : CalG (bookAll (someF x) noCal)) (hc : c ∈ toolL (bookAll (someF x) noCal) t) : enB c ≤ 339 := by
  obtain ⟨h2, h3, h4⟩ := tool_inC g h0 h1 hc
  rcases in_all h3.t0 noCal_good h4 with h | h
  · exact some_end h
  · exact absurd h (noCal_in c)

theorem first_eq {xss : List (List Bk.El)} {t f n : Int} (h0 : 0 ≤ t) (h1 : t < 60) (hf : 0 ≤ f) (hn : 1 ≤ n) : firstF xss t f n = firstG (gapsL (toolL xss t) f) n := by
  unfold firstF
  rw [if_pos ⟨toolB_of h0 h1, hn⟩, Int.max_eq_left hf]

def fiS : Spec := plain fun
  | [.sl (.pair (.int .i64) (.pair (.int .i64) (.pair (.int .i64) (.int .i64)))) _, .int .i64 _, .int .i64 _, .int .i64 _, .bool _] => outV True (.bool true)
  | _ => none

def sigFi : List (Nat × Spec) := [(10, saneS), (11, someS), (30, bookedS), (16, pickP), (19, firstS), (21, busyS), (14, bookS)]
theorem sigFiOk : SigOk Try.prog (look sigFi) := sigCons (sigCons (sigCons (sigCons (sigCons (sigCons (sigCons sigNil
  Try.func14 (by kernel_rfl) (c := body Try.f14) rfl bookOk)
  Try.func21 (by kernel_rfl) (c := body Try.f21) rfl busyOk)
  Try.func19 (by kernel_rfl) (c := body Try.f19) rfl firstOk)
  Try.func16 (by kernel_rfl) (c := body Try.f16) rfl pickLOk)
  Try.func30 (by kernel_rfl) (c := body Try.f30) rfl bookedOk)
  Try.func11 (by kernel_rfl) (c := body Try.f11) rfl someOk)
  Try.func10 (by kernel_rfl) (c := body Try.f10) rfl saneOk

theorem fiOk : SpecSound Try.prog 5 fiS := by
  refine soundP (envOf sigFiOk) Try.func5 (c := body Try.f5) rfl (by kernel_rfl) rfl ?_
  intro args out hf hpre
  split at hf <;> try (cases hf; done)
  rename_i x ta fa na la
  cases hf
  refine ⟨Nat.le_of_ble_eq_true rfl, initI (args := [.sl t4 x, .int .i64 ta, .int .i64 fa, .int .i64 na, .bool la]) rfl ?_⟩
  have hsl := someF_len x
  have p1 := pick_b (c := ta) (n := 6) (by omega)
  have p2 := pick_b (c := fa) (n := 400) (by omega)
  have p3 := pick_b (c := na) (n := 60) (by omega)
  have p4 := pick_b (c := fa) (n := 80) (by omega)
  obtain ⟨g1, g2, g3⟩ := bookAll_ok (someF x) (by omega)
  repeat' (first
    | with_reducible refine pN ?_
    | with_reducible refine cN ?_
    | with_reducible refine bN ?_
    | with_reducible refine cE ?_
    | with_reducible refine cR ?_
    | with_reducible refine bR ?_
    | with_reducible refine lE ?_
    | with_reducible refine lR ?_
    | with_reducible refine jE ?_
    | with_reducible refine jR ?_
    | refine bE rfl ?_
    | refine bP rfl ?_
    | refine pC (by first | exact True.intro | omega | (intros; first | exact True.intro | omega) | (simp only [List.length_cons, List.length_nil, Int.toNat_natCast]; omega)) ?_
    | refine seqI rfl ?_
    | refine regI rfl ?_
    | refine scopeI rfl ?_
    | refine blockI rfl ?_
    | refine exitI rfl ?_
    | refine retI rfl ?_
    | refine skipI rfl ?_)
  generalize pickF ta 6 = t at *
  obtain ⟨n, hn⟩ : ∃ n, n = 1 + pickF na 60 := ⟨_, rfl⟩
  rw [← hn]
  have hn1 : 1 ≤ n ∧ n ≤ 60 := by omega
  refine joinC (fun f : Int => [(14, .int .i64 f)]) (fun _ => []) (fun f => 0 ≤ f ∧ f ≤ 1000000) (fun _ => rfl) ?_ (fun f hf => ?_)
  · refine condI rfl (fun c1 => ?_) (fun c1 => ?_)
    · repeat' (first
        | with_reducible refine pN ?_
        | with_reducible refine cN ?_
        | with_reducible refine bN ?_
        | with_reducible refine cE ?_
        | with_reducible refine cR ?_
        | with_reducible refine bR ?_
        | with_reducible refine lE ?_
        | with_reducible refine lR ?_
        | with_reducible refine jE ?_
        | with_reducible refine jR ?_
        | refine bE rfl ?_
        | refine bP rfl ?_
        | refine pC (by first | exact True.intro | omega | (intros; first | exact True.intro | omega) | (simp only [List.length_cons, List.length_nil, Int.toNat_natCast]; omega)) ?_
        | refine seqI rfl ?_
        | refine regI rfl ?_
        | refine scopeI rfl ?_
        | refine blockI rfl ?_
        | refine exitI rfl ?_
        | refine retI rfl ?_
        | refine skipI rfl ?_)
      refine meetI (1000000 - pickF fa 80) rfl ⟨by omega, by omega⟩ ?_
      repeat' (first | exact trivial | exact rfl | refine ⟨rfl, ?_⟩ | refine And.intro ?_ ?_)
    · repeat' (first
        | with_reducible refine pN ?_
        | with_reducible refine cN ?_
        | with_reducible refine bN ?_
        | with_reducible refine cE ?_
        | with_reducible refine cR ?_
        | with_reducible refine bR ?_
        | with_reducible refine lE ?_
        | with_reducible refine lR ?_
        | with_reducible refine jE ?_
        | with_reducible refine jR ?_
        | refine bE rfl ?_
        | refine bP rfl ?_
        | refine pC (by first | exact True.intro | omega | (intros; first | exact True.intro | omega) | (simp only [List.length_cons, List.length_nil, Int.toNat_natCast]; omega)) ?_
        | refine seqI rfl ?_
        | refine regI rfl ?_
        | refine scopeI rfl ?_
        | refine blockI rfl ?_
        | refine exitI rfl ?_
        | refine retI rfl ?_
        | refine skipI rfl ?_)
      refine meetI (pickF fa 400) rfl ⟨by omega, by omega⟩ ?_
      repeat' (first | exact trivial | exact rfl | refine ⟨rfl, ?_⟩ | refine And.intro ?_ ?_)
  · obtain ⟨hf0, hf1⟩ := hf
    have hlate := fun c => some_late (x := x) (t := t) (c := c) (by omega) (by omega) g1
    have hlen := (bookAll_good (l := someF x) noCal_good).2
    rw [lenF_no] at hlen
    generalize bookAll (someF x) noCal = xss at *
    have hT := g1.tool (t := t) (by omega) (by omega)
    have hfe := first_eq (xss := xss) (t := t) (f := f) (n := n) (by omega) (by omega) (by omega) (by omega)
    repeat' (first
      | with_reducible refine pN ?_
      | with_reducible refine cN ?_
      | with_reducible refine bN ?_
      | with_reducible refine cE ?_
      | with_reducible refine cR ?_
      | with_reducible refine bR ?_
      | with_reducible refine lE ?_
      | with_reducible refine lR ?_
      | with_reducible refine jE ?_
      | with_reducible refine jR ?_
      | refine bE rfl ?_
      | refine bP rfl ?_
      | refine pC (by first | exact True.intro | omega | (intros; first | exact True.intro | omega) | (simp only [List.length_cons, List.length_nil, Int.toNat_natCast]; omega) | exact g2) ?_
      | refine seqI rfl ?_
      | refine regI rfl ?_
      | refine scopeI rfl ?_
      | refine blockI rfl ?_
      | refine exitI rfl ?_
      | refine retI rfl ?_
      | refine skipI rfl ?_)
    generalize firstF xss t f n = r at *
    obtain ⟨a, fd⟩ := r
    dsimp only
    refine condI rfl (fun c2 => ?_) (fun c2 => ?_)
    · have hfd : fd = false := by simpa using c2
      subst hfd
      have hno := first_none hT (by omega) (by omega) hfe.symm
      repeat' (first
        | with_reducible refine pN ?_
        | with_reducible refine cN ?_
        | with_reducible refine bN ?_
        | with_reducible refine cE ?_
        | with_reducible refine cR ?_
        | with_reducible refine bR ?_
        | with_reducible refine lE ?_
        | with_reducible refine lR ?_
        | with_reducible refine jE ?_
        | with_reducible refine jR ?_
        | refine bE rfl ?_
        | refine bP rfl ?_
        | refine pC (by first | exact True.intro | omega | (intros; first | exact True.intro | omega) | (simp only [List.length_cons, List.length_nil, Int.toNat_natCast]; omega)) ?_
        | refine seqI rfl ?_
        | refine regI rfl ?_
        | refine scopeI rfl ?_
        | refine blockI rfl ?_
        | refine exitI rfl ?_
        | refine retI rfl ?_
        | refine skipI rfl ?_)
      refine endR rfl ?_
      repeat' (first | exact trivial | exact rfl | refine ⟨rfl, ?_⟩ | refine And.intro ?_ ?_)
      have hgoal : 1000000 < f + n := by
        apply Classical.byContradiction
        intro hle
        obtain ⟨c, hc, h1, h2⟩ := hno (max f 340) (by omega) (by omega)
        have := hlate c hc
        omega
      simp [hgoal]
    · have hfd : fd = true := by simpa using c2
      subst hfd
      obtain ⟨y1, y2, y3, y4⟩ := first_yes hT (by omega) (by omega) hfe.symm
      repeat' (first
        | with_reducible refine pN ?_
        | with_reducible refine cN ?_
        | with_reducible refine bN ?_
        | with_reducible refine cE ?_
        | with_reducible refine cR ?_
        | with_reducible refine bR ?_
        | with_reducible refine lE ?_
        | with_reducible refine lR ?_
        | with_reducible refine jE ?_
        | with_reducible refine jR ?_
        | refine bE rfl ?_
        | refine bP rfl ?_
        | refine pC (by first | exact True.intro | omega | (intros; first | exact True.intro | omega) | (simp only [List.length_cons, List.length_nil, Int.toNat_natCast]; omega) | first | exact fun _ => g2 | exact fun _ _ => g2) ?_
        | refine seqI rfl ?_
        | refine regI rfl ?_
        | refine scopeI rfl ?_
        | refine blockI rfl ?_
        | refine exitI rfl ?_
        | refine retI rfl ?_
        | refine skipI rfl ?_)
      refine condI rfl (fun c3 => ?_) (fun c3 => ?_)
      · exfalso
        have c3' : (decide (a < f) || busyF xss t a (a + n)) = true := c3
        rw [Bool.or_eq_true, decide_eq_true_eq] at c3'
        rcases c3' with h | h
        · omega
        · obtain ⟨_, _, _, c, hc, h1⟩ := busy_iff.1 h
          exact y3 c hc h1
      · repeat' (first
          | with_reducible refine pN ?_
          | with_reducible refine cN ?_
          | with_reducible refine bN ?_
          | with_reducible refine cE ?_
          | with_reducible refine cR ?_
          | with_reducible refine bR ?_
          | with_reducible refine lE ?_
          | with_reducible refine lR ?_
          | with_reducible refine jE ?_
          | with_reducible refine jR ?_
          | refine bE rfl ?_
          | refine bP rfl ?_
          | refine pC (by first | exact True.intro | omega | (intros; first | exact True.intro | omega) | (simp only [List.length_cons, List.length_nil, Int.toNat_natCast]; omega)) ?_
          | refine seqI rfl ?_
          | refine regI rfl ?_
          | refine scopeI rfl ?_
          | refine blockI rfl ?_
          | refine exitI rfl ?_
          | refine retI rfl ?_
          | refine skipI rfl ?_)
        refine loopI (σ := Int) (fun s => [(18, .int .i64 s)]) (fun s => []) (fun s => f ≤ s ∧ s ≤ a) (fun s => (a - s).toNat) f rfl (fun _ => rfl) rfl ?_ ?_ ?_
        · exact ⟨Int.le_refl _, y1⟩
        · repeat' (first | exact trivial | exact rfl | refine ⟨rfl, ?_⟩ | refine And.intro ?_ ?_)
        · intro s ⟨hs0, hs1⟩
          repeat' (first
            | with_reducible refine pN ?_
            | with_reducible refine cN ?_
            | with_reducible refine bN ?_
            | with_reducible refine cE ?_
            | with_reducible refine cR ?_
            | with_reducible refine bR ?_
            | with_reducible refine lE ?_
            | with_reducible refine lR ?_
            | with_reducible refine jE ?_
            | with_reducible refine jR ?_
            | refine bE rfl ?_
            | refine bP rfl ?_
            | refine pC (by first | exact True.intro | omega | (intros; first | exact True.intro | omega) | (simp only [List.length_cons, List.length_nil, Int.toNat_natCast]; omega)) ?_
            | refine seqI rfl ?_
            | refine regI rfl ?_
            | refine scopeI rfl ?_
            | refine blockI rfl ?_
            | refine exitI rfl ?_
            | refine retI rfl ?_
            | refine skipI rfl ?_)
          refine condI rfl (fun c4 => ?_) (fun c4 => ?_)
          · simp only [decide_eq_true_eq] at c4
            obtain ⟨c, hc, h1, h2⟩ := y4 s hs0 c4
            have hb : busyF xss t s (s + n) = true := busy_iff.2 ⟨by omega, by omega, by omega, c, hc, h1, h2⟩
            repeat' (first
              | with_reducible refine pN ?_
              | with_reducible refine cN ?_
              | with_reducible refine bN ?_
              | with_reducible refine cE ?_
              | with_reducible refine cR ?_
              | with_reducible refine bR ?_
              | with_reducible refine lE ?_
              | with_reducible refine lR ?_
              | with_reducible refine jE ?_
              | with_reducible refine jR ?_
              | refine bE rfl ?_
              | refine bP rfl ?_
              | refine pC (by first | exact True.intro | omega | (intros; first | exact True.intro | omega) | (simp only [List.length_cons, List.length_nil, Int.toNat_natCast]; omega) | exact g2) ?_
              | refine seqI rfl ?_
              | refine regI rfl ?_
              | refine scopeI rfl ?_
              | refine blockI rfl ?_
              | refine exitI rfl ?_
              | refine retI rfl ?_
              | refine skipI rfl ?_)
            refine condI rfl (fun c5 => ?_) (fun c5 => ?_)
            · exfalso
              have c5' : (!busyF xss t s (s + n)) = true := c5
              rw [hb] at c5'
              cases c5'
            · repeat' (first
                | with_reducible refine pN ?_
                | with_reducible refine cN ?_
                | with_reducible refine bN ?_
                | with_reducible refine cE ?_
                | with_reducible refine cR ?_
                | with_reducible refine bR ?_
                | with_reducible refine lE ?_
                | with_reducible refine lR ?_
                | with_reducible refine jE ?_
                | with_reducible refine jR ?_
                | refine bE rfl ?_
                | refine bP rfl ?_
                | refine pC (by first | exact True.intro | omega | (intros; first | exact True.intro | omega) | (simp only [List.length_cons, List.length_nil, Int.toNat_natCast]; omega)) ?_
                | refine seqI rfl ?_
                | refine regI rfl ?_
                | refine scopeI rfl ?_
                | refine blockI rfl ?_
                | refine exitI rfl ?_
                | refine retI rfl ?_
                | refine skipI rfl ?_)
              refine roundI (s + 1) rfl ?_ ?_ ?_
              · exact ⟨by omega, by omega⟩
              · show (a - (s + 1)).toNat < (a - s).toNat
                omega
              · repeat' (first | exact trivial | exact rfl | refine ⟨rfl, ?_⟩ | refine And.intro ?_ ?_)
          · simp only [decide_eq_false_iff_not] at c4
            have hfree : freeF xss ((t, a, a + n, 9) : Bk.El) = true := free_iff.2 ⟨⟨by show 0 ≤ t; omega, by show t < 60; omega, by show 0 ≤ a; omega, by show a < a + n; omega, y2, by show (1 : Int) ≤ 9; omega, by show (9 : Int) ≤ 1000000; omega⟩, fun c hc hm => y3 c hc hm⟩
            repeat' (first
              | with_reducible refine pN ?_
              | with_reducible refine cN ?_
              | with_reducible refine bN ?_
              | with_reducible refine cE ?_
              | with_reducible refine cR ?_
              | with_reducible refine bR ?_
              | with_reducible refine lE ?_
              | with_reducible refine lR ?_
              | with_reducible refine jE ?_
              | with_reducible refine jR ?_
              | refine bE rfl ?_
              | refine bP rfl ?_
              | refine pC (by first | exact True.intro | omega | (intros; first | exact True.intro | omega) | (simp only [List.length_cons, List.length_nil, Int.toNat_natCast]; omega) | exact fun _ => ⟨g2, g3⟩) ?_
              | refine seqI rfl ?_
              | refine regI rfl ?_
              | refine scopeI rfl ?_
              | refine blockI rfl ?_
              | refine exitI rfl ?_
              | refine retI rfl ?_
              | refine skipI rfl ?_)
            refine endR rfl ?_
            repeat' (first | exact trivial | exact rfl | refine ⟨rfl, ?_⟩ | refine And.intro ?_ ?_)
            unfold errF
            rw [if_pos hfree]
            rfl
end Go.AM.Ytibjkdbmlmmcjaa
