/- The law CalendarFreed: her function. -/
import Derived.Test.YtibjkdbmlmmcjaaCaLOr
set_option linter.all false
namespace Go.AM.Ytibjkdbmlmmcjaa
open Go.Proofs
set_option maxRecDepth 100000
set_option maxHeartbeats 8000000

def own77 (b : Bk.El) : Bk.El := (b.1, b.2.1, b.2.2.1, 77)

theorem some_owner {x : List t4.El} {b : Bk.El} (h : b ∈ someF x) : owB b ≤ 6 := by
  unfold someF at h
  obtain ⟨e, _, rfl⟩ := List.mem_map.1 h
  have := (pick_b (c := e.2.2.2) (n := 6) (by omega)).2
  show 1 + pickF e.2.2.2 6 ≤ 6
  omega

/-- What others have booked stays as it is. -/
theorem others {l : List Bk.El} (hl : ∀ b ∈ l, owB b = 77) {c : Bk.El} (h0 : 0 ≤ tlB c) (hc : owB c ≠ 77) : ∀ {xss : List (List Bk.El)}, CalG xss → (inC (bookAll l xss) c ↔ inC xss c) := by
  induction l with
  | nil => intro xss _; exact Iff.rfl
  | cons b l ih =>
    intro xss g
    have h1 := ih (fun b hb => hl b (List.mem_cons_of_mem _ hb)) (book_good g b).1
    have h2 : inC (bookAll (b :: l) xss) c ↔ inC (bookF xss b) c := h1
    rw [h2]
    cases hf : freeF xss b
    · rw [book_no hf]
    · rw [(book_yes g hf).2.1 c h0]
      constructor
      · rintro (rfl | h)
        · exact absurd (hl _ (by simp)) hc
        · exact h
      · exact .inr

theorem more {l : List Bk.El} {c : Bk.El} (h0 : 0 ≤ tlB c) : ∀ {xss : List (List Bk.El)}, CalG xss → inC xss c → inC (bookAll l xss) c := by
  induction l with
  | nil => intro xss _ h; exact h
  | cons b l ih =>
    intro xss g h
    refine ih (book_good g b).1 ?_
    cases hf : freeF xss b
    · rw [book_no hf]; exact h
    · exact ((book_yes g hf).2.1 c h0).2 (.inr h)

theorem freed_flat (xss : List (List Bk.El)) (o : Int) : (freedF xss o).flatten = xss.flatten.filter fun b => !ownsB o b := by
  unfold freedF delF
  rw [List.filter_flatten]

theorem freed_in {xss : List (List Bk.El)} (h : xss.length = 60) {o : Int} {c : Bk.El} (h0 : 0 ≤ tlB c) (h1 : tlB c < 60) : inC (freedF xss o) c ↔ inC xss c ∧ owB c ≠ o := by
  unfold inC toolL
  have e : getI (freedF xss o) [] (tlB c).toNat = delF (getI xss [] (tlB c).toNat) o := by
    unfold freedF getI
    rw [List.getD_eq_getElem?_getD, List.getD_eq_getElem?_getD, List.getElem?_map, List.getElem?_eq_getElem (by omega)]
    rfl
  rw [e]
  unfold delF
  rw [List.mem_filter]
  unfold ownsB
  simp [owB]

theorem filter_two (l : List Bk.El) (p : Bk.El → Bool) : (l.filter p).length + (l.filter fun b => !p b).length = l.length := by
  induction l with
  | nil => rfl
  | cons b l ih =>
    cases hp : p b
    · simp only [List.filter_cons, hp, List.length_cons, Bool.not_false, if_true]
      simp
      omega
    · simp only [List.filter_cons, hp, List.length_cons, Bool.not_true, if_true]
      simp
      omega

theorem freed_len (xss : List (List Bk.El)) (o : Int) : lenF (freedF xss o) + (ownedF xss o).length = lenF xss := by
  have := filter_two xss.flatten (ownsB o)
  rw [← freed_flat] at this
  unfold ownedF
  rw [← flat_len, ← flat_len xss]
  omega

/-- Owned bookings: in order. -/
def Before (a b : Bk.El) : Prop := tlB a < tlB b ∨ (tlB a = tlB b ∧ enB a ≤ stB b)

theorem flat_order {xss : List (List Bk.El)} (g : CalG xss) : xss.flatten.Pairwise Before := by
  have hl := g.len
  have e : ∀ j (hj : j < xss.length), xss[j] = getI xss [] j := fun j hj => by simp [getI, List.getD, List.getElem?_eq_getElem hj]
  refine List.pairwise_flatten.2 ⟨fun l hl' => ?_, ?_⟩
  · obtain ⟨j, hj, rfl⟩ := List.getElem_of_mem hl'
    rw [e j hj]
    have hg := g.each j (by omega)
    refine List.pairwise_iff_getElem.2 fun p q hp hq hpq => ?_
    have h1 := List.pairwise_iff_getElem.1 hg.ord p q hp hq hpq
    have h2 := (hg.all _ (List.getElem_mem hp)).2
    have h3 := (hg.all _ (List.getElem_mem hq)).2
    exact .inr ⟨by omega, h1⟩
  · rw [List.pairwise_iff_getElem]
    intro i j hi hj hij a ha b hb
    rw [e i hi] at ha
    rw [e j hj] at hb
    have h1 := ((g.each i (by omega)).all a ha).2
    have h2 := ((g.each j (by omega)).all b hb).2
    exact .inl (by omega)

theorem flat_all {xss : List (List Bk.El)} (g : CalG xss) : Apart xss.flatten ∧ ∀ c, (c ∈ xss.flatten ↔ 0 ≤ tlB c ∧ tlB c < 60 ∧ inC xss c) := by
  have := flat_apart g 60 (by omega)
  rwa [List.take_of_length_le (by rw [g.len]; omega)] at this

/-- Two of a calendar's bookings do not meet. -/
theorem two_apart {xss : List (List Bk.El)} (g : CalG xss) {a b : Bk.El} (ha : inC xss a) (hb : inC xss b) (h0 : 0 ≤ tlB a) (h1 : tlB a < 60) (ht : tlB a = tlB b) (hne : a ≠ b) : ¬ meet a b := fun hm => by
  unfold inC at ha hb
  rw [← ht] at hb
  have hg := g.tool h0 h1
  obtain ⟨i, hi, hia⟩ := List.getElem_of_mem ha
  obtain ⟨j, hj, hjb⟩ := List.getElem_of_mem hb
  have m1 := hm.1
  have m2 := hm.2
  have hp := List.pairwise_iff_getElem.1 hg.ord
  rcases Nat.lt_trichotomy i j with h | h | h
  · have := hp i j hi hj h
    rw [hia, hjb] at this
    omega
  · subst h; exact hne (hia.symm.trans hjb)
  · have := hp j i hj hi h
    rw [hia, hjb] at this
    omega

/-- The owner's bookings made again: what holds on the way. -/
structure Again (x0 x1 xss : List (List Bk.El)) (m : List Bk.El) : Prop where
  mem : ∀ c, 0 ≤ tlB c → (inC xss c ↔ inC x0 c ∨ c ∈ m)
  good : CalG xss
  len : lenF xss = lenF x0 + m.length

theorem again_no {x0 x1 : List (List Bk.El)} (g : CalG x0) : Again x0 x1 x0 [] := ⟨fun c _ => by simp, g, by simp⟩

theorem Again.free {x0 x1 xss : List (List Bk.El)} {m : List Bk.El} (h : Again x0 x1 xss m) (g1 : CalG x1) (h01 : ∀ c, 0 ≤ tlB c → inC x0 c → inC x1 c) (hm : ∀ c ∈ m, inC x1 c) {b : Bk.El} (hb : inC x1 b) (h0 : 0 ≤ tlB b) (h1 : tlB b < 60)
    (hnew : ∀ c, inC x0 c ∨ c ∈ m → c ≠ b) : freeF xss b = true := by
  refine free_iff.2 ⟨g1.good hb h0 h1, fun c hc hcm => ?_⟩
  have ht := ((h.good.tool h0 h1).all c hc)
  have hte : tlB c = tlB b := by have := ht.2; have := ht.1.t0; omega
  have hcc : inC xss c := by unfold inC; rw [hte]; exact hc
  have hor := (h.mem c (by omega)).1 hcc
  have hc1 : inC x1 c := by
    rcases hor with h' | h'
    · exact h01 c (by omega) h'
    · exact hm c h'
  exact two_apart g1 hc1 hb (by omega) (by omega) hte (hnew c hor) hcm

theorem Again.yes {x0 x1 xss : List (List Bk.El)} {m : List Bk.El} (h : Again x0 x1 xss m) {b : Bk.El} (hf : freeF xss b = true) : Again x0 x1 (bookF xss b) (m ++ [b]) := by
  obtain ⟨h1, h2, h3⟩ := book_yes h.good hf
  refine ⟨fun c hc => ?_, h1, by rw [h3, h.len, List.length_append]; rfl⟩
  rw [h2 c hc, h.mem c hc, List.mem_append, List.mem_singleton]
  constructor
  · rintro (h | h | h)
    · exact .inr (.inr h)
    · exact .inl h
    · exact .inr (.inl h)
  · rintro (h | h | h)
    · exact .inr (.inl h)
    · exact .inr (.inr h)
    · exact .inl h

theorem err_free (xss : List (List Bk.El)) (b : Bk.El) : decide (errF xss b = 0) = freeF xss b := by
  unfold errF
  cases freeF xss b <;> decide

theorem err_free' (xss : List (List Bk.El)) (b : Bk.El) : decide (errF xss b ≠ 0) = !freeF xss b := by
  unfold errF
  cases freeF xss b <;> decide

theorem own_take {l : List Bk.El} {i : Nat} (h : i < l.length) (xss : List (List Bk.El)) : bookAll ((l.take (i + 1)).map own77) xss = bookF (bookAll ((l.take i).map own77) xss) (own77 (getI l Bk.dflt i)) := by
  rw [take_succ_getI (d := Bk.dflt) h, List.map_append, bookAll_append]; rfl

def badOrd (j t t' s s' : Int) : Bool := decide (0 < j) && (decide (t < t') || (decide (t = t') && decide (s ≤ s')))

def frS : Spec := plain fun
  | [.sl (.pair (.int .i64) (.pair (.int .i64) (.pair (.int .i64) (.int .i64)))) _, .sl (.pair (.int .i64) (.pair (.int .i64) (.pair (.int .i64) (.int .i64)))) _] => outV True (.bool true)
  | _ => none

def sigFr : List (Nat × Spec) := [(10, saneS), (11, someS), (30, bookedS), (32, calCloneS), (31, equalS), (14, bookS), (26, ownedS), (17, freeS)]
theorem sigFrOk : SigOk Try.prog (look sigFr) := sigCons (sigCons (sigCons (sigCons (sigCons (sigCons (sigCons (sigCons sigNil
  Try.func17 (by kernel_rfl) (c := body Try.f17) rfl freeOk)
  Try.func26 (by kernel_rfl) (c := body Try.f26) rfl ownedOk)
  Try.func14 (by kernel_rfl) (c := body Try.f14) rfl bookOk)
  Try.func31 (by kernel_rfl) (c := body Try.f31) rfl equalOk)
  Try.func32 (by kernel_rfl) (c := body Try.f32) rfl calCloneOk)
  Try.func30 (by kernel_rfl) (c := body Try.f30) rfl bookedOk)
  Try.func11 (by kernel_rfl) (c := body Try.f11) rfl someOk)
  Try.func10 (by kernel_rfl) (c := body Try.f10) rfl saneOk

theorem frOk : SpecSound Try.prog 7 frS := by
  refine soundP (envOf sigFrOk) Try.func7 (c := body Try.f7) rfl (by kernel_rfl) rfl ?_
  intro args out hf hpre
  split at hf <;> try (cases hf; done)
  rename_i x y
  cases hf
  refine ⟨Nat.le_of_ble_eq_true rfl, initI (args := [.sl t4 x, .sl t4 y]) rfl ?_⟩
  have hsl := someF_len x
  have hsly := someF_len y
  obtain ⟨g1, g2, g3⟩ := bookAll_ok (someF x) (by omega)
  have hlen := (bookAll_good (l := someF x) noCal_good).2
  rw [lenF_no] at hlen
  have h6 : ∀ c, 0 ≤ tlB c → inC (bookAll (someF x) noCal) c → owB c ≠ 77 := fun c h0 h => by
    rcases in_all h0 noCal_good h with h | h
    · have := some_owner h
      omega
    · exact absurd h (noCal_in c)
  repeat' (first
    | with_reducible refine pN ?_
    | with_reducible refine cN ?_
    | with_reducible refine bN ?_
    | with_reducible refine cE ?_
    | with_reducible refine cR ?_
    | with_reducible refine bR ?_
    | with_reducible refine lE ?_
    | with_reducible refine lR ?_
    | with_reducible refine jE ?_
    | with_reducible refine jR ?_
    | refine bE rfl ?_
    | refine bP rfl ?_
    | refine pC (by first | exact True.intro | omega | (intros; first | exact True.intro | omega) | (simp only [List.length_cons, List.length_nil, Int.toNat_natCast]; omega) | exact g2) ?_
    | refine seqI rfl ?_
    | refine regI rfl ?_
    | refine scopeI rfl ?_
    | refine blockI rfl ?_
    | refine exitI rfl ?_
    | refine retI rfl ?_
    | refine skipI rfl ?_)
  refine condF rfl ?_
  repeat' (first
    | with_reducible refine pN ?_
    | with_reducible refine cN ?_
    | with_reducible refine bN ?_
    | with_reducible refine cE ?_
    | with_reducible refine cR ?_
    | with_reducible refine bR ?_
    | with_reducible refine lE ?_
    | with_reducible refine lR ?_
    | with_reducible refine jE ?_
    | with_reducible refine jR ?_
    | refine bE rfl ?_
    | refine bP rfl ?_
    | refine pC (by first | exact True.intro | omega | (intros; first | exact True.intro | omega) | (simp only [List.length_cons, List.length_nil, Int.toNat_natCast]; omega)) ?_
    | refine seqI rfl ?_
    | refine regI rfl ?_
    | refine scopeI rfl ?_
    | refine blockI rfl ?_
    | refine exitI rfl ?_
    | refine retI rfl ?_
    | refine skipI rfl ?_)
  generalize bookAll (someF x) noCal = x0 at *
  generalize someF y = l at *
  refine loopI (σ := (Nat × List Bk.El)) (fun s => [(6, .ptr 6000 0), (8, .own 8000), (10, .int .i64 s.1)]) (fun s => [(6000, .arr Bk (bookAll ((l.take s.1).map own77) x0) none), (8000, .seq Bk s.2)]) (fun s => s.1 ≤ l.length ∧ s.1 ≤ 10 ∧ s.2.length ≤ s.1 ∧ lenF (bookAll ((l.take s.1).map own77) x0) = lenF x0 + s.2.length) (fun s => 10 - s.1) (0, []) rfl (fun _ => rfl) rfl ?_ ?_ ?_
  · exact ⟨Nat.zero_le _, Nat.zero_le _, Nat.zero_le _, rfl⟩
  · repeat' (first | exact trivial | exact rfl | refine ⟨rfl, ?_⟩ | refine And.intro ?_ ?_)
  · rintro ⟨i, made⟩ ⟨hi, hi10, hmi, hk⟩
    dsimp only at hi hi10 hmi hk ⊢
    obtain ⟨k1, _⟩ := bookAll_good (l := (l.take i).map own77) g1
    have k2 := k1.cal (by omega)
    have k3 := k1.sorted
    repeat' (first
      | with_reducible refine pN ?_
      | with_reducible refine cN ?_
      | with_reducible refine bN ?_
      | with_reducible refine cE ?_
      | with_reducible refine cR ?_
      | with_reducible refine bR ?_
      | with_reducible refine lE ?_
      | with_reducible refine lR ?_
      | with_reducible refine jE ?_
      | with_reducible refine jR ?_
      | refine bE rfl ?_
      | refine bP rfl ?_
      | refine pC (by first | exact True.intro | omega | (intros; first | exact True.intro | omega) | (simp only [List.length_cons, List.length_nil, Int.toNat_natCast]; omega)) ?_
      | refine seqI rfl ?_
      | refine regI rfl ?_
      | refine scopeI rfl ?_
      | refine blockI rfl ?_
      | refine exitI rfl ?_
      | refine retI rfl ?_
      | refine skipI rfl ?_)
    refine condI rfl (fun c1 => ?_) (fun c1 => ?_)
    · simp only [Bool.and_eq_true, decide_eq_true_eq] at c1
      have hin : ((i : Int)).toNat = i := by omega
      have hil : i < l.length := by omega
      repeat' (first
        | with_reducible refine pN ?_
        | with_reducible refine cN ?_
        | with_reducible refine bN ?_
        | with_reducible refine cE ?_
        | with_reducible refine cR ?_
        | with_reducible refine bR ?_
        | with_reducible refine lE ?_
        | with_reducible refine lR ?_
        | with_reducible refine jE ?_
        | with_reducible refine jR ?_
        | refine bE rfl ?_
        | refine bP rfl ?_
        | refine pC (by first | exact True.intro | omega | (intros; first | exact True.intro | omega) | (simp only [List.length_cons, List.length_nil, Int.toNat_natCast]; omega) | exact ⟨k2, k3⟩) ?_
        | refine seqI rfl ?_
        | refine regI rfl ?_
        | refine scopeI rfl ?_
        | refine blockI rfl ?_
        | refine exitI rfl ?_
        | refine retI rfl ?_
        | refine skipI rfl ?_)
      refine condI rfl (fun c2 => ?_) (fun c2 => ?_)
      · have hf : decide (errF (bookAll ((l.take i).map own77) x0) (own77 (getI l Bk.dflt ((i : Int)).toNat)) = 0) = true := c2
        rw [err_free, hin] at hf
        repeat' (first
          | with_reducible refine pN ?_
          | with_reducible refine cN ?_
          | with_reducible refine bN ?_
          | with_reducible refine cE ?_
          | with_reducible refine cR ?_
          | with_reducible refine bR ?_
          | with_reducible refine lE ?_
          | with_reducible refine lR ?_
          | with_reducible refine jE ?_
          | with_reducible refine jR ?_
          | refine bE rfl ?_
          | refine bP rfl ?_
          | refine pC (by first | exact True.intro | omega | (intros; first | exact True.intro | omega) | (simp only [List.length_cons, List.length_nil, Int.toNat_natCast]; omega) | (simp only [List.length_append, List.length_cons, List.length_nil]; omega)) ?_
          | refine seqI rfl ?_
          | refine regI rfl ?_
          | refine scopeI rfl ?_
          | refine blockI rfl ?_
          | refine exitI rfl ?_
          | refine retI rfl ?_
          | refine skipI rfl ?_)
        refine roundI (i + 1, made ++ [own77 (getI l Bk.dflt i)]) rfl ?_ ?_ ?_
        · refine ⟨by show i + 1 ≤ l.length; omega, by show i + 1 ≤ 10; omega, by show (made ++ [own77 (getI l Bk.dflt i)]).length ≤ i + 1; rw [List.length_append]; simp only [List.length_cons, List.length_nil]; omega, ?_⟩
          show lenF (bookAll ((l.take (i + 1)).map own77) x0) = lenF x0 + (made ++ [own77 (getI l Bk.dflt i)]).length
          rw [own_take hil, (book_yes k1 hf).2.2, hk, List.length_append]
          rfl
        · show 10 - (i + 1) < 10 - i
          omega
        · repeat' (first | exact trivial | with_reducible exact rfl | refine And.intro ?_ ?_)
          · rfl
          · show bookAll ((l.take (i + 1)).map own77) x0 = _
            rw [own_take hil, hin]
            rfl
          · rw [hin]
            rfl
      · have hf : decide (errF (bookAll ((l.take i).map own77) x0) (own77 (getI l Bk.dflt ((i : Int)).toNat)) = 0) = false := c2
        rw [err_free, hin] at hf
        repeat' (first
          | with_reducible refine pN ?_
          | with_reducible refine cN ?_
          | with_reducible refine bN ?_
          | with_reducible refine cE ?_
          | with_reducible refine cR ?_
          | with_reducible refine bR ?_
          | with_reducible refine lE ?_
          | with_reducible refine lR ?_
          | with_reducible refine jE ?_
          | with_reducible refine jR ?_
          | refine bE rfl ?_
          | refine bP rfl ?_
          | refine pC (by first | exact True.intro | omega | (intros; first | exact True.intro | omega) | (simp only [List.length_cons, List.length_nil, Int.toNat_natCast]; omega)) ?_
          | refine seqI rfl ?_
          | refine regI rfl ?_
          | refine scopeI rfl ?_
          | refine blockI rfl ?_
          | refine exitI rfl ?_
          | refine retI rfl ?_
          | refine skipI rfl ?_)
        refine roundI (i + 1, made) rfl ?_ ?_ ?_
        · refine ⟨by show i + 1 ≤ l.length; omega, by show i + 1 ≤ 10; omega, by show made.length ≤ i + 1; omega, ?_⟩
          show lenF (bookAll ((l.take (i + 1)).map own77) x0) = lenF x0 + made.length
          rw [own_take hil, book_no hf, hk]
        · show 10 - (i + 1) < 10 - i
          omega
        · repeat' (first | exact trivial | with_reducible exact rfl | refine And.intro ?_ ?_)
          · rfl
          · show bookAll ((l.take (i + 1)).map own77) x0 = _
            rw [own_take hil, hin]
            rfl
    · simp only [Bool.and_eq_false_iff, decide_eq_false_iff_not] at c1
      have hoth : ∀ c, 0 ≤ tlB c → owB c ≠ 77 → (inC (bookAll ((l.take i).map own77) x0) c ↔ inC x0 c) := fun c h0 hc => others (fun b hb => by
        obtain ⟨e, _, rfl⟩ := List.mem_map.1 hb
        rfl) h0 hc g1
      have hmore : ∀ c, 0 ≤ tlB c → inC x0 c → inC (bookAll ((l.take i).map own77) x0) c := fun c h0 => more h0 g1
      generalize bookAll ((l.take i).map own77) x0 = x1 at *
      have hfr : freedF x1 77 = x0 := cal_uniq (freed_good k1 77) g1 fun c h0 h1 => by
        rw [freed_in k1.len h0 h1]
        constructor
        · exact fun h => (hoth c h0 h.2).1 h.1
        · exact fun h => ⟨hmore c h0 h, h6 c h0 h⟩
      have hol : (ownedF x1 77).length = made.length := by
        have := freed_len x1 77
        rw [hfr] at this
        omega
      have ho0 : ownedF x0 77 = [] := by
        unfold ownedF
        rw [List.filter_eq_nil_iff]
        intro c hc hco
        obtain ⟨h0, _, h2⟩ := ((flat_all g1).2 c).1 hc
        exact h6 c h0 h2 (of_decide_eq_true hco)
      repeat' (first
        | with_reducible refine pN ?_
        | with_reducible refine cN ?_
        | with_reducible refine bN ?_
        | with_reducible refine cE ?_
        | with_reducible refine cR ?_
        | with_reducible refine bR ?_
        | with_reducible refine lE ?_
        | with_reducible refine lR ?_
        | with_reducible refine jE ?_
        | with_reducible refine jR ?_
        | refine bE rfl ?_
        | refine bP rfl ?_
        | refine pC (by first | exact True.intro | omega | (intros; first | exact True.intro | omega) | (simp only [List.length_cons, List.length_nil, Int.toNat_natCast]; omega) | first | exact k2 | exact ⟨k2, k3⟩) ?_
        | refine seqI rfl ?_
        | refine regI rfl ?_
        | refine scopeI rfl ?_
        | refine blockI rfl ?_
        | refine exitI rfl ?_
        | refine retI rfl ?_
        | refine skipI rfl ?_)
      rw [hfr]
      have hnn : (lenF x1 : Int) - lenF x0 = made.length := by omega
      rw [hnn]
      refine regH [(68, false)] rfl ?_
      repeat' (first | with_reducible refine pN ?_ | refine pC (by first | exact True.intro | exact fun _ => ⟨g2, g2⟩ | exact fun _ => g2 | exact g2 | (intros; omega) | (simp [hol, eqC_iff]; done)) ?_)
      with_reducible refine cN ?_
      refine condF (by rw [ho0]; rfl) ?_
      repeat' (first
        | with_reducible refine pN ?_
        | with_reducible refine cN ?_
        | with_reducible refine bN ?_
        | with_reducible refine cE ?_
        | with_reducible refine cR ?_
        | with_reducible refine bR ?_
        | with_reducible refine lE ?_
        | with_reducible refine lR ?_
        | with_reducible refine jE ?_
        | with_reducible refine jR ?_
        | refine bE rfl ?_
        | refine bP rfl ?_
        | refine pC (by first | exact True.intro | omega | (intros; first | exact True.intro | omega) | (simp only [List.length_cons, List.length_nil, Int.toNat_natCast]; omega)) ?_
        | refine seqI rfl ?_
        | refine regI rfl ?_
        | refine scopeI rfl ?_
        | refine blockI rfl ?_
        | refine exitI rfl ?_
        | refine retI rfl ?_
        | refine skipI rfl ?_)
      have hAf := flat_order k1
      have hap := (flat_all k1)
      have hol2 : (ownedF x1 77).Pairwise Before := hAf.sublist List.filter_sublist
      have hmem : ∀ c, c ∈ ownedF x1 77 ↔ (0 ≤ tlB c ∧ tlB c < 60 ∧ inC x1 c) ∧ owB c = 77 := fun c => by
        unfold ownedF
        rw [List.mem_filter, hap.2]
        unfold ownsB
        rw [decide_eq_true_eq]
        rfl
      have hol1 : (lenF x1 : Int) = lenF x0 + (ownedF x1 77).length := by omega
      generalize ownedF x1 77 = m at *
      refine loopI (σ := Nat) (fun j => [(6, .ptr 6000 0), (14, .int .i64 j)]) (fun j => [(6000, .arr Bk (bookAll (m.take j) x0) none)]) (fun j => j ≤ m.length ∧ Again x0 x1 (bookAll (m.take j) x0) (m.take j)) (fun j => m.length - j) 0 rfl (fun _ => rfl) rfl ?_ ?_ ?_
      · exact ⟨Nat.zero_le _, again_no g1⟩
      · repeat' (first | exact trivial | exact rfl | refine ⟨rfl, ?_⟩ | refine And.intro ?_ ?_)
      · rintro j ⟨hj, hA⟩
        have hAl := hA.len
        rw [List.length_take] at hAl
        have a2 := hA.good.cal (by omega)
        have a3 := hA.good.sorted
        repeat' (first
          | with_reducible refine pN ?_
          | with_reducible refine cN ?_
          | with_reducible refine bN ?_
          | with_reducible refine cE ?_
          | with_reducible refine cR ?_
          | with_reducible refine bR ?_
          | with_reducible refine lE ?_
          | with_reducible refine lR ?_
          | with_reducible refine jE ?_
          | with_reducible refine jR ?_
          | refine bE rfl ?_
          | refine bP rfl ?_
          | refine pC (by first | exact True.intro | omega | (intros; first | exact True.intro | omega) | (simp only [List.length_cons, List.length_nil, Int.toNat_natCast]; omega)) ?_
          | refine seqI rfl ?_
          | refine regI rfl ?_
          | refine scopeI rfl ?_
          | refine blockI rfl ?_
          | refine exitI rfl ?_
          | refine retI rfl ?_
          | refine skipI rfl ?_)
        refine condI rfl (fun c3 => ?_) (fun c3 => ?_)
        · simp only [decide_eq_true_eq] at c3
          have hjn : ((j : Int)).toNat = j := by omega
          have hjm : j < m.length := by omega
          have hb := getI_mem hjm
          obtain ⟨⟨b0, b1, b2⟩, b3⟩ := (hmem _).1 hb
          have ej : getI m Bk.dflt j = m[j] := by simp [getI, List.getD, List.getElem?_eq_getElem hjm]
          have hF : freeF (bookAll (m.take j) x0) (getI m Bk.dflt j) = true := hA.free k1 (fun c h0 h => hmore c h0 h) (fun c hc => ((hmem c).1 (List.mem_of_mem_take hc)).1.2.2) b2 b0 b1 fun c hc hcb => by
            subst hcb
            rcases hc with hc | hc
            · exact h6 _ b0 hc b3
            · obtain ⟨p, hp, hpe⟩ := List.getElem_of_mem hc
              rw [List.length_take] at hp
              rw [List.getElem_take] at hpe
              have := List.pairwise_iff_getElem.1 hol2 p j (by omega) hjm (by omega)
              rw [hpe, ← ej] at this
              have hse := (k1.good b2 b0 b1).se
              rcases this with h | h
              · omega
              · omega
          have hown : decide ((getI m Bk.dflt ((j : Int)).toNat).2.2.2 ≠ 77) = false := by
            rw [hjn]
            have : (getI m Bk.dflt j).2.2.2 = 77 := b3
            simp [this]
          repeat' (first | with_reducible refine cN ?_ | refine skipI rfl ?_ | refine scopeI rfl ?_ | refine seqI rfl ?_ | refine blockI rfl ?_)
          refine regH [(86, false)] rfl ?_
          repeat' (first | with_reducible refine pN ?_ | refine pC (by first | exact hown | exact True.intro | exact ⟨a2, a3⟩ | (intros; omega)) ?_)
          with_reducible refine cN ?_
          refine condI rfl (fun c4 => ?_) (fun c4 => ?_)
          · exfalso
            have c4' : decide (errF (bookAll (m.take j) x0) (getI m Bk.dflt ((j : Int)).toNat) ≠ 0) = true := c4
            rw [err_free', hjn, hF] at c4'
            cases c4'
          · repeat' (first
              | with_reducible refine pN ?_
              | with_reducible refine cN ?_
              | with_reducible refine bN ?_
              | with_reducible refine cE ?_
              | with_reducible refine cR ?_
              | with_reducible refine bR ?_
              | with_reducible refine lE ?_
              | with_reducible refine lR ?_
              | with_reducible refine jE ?_
              | with_reducible refine jR ?_
              | refine bE rfl ?_
              | refine bP rfl ?_
              | refine pC (by first | exact True.intro | omega | (intros; first | exact True.intro | omega) | (simp only [List.length_cons, List.length_nil, Int.toNat_natCast]; omega) | (simp only [decide_eq_true_eq] at *; omega)) ?_
              | refine seqI rfl ?_
              | refine regI rfl ?_
              | refine scopeI rfl ?_
              | refine blockI rfl ?_
              | refine exitI rfl ?_
              | refine retI rfl ?_
              | refine skipI rfl ?_)
            refine condI rfl (fun c5 => ?_) (fun c5 => ?_)
            · exfalso
              have c5' : badOrd j (tlB (getI m Bk.dflt ((j : Int)).toNat)) (tlB (getI m Bk.dflt ((j : Int) - 1).toNat)) (stB (getI m Bk.dflt ((j : Int)).toNat)) (stB (getI m Bk.dflt ((j : Int) - 1).toNat)) = true := c5
              unfold badOrd at c5'
              simp only [Bool.and_eq_true, Bool.or_eq_true, decide_eq_true_eq] at c5'
              obtain ⟨hj0, hor⟩ := c5'
              rw [hjn, show ((j : Int) - 1).toNat = j - 1 by omega] at hor
              have e1 : getI m Bk.dflt (j - 1) = m[j - 1] := by simp [getI, List.getD, List.getElem?_eq_getElem (show j - 1 < m.length by omega)]
              have hbf := List.pairwise_iff_getElem.1 hol2 (j - 1) j (by omega) hjm (by omega)
              rw [← e1, ← ej] at hbf
              obtain ⟨⟨d0, d1, d2⟩, d3⟩ := (hmem _).1 (getI_mem (m := m) (i := j - 1) (by omega))
              have hse := (k1.good d2 d0 d1).se
              rcases hbf with h | h <;> rcases hor with h' | h' <;> omega
            · repeat' (first
                | with_reducible refine pN ?_
                | with_reducible refine cN ?_
                | with_reducible refine bN ?_
                | with_reducible refine cE ?_
                | with_reducible refine cR ?_
                | with_reducible refine bR ?_
                | with_reducible refine lE ?_
                | with_reducible refine lR ?_
                | with_reducible refine jE ?_
                | with_reducible refine jR ?_
                | refine bE rfl ?_
                | refine bP rfl ?_
                | refine pC (by first | exact True.intro | omega | (intros; first | exact True.intro | omega) | (simp only [List.length_cons, List.length_nil, Int.toNat_natCast]; omega)) ?_
                | refine seqI rfl ?_
                | refine regI rfl ?_
                | refine scopeI rfl ?_
                | refine blockI rfl ?_
                | refine exitI rfl ?_
                | refine retI rfl ?_
                | refine skipI rfl ?_)
              refine roundI (j + 1) rfl ?_ ?_ ?_
              · refine ⟨by omega, ?_⟩
                rw [bookAll_take hjm, take_succ_getI (d := Bk.dflt) hjm]
                exact hA.yes hF
              · show m.length - (j + 1) < m.length - j
                omega
              · repeat' (first | exact trivial | with_reducible exact rfl | refine And.intro ?_ ?_)
                · rfl
                · rw [bookAll_take hjm, hjn]
        · simp only [decide_eq_false_iff_not] at c3
          rw [List.take_of_length_le (i := j) (by omega)] at hA a2 a3 ⊢
          have hend : bookAll m x0 = x1 := cal_uniq hA.good k1 fun c h0 h1 => by
            rw [hA.mem c h0, hmem]
            constructor
            · rintro (h | h)
              · exact hmore c h0 h
              · exact h.1.2.2
            · intro h
              by_cases ho : owB c = 77
              · exact .inr ⟨⟨h0, h1, h⟩, ho⟩
              · exact .inl ((hoth c h0 ho).1 h)
          rw [hend] at a2 a3 ⊢
          repeat' (first
            | with_reducible refine pN ?_
            | with_reducible refine cN ?_
            | with_reducible refine bN ?_
            | with_reducible refine cE ?_
            | with_reducible refine cR ?_
            | with_reducible refine bR ?_
            | with_reducible refine lE ?_
            | with_reducible refine lR ?_
            | with_reducible refine jE ?_
            | with_reducible refine jR ?_
            | refine bE rfl ?_
            | refine bP rfl ?_
            | refine pC (by first | exact True.intro | omega | (intros; first | exact True.intro | omega) | (simp only [List.length_cons, List.length_nil, Int.toNat_natCast]; omega) | exact fun _ => k2) ?_
            | refine seqI rfl ?_
            | refine regI rfl ?_
            | refine scopeI rfl ?_
            | refine blockI rfl ?_
            | refine exitI rfl ?_
            | refine retI rfl ?_
            | refine skipI rfl ?_)
          refine endR rfl ?_
          repeat' (first | exact trivial | exact rfl | refine ⟨rfl, ?_⟩ | refine And.intro ?_ ?_)
          rw [hfr, hnn]
          simp
end Go.AM.Ytibjkdbmlmmcjaa
