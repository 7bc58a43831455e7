/- ReT. -/
import Derived.Test.YtmjeocinfoeeeaaPq31

section
set_option linter.all false
namespace Go.AM.Ytmjeocinfoeeeaa.Re
open Go.Proofs
theorem fold_some {c : CalT} {e a b : Int} {ns : List NeedT} {ws : List tWin.El} {kvs : DlT} {y : List StT × Int} : ∀ {l : List (List PairT)} {s : BestT}, l.foldl (stepG c e a b ns ws kvs) s = some y →
    s = some y ∨ ∃ ch ∈ l, ∃ xs, stG b c e ns ch = some xs ∧ lateAny kvs xs = false ∧ safeF e a b xs ws = true ∧ y = (xs, overG (lastG xs))
  | [], s, h => .inl h
  | ch :: l, s, h => by
    rw [List.foldl_cons] at h
    rcases fold_some h with h1 | ⟨ch', h1, h2⟩
    · unfold stepG at h1
      cases hs : stG b c e ns ch with
      | none => rw [hs] at h1; exact .inl h1
      | some xs =>
        rw [hs] at h1
        dsimp only at h1
        cases hA : (s.isSome && decide (overG (lastG xs) ≥ bLst s)) <;> rw [hA] at h1
        · rw [cond_false] at h1
          cases hB : lateAny kvs xs <;> rw [hB] at h1
          · rw [cond_false] at h1
            cases hC : safeF e a b xs ws <;> rw [hC] at h1
            · exact .inl h1
            · exact .inr ⟨ch, by simp, xs, hs, hB, hC, (Option.some.inj h1).symm⟩
          · exact .inl h1
        · exact .inl h1
    · exact .inr ⟨ch', by simp [h1], h2⟩
theorem best_some {c : CalT} {e a b : Int} {ns : List NeedT} {ws : List tWin.El} {kvs : DlT} {y : List StT × Int} (h : bestG c e a b ns ws kvs = some y) :
    ∃ ch ∈ chL ns [], stG b c e ns ch = some y.1 ∧ lateAny kvs y.1 = false ∧ safeF e a b y.1 ws = true ∧ y.2 = overG (lastG y.1) := by
  rcases fold_some (s := none) h with h1 | ⟨ch, h1, xs, h2, h3, h4, h5⟩
  · cases h1
  · subst h5; exact ⟨ch, h1, h2, h3, h4, rfl⟩
theorem tool_mem {c : CalT} (h : CalG c) {t : Int} (h0 : 0 ≤ t) (h1 : t < 60) {e : Bk.El} : e ∈ toolL c t ↔ inC c e ∧ tlB e = t := by
  constructor
  · intro he
    have ht := ((h.tool h0 h1).all e he).2
    have ht : tlB e = t := by omega
    exact ⟨by unfold inC; rw [ht]; exact he, ht⟩
  · rintro ⟨h2, h3⟩
    unfold inC at h2
    rwa [h3] at h2
theorem tool_book {c : CalT} (h : CalG c) {b : Bk.El} (hf : freeF c b = true) {t : Int} (h0 : 0 ≤ t) (h1 : t < 60) {e : Bk.El} : e ∈ toolL (bookF c b) t ↔ (e = b ∧ tlB b = t) ∨ e ∈ toolL c t := by
  obtain ⟨g1, g2, _⟩ := book_yes h hf
  rw [tool_mem g1 h0 h1, tool_mem h h0 h1]
  constructor
  · rintro ⟨h2, h3⟩
    rcases (g2 e (by omega)).1 h2 with rfl | h4
    · exact .inl ⟨rfl, h3⟩
    · exact .inr ⟨h4, h3⟩
  · rintro (⟨rfl, h3⟩ | ⟨h4, h3⟩)
    · exact ⟨(g2 e (by omega)).2 (.inl rfl), h3⟩
    · exact ⟨(g2 e (by omega)).2 (.inr h4), h3⟩
theorem free_book {c : CalT} (h : CalG c) {b d : Bk.El} (hf : freeF c b = true) : freeF (bookF c b) d = true ↔ freeF c d = true ∧ ¬ (tlB b = tlB d ∧ meet b d) := by
  rw [free_iff, free_iff]
  constructor
  · rintro ⟨h1, h2⟩
    refine ⟨⟨h1, fun e he => h2 e ((tool_book h hf h1.t0 h1.t1).2 (.inr he))⟩, fun ⟨h3, h4⟩ => h2 b ((tool_book h hf h1.t0 h1.t1).2 (.inl ⟨rfl, h3⟩)) h4⟩
  · rintro ⟨⟨h1, h2⟩, h3⟩
    refine ⟨h1, fun e he hm => ?_⟩
    rcases (tool_book h hf h1.t0 h1.t1).1 he with ⟨rfl, h4⟩ | h4
    · exact h3 ⟨h4, hm⟩
    · exact h2 e h4 hm
def apartB (a b : Bk.El) : Prop := ¬ (tlB a = tlB b ∧ meet a b)
theorem allFree_iff : ∀ {l : List Bk.El} {c : CalT}, CalG c → (allFree c l = true ↔ (∀ b ∈ l, freeF c b = true) ∧ l.Pairwise apartB)
  | [], c, _ => by simp [allFree]
  | b :: l, c, h => by
    simp only [allFree, Bool.and_eq_true, List.mem_cons, forall_eq_or_imp, List.pairwise_cons]
    constructor
    · rintro ⟨h1, h2⟩
      obtain ⟨h3, h4⟩ := (allFree_iff (book_good h b).1).1 h2
      exact ⟨⟨h1, fun d hd => ((free_book h h1).1 (h3 d hd)).1⟩, fun d hd => ((free_book h h1).1 (h3 d hd)).2, h4⟩
    · rintro ⟨⟨h1, h2⟩, h3, h4⟩
      exact ⟨h1, (allFree_iff (book_good h b).1).2 ⟨fun d hd => (free_book h h1).2 ⟨h2 d hd, h3 d hd⟩, h4⟩⟩
def cntC (p : Bk.El → Bool) (c : CalT) : Nat := c.flatten.countP p
theorem cnt_set {p : Bk.El → Bool} {l : List Bk.El} : ∀ {c : CalT} {i : Nat}, i < c.length → cntC p (c.set i l) + (getI c [] i).countP p = cntC p c + l.countP p
  | [], i, h => by simp at h
  | x :: r, 0, _ => by simp [cntC, getI]; omega
  | x :: r, i + 1, h => by
    have := cnt_set (p := p) (l := l) (c := r) (i := i) (by simpa using h)
    simp [cntC, getI] at this ⊢
    omega
theorem cnt_book {p : Bk.El → Bool} {c : CalT} (h : CalG c) {b : Bk.El} (hf : freeF c b = true) : cntC p (bookF c b) = cntC p c + (if p b = true then 1 else 0) := by
  unfold bookF
  rw [if_pos hf]
  have hg := (free_iff.1 hf).1
  have hi : (tlB b).toNat < c.length := by rw [h.len]; have := hg.t0; have := hg.t1; omega
  have h1 := cnt_set (p := p) (l := addF (toolL c b.1) b) hi
  have h2 : (addF (toolL c b.1) b).countP p = (toolL c b.1).countP p + (if p b = true then 1 else 0) := by
    have e : addF (toolL c b.1) b = (toolL c b.1).take (posF (toolL c b.1) (startB b)) ++ [b] ++ (toolL c b.1).drop (posF (toolL c b.1) (startB b)) := by unfold addF insF; simp
    rw [e, List.countP_append, List.countP_append]
    have h3 : (toolL c b.1).countP p = ((toolL c b.1).take (posF (toolL c b.1) (startB b))).countP p + ((toolL c b.1).drop (posF (toolL c b.1) (startB b))).countP p := by
      rw [← List.countP_append, List.take_append_drop]
    rw [h3, List.countP_singleton]
    omega
  show cntC p (c.set (tlB b).toNat (addF (toolL c b.1) b)) = _
  have h4 : (getI c [] (tlB b).toNat) = toolL c b.1 := rfl
  rw [h4] at h1
  omega
theorem owned_len (c : CalT) (o : Int) : (ownedF c o).length = cntC (ownsB o) c := by unfold ownedF cntC; rw [List.countP_eq_length_filter]
theorem freed_cnt (o : Int) : ∀ (c : CalT), lenF (freedF c o) + cntC (ownsB o) c = lenF c
  | [] => rfl
  | x :: r => by
    have h1 : lenF (freedF (x :: r) o) = (delF x o).length + lenF (freedF r o) := by simp [lenF, freedF]
    have h2 : lenF (x :: r) = x.length + lenF r := by simp [lenF]
    have h3 : cntC (ownsB o) (x :: r) = x.countP (ownsB o) + cntC (ownsB o) r := by simp [cntC]
    have h4 : (delF x o).length + x.countP (ownsB o) = x.length := by
      unfold delF
      rw [← List.countP_eq_length_filter]
      have := List.length_eq_countP_add_countP (ownsB o) (l := x)
      have h5 : x.countP (fun b => !ownsB o b) = x.countP (fun a => decide ¬ ownsB o a = true) := by
        congr 1
        funext b
        cases ownsB o b <;> rfl
      omega
    have := freed_cnt o r
    omega
theorem all_book : ∀ {l : List Bk.El} {c : CalT}, CalG c → allFree c l = true →
    (∀ t, 0 ≤ t → t < 60 → ∀ e, e ∈ toolL (bookAll l c) t ↔ (e ∈ l ∧ tlB e = t) ∨ e ∈ toolL c t) ∧ lenF (bookAll l c) = lenF c + l.length ∧ ∀ p, cntC p (bookAll l c) = cntC p c + l.countP p
  | [], c, _, _ => ⟨fun t h0 h1 e => by simp [bookAll], rfl, fun p => rfl⟩
  | b :: l, c, h, hf => by
    simp only [allFree, Bool.and_eq_true] at hf
    obtain ⟨h1, h2⟩ := hf
    obtain ⟨k1, k2, k3⟩ := all_book (book_good h b).1 h2
    refine ⟨fun t h0 h3 e => ?_, ?_, fun p => ?_⟩
    · show e ∈ toolL (bookAll l (bookF c b)) t ↔ _
      rw [k1 t h0 h3 e, tool_book h h1 h0 h3]
      constructor
      · rintro (⟨h4, h5⟩ | ⟨rfl, h5⟩ | h4)
        · exact .inl ⟨List.mem_cons_of_mem _ h4, h5⟩
        · exact .inl ⟨by simp, h5⟩
        · exact .inr h4
      · rintro (⟨h4, h5⟩ | h4)
        · rcases List.mem_cons.1 h4 with rfl | h4
          · exact .inr (.inl ⟨rfl, h5⟩)
          · exact .inl ⟨h4, h5⟩
        · exact .inr (.inr h4)
    · show lenF (bookAll l (bookF c b)) = _
      rw [k2, (book_yes h h1).2.2, List.length_cons]
      omega
    · show cntC p (bookAll l (bookF c b)) = _
      rw [k3 p, cnt_book h h1, List.countP_cons]
      omega
def bks (xs : List StT) (ow : Int) : List Bk.El := xs.flatMap fun x => [Pl.bk1 x ow, Pl.bk2 x ow]
theorem bkN_take {xs : List StT} {ow : Int} : ∀ {i : Nat}, i ≤ xs.length → Pl.bkN xs ow i = bks (xs.take i) ow
  | 0, _ => rfl
  | i + 1, h => by
    rw [show Pl.bkN xs ow (i + 1) = Pl.bkN xs ow i ++ [Pl.bk1 (getI xs tStage.dflt i) ow] ++ [Pl.bk2 (getI xs tStage.dflt i) ow] from rfl, bkN_take (by omega), take_getI (d := tStage.dflt) (by omega)]
    unfold bks
    rw [List.flatMap_append]
    simp
theorem planL_eq {e a b : Int} {xs : List tStage.El} {ws : List tWin.El} {ow : Int} (h : Pl.validF e a b xs ws = true) (h1 : 1 ≤ ow) (h2 : ow ≤ 1000000) : planL e a b xs ws ow = bks xs ow := by
  unfold planL Pl.bookF
  rw [if_pos (by rw [h]; unfold Pl.withinF; simp [h1, h2]), bkN_take (Nat.le_refl _), List.take_length]
theorem bks_len (xs : List StT) (ow : Int) : (bks xs ow).length = 2 * xs.length := by
  unfold bks
  induction xs with
  | nil => rfl
  | cons x r ih => rw [List.flatMap_cons, List.length_append, ih, List.length_cons]; simp; omega
def owTo (ow : Int) (b : Bk.El) : Bk.El := (b.1, b.2.1, b.2.2.1, ow)
theorem bks_own (xs : List StT) (o ow : Int) : bks xs ow = (bks xs o).map (owTo ow) := by
  unfold bks
  induction xs with
  | nil => rfl
  | cons x r ih => rw [List.flatMap_cons, List.flatMap_cons, List.map_append, ih]; rfl
theorem free_own {c : CalT} {b : Bk.El} {ow : Int} (h : freeF c b = true) (h1 : 1 ≤ ow) (h2 : ow ≤ 1000000) : freeF c (owTo ow b) = true := by
  obtain ⟨k1, k2⟩ := free_iff.1 h
  exact free_iff.2 ⟨⟨k1.t0, k1.t1, k1.s0, k1.se, k1.e1, h1, h2⟩, fun d hd hm => k2 d hd hm⟩
theorem all_own {c : CalT} (hc : CalG c) {l : List Bk.El} {ow : Int} (h : allFree c l = true) (h1 : 1 ≤ ow) (h2 : ow ≤ 1000000) : allFree c (l.map (owTo ow)) = true := by
  obtain ⟨k1, k2⟩ := (allFree_iff hc).1 h
  refine (allFree_iff hc).2 ⟨fun b hb => ?_, ?_⟩
  · obtain ⟨d, hd, rfl⟩ := List.mem_map.1 hb
    exact free_own (k1 d hd) h1 h2
  · rw [List.pairwise_map]
    exact k2.imp fun h => h
theorem bookG_eq {c : CalT} {tl fr ln : Int} (h : (firstF c tl fr ln).2 = true) : bookG c tl fr ln = bookF c (tl, (firstF c tl fr ln).1, (firstF c tl fr ln).1 + ln, 1) := by
  unfold bookG; rw [h]; rfl
theorem stG_all {b : Int} : ∀ {ns : List NeedT} {c : CalT} {t : Int} {ch : List PairT} {xs : List StT}, CalG c → stG b c t ns ch = some xs → allFree c (bks xs 1) = true
  | [], c, t, ch, xs, _, h => by
    simp only [stG, Option.some.injEq] at h
    subst h
    rfl
  | _ :: _, c, t, [], xs, _, h => by simp [stG] at h
  | x :: ns, c, t, p :: ch, xs, hc, h => by
    simp only [stG] at h
    cases h1 : (firstF c p.1 (t + b) x.2.2).2 <;> rw [h1] at h
    · cases h
    · rw [cond_true] at h
      cases h2 : (firstF (bookG c p.1 (t + b) x.2.2) p.2 ((firstF c p.1 (t + b) x.2.2).1 + x.2.2 - 1 + b) x.2.2).2 <;> rw [h2] at h
      · cases h
      · rw [cond_true, Option.map_eq_some_iff] at h
        obtain ⟨l, h3, rfl⟩ := h
        have hg1 := (bookG_good hc p.1 (t + b) x.2.2).1
        have hg2 := (bookG_good hg1 p.2 ((firstF c p.1 (t + b) x.2.2).1 + x.2.2 - 1 + b) x.2.2).1
        have h5 := stG_all hg2 h3
        have f1 := (first_facts hc h1).2.2
        have f2 := (first_facts hg1 h2).2.2
        obtain ⟨st, hst⟩ : ∃ st : StT, st = (x.2.1, x.2.2, (p.1, (firstF c p.1 (t + b) x.2.2).1), (p.2, (firstF (bookG c p.1 (t + b) x.2.2) p.2 ((firstF c p.1 (t + b) x.2.2).1 + x.2.2 - 1 + b) x.2.2).1)) := ⟨_, rfl⟩
        have g1 : bookF c (Pl.bk1 st 1) = bookG c p.1 (t + b) x.2.2 := by rw [hst]; exact (bookG_eq h1).symm
        have g2 : bookF (bookG c p.1 (t + b) x.2.2) (Pl.bk2 st 1) = bookG (bookG c p.1 (t + b) x.2.2) p.2 ((firstF c p.1 (t + b) x.2.2).1 + x.2.2 - 1 + b) x.2.2 := by rw [hst]; exact (bookG_eq h2).symm
        rw [← hst]
        show (freeF c (Pl.bk1 st 1) && (freeF (bookF c (Pl.bk1 st 1)) (Pl.bk2 st 1) && allFree (bookF (bookF c (Pl.bk1 st 1)) (Pl.bk2 st 1)) (bks l 1))) = true
        rw [g1, g2, h5, show freeF c (Pl.bk1 st 1) = true by rw [hst]; exact f1, show freeF (bookG c p.1 (t + b) x.2.2) (Pl.bk2 st 1) = true by rw [hst]; exact f2]
        rfl
structure Made (c : CalT) (e a b : Int) (ns : List NeedT) (ws : List tWin.El) (xs : List StT) : Prop where
  rv : rvalidF e a b ns ws = true
  safe : safeF e a b xs ws = true
  valid : Pl.validF e a b xs ws = true
  len : xs.length = ns.length
  pos : 1 ≤ xs.length
  free : ∀ ow, 1 ≤ ow → ow ≤ 1000000 → allFree c (bks xs ow) = true
theorem made {c : CalT} (hc : CalG c) {e a b : Int} {ns : List NeedT} {ws : List tWin.El} {y : List StT × Int} (h : makeG c e a b ns ws = some y) : Made c e a b ns ws y.1 := by
  unfold makeG at h
  cases hr : rvalidF e a b ns ws <;> rw [hr] at h
  · cases h
  · rw [cond_true] at h
    obtain ⟨ch, h1, h2, h3, h4, h5⟩ := best_some h
    have h6 := (stG_facts hc h2).1
    have h7 := rvalid_facts hr
    have hv : Pl.validF e a b y.1 ws = true := by
      unfold safeF at h4
      simp only [Bool.and_eq_true] at h4
      exact h4.1.1
    refine ⟨hr, h4, hv, h6, by rw [h6]; exact h7.2.2.1.1, fun ow o1 o2 => ?_⟩
    rw [bks_own _ 1 ow]
    exact all_own hc (stG_all hc h2) o1 o2
theorem Made.can {c : CalT} {e a b : Int} {ns : List NeedT} {ws : List tWin.El} {xs : List StT} (m : Made c e a b ns ws xs) {ow : Int} (h1 : 1 ≤ ow) (h2 : ow ≤ 1000000) : canB c e a b xs ws ow = true := by
  unfold canB
  rw [planL_eq m.valid h1 h2, m.free ow h1 h2, Bool.true_and, decide_eq_true_eq, bks_len]
  have := m.pos
  omega
theorem Made.twice {c : CalT} (hc : CalG c) {e a b : Int} {ns : List NeedT} {ws : List tWin.El} {xs : List StT} (m : Made c e a b ns ws xs) {ow o2 : Int} (h1 : 1 ≤ ow) (h2 : ow ≤ 1000000) (h3 : 1 ≤ o2) (h4 : o2 ≤ 1000000) :
    canB (bookAll (bks xs ow) c) e a b xs ws o2 = false := by
  cases hcan : canB (bookAll (bks xs ow) c) e a b xs ws o2 with
  | false => rfl
  | true =>
    exfalso
    unfold canB at hcan
    rw [planL_eq m.valid h3 h4, Bool.and_eq_true] at hcan
    cases xs with
    | nil => have := m.pos; simp at this
    | cons x r =>
      have hgc := (bookAll_good (l := bks (x :: r) ow) hc).1
      have h5 := ((allFree_iff hgc).1 hcan.1).1 (Pl.bk1 x o2) (by unfold bks; simp)
      obtain ⟨k1, k2⟩ := free_iff.1 h5
      have h6 := (all_book hc (m.free ow h1 h2)).1 (tlB (Pl.bk1 x o2)) k1.t0 k1.t1 (Pl.bk1 x ow)
      refine k2 _ (h6.2 (.inl ⟨by unfold bks; simp, rfl⟩)) ?_
      have := k1.se
      exact ⟨this, this⟩
theorem cnt_none {p : Bk.El → Bool} : ∀ {l : List Bk.El} {c : CalT}, CalG c → (∀ b ∈ l, p b = false) → cntC p (bookAll l c) = cntC p c
  | [], _, _, _ => rfl
  | b :: l, c, h, hl => by
    show cntC p (bookAll l (bookF c b)) = _
    rw [cnt_none (book_good h b).1 fun d hd => hl d (List.mem_cons_of_mem _ hd)]
    cases hf : freeF c b
    · rw [book_no hf]
    · rw [cnt_book h hf, hl b (by simp)]
      simp
theorem cnt_noCal (p : Bk.El → Bool) : cntC p noCal = 0 := by
  unfold cntC noCal
  rw [List.countP_eq_zero]
  intro b hb
  rw [List.mem_flatten] at hb
  obtain ⟨l, hl, hb⟩ := hb
  rw [List.eq_of_mem_replicate hl] at hb
  simp at hb
theorem calOf_own (x : List t4.El) {o : Int} (h : 7 ≤ o) : cntC (ownsB o) (calOf x) = 0 := by
  unfold calOf
  rw [cnt_none noCal_good, cnt_noCal]
  intro b hb
  unfold someF at hb
  obtain ⟨y, _, rfl⟩ := List.mem_map.1 (List.mem_of_mem_take hb)
  have := pick_b (c := y.2.2.2) (n := 6) (by omega)
  have h2 : ¬ (1 + pickF y.2.2.2 6 = o) := by omega
  unfold ownsB
  rw [decide_eq_false_iff_not]
  exact h2
theorem bks_cnt (xs : List StT) (ow : Int) : (bks xs ow).countP (ownsB ow) = 2 * xs.length := by
  rw [← bks_len xs ow, List.countP_eq_length]
  intro b hb
  unfold bks at hb
  rw [List.mem_flatMap] at hb
  obtain ⟨x, _, hb⟩ := hb
  simp only [List.mem_cons, List.not_mem_nil, or_false] at hb
  rcases hb with rfl | rfl <;> simp [ownsB, Pl.bk1, Pl.bk2]
theorem bks_other {xs : List StT} {ow o : Int} (h : ow ≠ o) : ∀ b ∈ bks xs ow, ownsB o b = false := fun b hb => by
  unfold bks at hb
  rw [List.mem_flatMap] at hb
  obtain ⟨x, _, hb⟩ := hb
  simp only [List.mem_cons, List.not_mem_nil, or_false] at hb
  rcases hb with rfl | rfl <;> simp [ownsB, Pl.bk1, Pl.bk2, h]
theorem mem_owned {c : CalT} (h : CalG c) {b : Bk.El} (h0 : 0 ≤ tlB b) (h1 : tlB b < 60) (hb : b ∈ toolL c (tlB b)) {o : Int} (ho : ownsB o b = true) : b ∈ ownedF c o := by
  unfold ownedF
  rw [List.mem_filter]
  refine ⟨?_, ho⟩
  rw [List.mem_flatten]
  refine ⟨toolL c (tlB b), ?_, hb⟩
  have hlt : (tlB b).toNat < c.length := by rw [h.len]; omega
  unfold toolL getI
  rw [List.getD_eq_getElem?_getD, List.getElem?_eq_getElem hlt]
  exact List.getElem_mem _
theorem Made.book {c : CalT} (hc : CalG c) {e a b : Int} {ns : List NeedT} {ws : List tWin.El} {xs : List StT} (m : Made c e a b ns ws xs) {ow : Int} (h1 : 1 ≤ ow) (h2 : ow ≤ 1000000) :
    rbErr c e a b xs ws ow = 0 ∧ rbCal c e a b xs ws ow = bookAll (bks xs ow) c := by
  unfold rbErr rbCal
  rw [m.can h1 h2, planL_eq m.valid h1 h2]
  exact ⟨rfl, rfl⟩
theorem Made.again {c : CalT} (hc : CalG c) {e a b : Int} {ns : List NeedT} {ws : List tWin.El} {xs : List StT} (m : Made c e a b ns ws xs) {ow o2 : Int} (h1 : 1 ≤ ow) (h2 : ow ≤ 1000000) (h3 : 1 ≤ o2) (h4 : o2 ≤ 1000000) :
    rbErr (bookAll (bks xs ow) c) e a b xs ws o2 = 100 ∧ rbCal (bookAll (bks xs ow) c) e a b xs ws o2 = bookAll (bks xs ow) c := by
  unfold rbErr rbCal
  rw [m.twice hc h1 h2 h3 h4]
  exact ⟨rfl, rfl⟩
theorem ndL_len (x : Int4) (needs : List Int4) : (ndL x needs).length ≤ 3 := by unfold ndL ndN; rw [List.length_map, List.length_range]; omega
theorem winL_len (n : Int) (ws : List (Int × Int)) : (winL n ws).length ≤ 3 := by
  have : ∀ (l : List (Int × Int)) (acc : List WinT), (l.foldl (winStep n) acc).length ≤ acc.length + l.length := fun l => by
    induction l with
    | nil => intro acc; simp
    | cons x r ih =>
      intro acc
      refine Nat.le_trans (ih _) ?_
      have : (winStep n acc x).length ≤ acc.length + 1 := by
        unfold winStep
        cases winFit n acc (mkW x) <;> simp
      simp only [List.length_cons]
      omega
  have h := this (ws.take 3) []
  rw [List.length_take] at h
  simp only [List.length_nil, Nat.zero_add] at h
  exact Nat.le_trans h (Nat.min_le_left _ _)
end Go.AM.Ytmjeocinfoeeeaa.Re
end
