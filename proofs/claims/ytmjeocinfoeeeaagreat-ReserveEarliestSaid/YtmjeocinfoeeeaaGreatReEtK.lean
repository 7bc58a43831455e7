/- The best plan is the first of those that end earliest; requests that integers determine are valid. -/
import Derived.Test.YtmjeocinfoeeeaaGreatReEaK
import Derived.Test.YtmjeocinfoeeeaaGreatPr31
set_option linter.all false
namespace Go.AM.YtmjeocinfoeeeaaGreat.Re
open Go.Proofs
theorem chFold (ns : List NeedT) (hn : ∀ x ∈ ns, ∀ o : List PairT, (chRow o (pairsI x.1)) = x.1.flatMap fun a => rowOf x.1 a fun ab => [o ++ [ab]]) : ∀ out : List (List PairT), ns.foldl chStep out = out.flatMap (chL ns) := by
  induction ns with
  | nil => intro out; simp [chL]
  | cons x ns ih =>
    intro out
    rw [List.foldl_cons, ih (fun y hy => hn y (by simp [hy]))]
    unfold chStep
    rw [List.flatMap_assoc]
    congr 1
    funext o
    rw [hn x (by simp) o, List.flatMap_assoc]
    show _ = x.1.flatMap fun a => rowOf x.1 a fun ab => chL ns (o ++ [ab])
    congr 1
    funext a
    unfold rowOf
    rw [List.flatMap_assoc]
    congr 1
    funext b
    cases decide (a ≠ b) <;> simp
theorem flatMap_congr' {α β : Type} {f g : α → List β} : ∀ {l : List α}, (∀ x ∈ l, f x = g x) → l.flatMap f = l.flatMap g
  | [], _ => rfl
  | x :: l, h => by
    rw [List.flatMap_cons, List.flatMap_cons, h x (by simp), flatMap_congr' fun y hy => h y (by simp [hy])]
theorem range_flat {α β : Type} (d : α) (f : α → List β) : ∀ l : List α, (List.range l.length).flatMap (fun i => f (getI l d i)) = l.flatMap f := fun l => by
  have h : l = (List.range l.length).map fun i => getI l d i := by
    refine List.ext_getElem (by simp) fun i h1 h2 => ?_
    simp [getI, List.getD, List.getElem?_eq_getElem h1]
  conv => rhs; rw [h]
  rw [List.flatMap_map]
theorem pairs_nodup {l : List Int} (hl : ∀ i k, i < l.length → k < l.length → getI l 0 i = getI l 0 k → i = k) (o : List PairT) : chRow o (pairsI l) = l.flatMap fun a => rowOf l a fun ab => [o ++ [ab]] := by
  unfold chRow pairsI rowsI
  rw [List.map_flatMap, ← range_flat (0 : Int) (fun a => rowOf l a fun ab => [o ++ [ab]]) l]
  refine flatMap_congr' fun i hi => ?_
  unfold rowI rowOf
  rw [List.map_flatMap, ← range_flat (0 : Int) (fun b => bif decide (getI l 0 i ≠ b) then [o ++ [(getI l 0 i, b)]] else []) l]
  refine flatMap_congr' fun k hk => ?_
  have hi := List.mem_range.1 hi
  have hk := List.mem_range.1 hk
  have e : decide ((i : Int) ≠ (k : Int)) = decide (getI l 0 i ≠ getI l 0 k) := by
    rw [Bool.eq_iff_iff, decide_eq_true_eq, decide_eq_true_eq]
    constructor
    · intro h h2
      have := hl i k hi hk h2
      omega
    · rintro h h2
      exact h (by rw [show i = k by omega])
  rw [e]
  cases decide (getI l 0 i ≠ getI l 0 k) <;> simp
def accG (c : CalT) (e a b : Int) (ns : List NeedT) (ws : List tWin.El) (ch : List PairT) : Option (List StT) := match stG b c e ns ch with
  | some xs => bif safeF e a b xs ws then some xs else none
  | none => none
def hitG (c : CalT) (e a b : Int) (ns : List NeedT) (ws : List tWin.El) (v : Int) (ch : List PairT) : Bool := match accG c e a b ns ws ch with
  | some xs => decide (overG (lastG xs) ≤ v)
  | none => false
section
variable {c : CalT} {e a b : Int} {ns : List NeedT} {ws : List tWin.El}
theorem lateAny_nil (xs : List StT) : lateAny [] xs = false := lateAny_no fun _ _ => rfl
theorem step_no {s : BestT} {ch : List PairT} (h : accG c e a b ns ws ch = none) : stepG c e a b ns ws [] s ch = s := by
  unfold accG at h
  unfold stepG
  cases hs : stG b c e ns ch with
  | none => rfl
  | some xs =>
    rw [hs] at h
    dsimp only at h ⊢
    cases hf : safeF e a b xs ws <;> rw [hf] at h
    · cases (s.isSome && decide (overG (lastG xs) ≥ bLst s)) <;> simp [lateAny_nil]
    · cases h
theorem step_some {s : BestT} {ch : List PairT} {xs : List StT} (h : accG c e a b ns ws ch = some xs) : stepG c e a b ns ws [] s ch = bif s.isSome && decide (overG (lastG xs) ≥ bLst s) then s else some (xs, overG (lastG xs)) := by
  unfold accG at h
  unfold stepG
  cases hs : stG b c e ns ch with
  | none => rw [hs] at h; cases h
  | some ys =>
    rw [hs] at h
    dsimp only at h ⊢
    cases hf : safeF e a b ys ws <;> rw [hf] at h
    · cases h
    · obtain rfl : ys = xs := Option.some.inj h
      rw [lateAny_nil]
      simp
def InvB (c : CalT) (e a b : Int) (ns : List NeedT) (ws : List tWin.El) (q : List (List PairT)) (s : BestT) : Prop := match s with
  | none => ∀ ch ∈ q, accG c e a b ns ws ch = none
  | some y => (∀ ch ∈ q, ∀ xs, accG c e a b ns ws ch = some xs → y.2 ≤ overG (lastG xs)) ∧ y.2 = overG (lastG y.1) ∧ ∃ q1 ch q2, q = q1 ++ ch :: q2 ∧ accG c e a b ns ws ch = some y.1 ∧ ∀ d ∈ q1, ∀ xs, accG c e a b ns ws d = some xs → y.2 < overG (lastG xs)
theorem inv_step {q : List (List PairT)} {s : BestT} {ch : List PairT} (h : InvB c e a b ns ws q s) : InvB c e a b ns ws (q ++ [ch]) (stepG c e a b ns ws [] s ch) := by
  cases hx : accG c e a b ns ws ch with
  | none =>
    rw [step_no hx]
    cases s with
    | none =>
      intro d hd
      rcases List.mem_append.1 hd with hd | hd
      · exact h d hd
      · rw [List.mem_singleton.1 hd]; exact hx
    | some y =>
      obtain ⟨h1, h2, q1, d, q2, h3, h4, h5⟩ := h
      refine ⟨fun d hd xs hxs => ?_, h2, q1, d, q2 ++ [ch], by rw [h3]; simp, h4, h5⟩
      rcases List.mem_append.1 hd with hd | hd
      · exact h1 d hd xs hxs
      · rw [List.mem_singleton.1 hd, hx] at hxs; cases hxs
  | some xs =>
    rw [step_some hx]
    cases s with
    | none =>
      show InvB c e a b ns ws (q ++ [ch]) (some (xs, overG (lastG xs)))
      refine ⟨fun d hd ys hys => ?_, rfl, q, ch, [], rfl, hx, fun d hd ys hys => by rw [h d hd] at hys; cases hys⟩
      rcases List.mem_append.1 hd with hd | hd
      · rw [h d hd] at hys; cases hys
      · rw [List.mem_singleton.1 hd, hx] at hys; cases hys; exact Int.le_refl _
    | some y =>
      obtain ⟨h1, h2, q1, d, q2, h3, h4, h5⟩ := h
      show InvB c e a b ns ws (q ++ [ch]) (bif decide (overG (lastG xs) ≥ y.2) then some y else some (xs, overG (lastG xs)))
      cases hd : decide (overG (lastG xs) ≥ y.2)
      · rw [decide_eq_false_iff_not] at hd
        rw [cond_false]
        refine ⟨fun d hd' ys hys => ?_, rfl, q, ch, [], rfl, hx, fun d hd' ys hys => ?_⟩
        · rcases List.mem_append.1 hd' with hd' | hd'
          · have := h1 d hd' ys hys
            show overG (lastG xs) ≤ _
            omega
          · rw [List.mem_singleton.1 hd', hx] at hys; cases hys; exact Int.le_refl _
        · have := h1 d hd' ys hys
          show overG (lastG xs) < _
          omega
      · rw [decide_eq_true_eq] at hd
        rw [cond_true]
        refine ⟨fun d hd' ys hys => ?_, h2, q1, d, q2 ++ [ch], by rw [h3]; simp, h4, h5⟩
        rcases List.mem_append.1 hd' with hd' | hd'
        · exact h1 d hd' ys hys
        · rw [List.mem_singleton.1 hd', hx] at hys; cases hys; exact hd
theorem inv_fold : ∀ (q q0 : List (List PairT)) (s : BestT), InvB c e a b ns ws q0 s → InvB c e a b ns ws (q0 ++ q) (q.foldl (stepG c e a b ns ws []) s)
  | [], q0, s, h => by simpa using h
  | x :: q, q0, s, h => by
    have := inv_fold q (q0 ++ [x]) _ (inv_step (ch := x) h)
    simpa using this
theorem inv_make (hr : rvalidF e a b ns ws = true) : InvB c e a b ns ws (chL ns []) (makeG c e a b ns ws) := by
  unfold makeG bestG foldB
  rw [hr, cond_true]
  have := inv_fold (c := c) (e := e) (a := a) (b := b) (ns := ns) (ws := ws) (chL ns []) [] none (fun ch h => by simp at h)
  simpa using this
theorem earl_none (hr : rvalidF e a b ns ws = true) (h : makeG c e a b ns ws = none) : ∀ ch ∈ chL ns [], accG c e a b ns ws ch = none := by
  have := inv_make (c := c) hr
  rw [h] at this
  exact this
theorem earl_some (hr : rvalidF e a b ns ws = true) {y : List StT × Int} (h : makeG c e a b ns ws = some y) :
    (∀ ch ∈ chL ns [], ∀ xs, accG c e a b ns ws ch = some xs → y.2 ≤ overG (lastG xs)) ∧ y.2 = overG (lastG y.1) ∧ (chL ns []).any (hitG c e a b ns ws y.2) = true ∧
    ∀ i, i < (chL ns []).length → ((chL ns []).take i).any (hitG c e a b ns ws y.2) = false → ∀ xs, accG c e a b ns ws (getI (chL ns []) [] i) = some xs → overG (lastG xs) ≤ y.2 → xs = y.1 := by
  have hi := inv_make (c := c) hr
  rw [h] at hi
  obtain ⟨h1, h2, q1, ch, q2, h3, h4, h5⟩ := hi
  have hhit : hitG c e a b ns ws y.2 ch = true := by
    unfold hitG
    rw [h4]
    simp [h2]
  refine ⟨h1, h2, List.any_eq_true.2 ⟨ch, by rw [h3]; simp, hhit⟩, fun i hil hno xs hxs hle => ?_⟩
  rw [h3] at hil hno hxs
  rcases Nat.lt_trichotomy i q1.length with hlt | rfl | hgt
  · exfalso
    have : getI (q1 ++ ch :: q2) [] i ∈ q1 := by
      rw [show getI (q1 ++ ch :: q2) [] i = q1[i] by simp [getI, List.getD, List.getElem?_append_left hlt, List.getElem?_eq_getElem hlt]]
      exact List.getElem_mem hlt
    have := h5 _ this xs hxs
    omega
  · rw [show getI (q1 ++ ch :: q2) [] q1.length = ch by simp [getI, List.getD], h4] at hxs
    exact (Option.some.inj hxs).symm
  · exfalso
    rw [List.any_eq_false] at hno
    refine hno ch ?_ hhit
    rw [List.mem_take_iff_getElem]
    exact ⟨q1.length, by simp at hil ⊢; omega, by simp⟩
end
theorem mkT_tools (y : Int4) : (2 ≤ (mkT y).length ∧ (mkT y).length ≤ 3) ∧ (∀ i, i < (mkT y).length → (0 ≤ getI (mkT y) 0 i ∧ getI (mkT y) 0 i ≤ 59) ∧ ∀ k, k < i → getI (mkT y) 0 k < getI (mkT y) 0 i) := by
  have p1 := pick_b (c := y.1) (n := 4) (by omega)
  have p2 := pick_b (c := y.2.1) (n := 2) (by omega)
  have p3 := pick_b (c := y.2.1.tdiv 6) (n := 2) (by omega)
  unfold mkT mkBb mkA
  generalize pickF y.1 4 = A at *
  generalize pickF y.2.1 2 = B at *
  generalize pickF (y.2.1.tdiv 6) 2 = D at *
  cases decide (pickF (y.2.1.tdiv 2) 3 = 0)
  · refine ⟨by simp, fun i hi => ?_⟩
    have hi : i < 2 := hi
    match i, hi with
    | 0, _ => exact ⟨⟨by show 0 ≤ A; omega, by show A ≤ 59; omega⟩, fun k hk => by omega⟩
    | 1, _ => exact ⟨⟨by show 0 ≤ A + 1 + B; omega, by show A + 1 + B ≤ 59; omega⟩, fun k hk => by
        obtain rfl : k = 0 := by omega
        show A < A + 1 + B; omega⟩
  · refine ⟨by simp, fun i hi => ?_⟩
    have hi : i < 3 := hi
    match i, hi with
    | 0, _ => exact ⟨⟨by show 0 ≤ A; omega, by show A ≤ 59; omega⟩, fun k hk => by omega⟩
    | 1, _ => exact ⟨⟨by show 0 ≤ A + 1 + B; omega, by show A + 1 + B ≤ 59; omega⟩, fun k hk => by
        obtain rfl : k = 0 := by omega
        show A < A + 1 + B; omega⟩
    | 2, _ => exact ⟨⟨by show 0 ≤ A + 1 + B + 1 + D; omega, by show A + 1 + B + 1 + D ≤ 59; omega⟩, fun k hk => by
        match k, hk with
        | 0, _ => show A < A + 1 + B + 1 + D; omega
        | 1, _ => show A + 1 + B < A + 1 + B + 1 + D; omega⟩
theorem inF_of {n lo hi : Int} (h1 : lo ≤ n) (h2 : n ≤ hi) : inF n lo hi = true := by unfold inF; simp [h1, h2]
theorem mkNeed_good (y : Int4) : needBad (mkNeed y) = false := by
  have p3 := pick_b (c := y.2.2.1) (n := 20) (by omega)
  have p4 := pick_b (c := y.2.2.2) (n := 8) (by omega)
  obtain ⟨⟨h1, h2⟩, h3⟩ := mkT_tools y
  unfold needBad needHd mkNeed
  dsimp only
  rw [inF_of (n := ((mkT y).length : Int)) (by omega) (by omega), inF_of (by omega) (by omega)]
  rw [any_range_no fun j hj => ?_]
  · simp only [Bool.not_true, Bool.false_or, Bool.or_false, decide_eq_false_iff_not]
    omega
  · obtain ⟨⟨h4, h5⟩, h6⟩ := h3 j hj
    unfold toolBad
    rw [inF_of h4 h5]
    simp only [Bool.not_true, Bool.false_or, Bool.and_eq_false_iff, decide_eq_false_iff_not]
    by_cases hj0 : j = 0
    · left; omega
    · right
      have := h6 (j - 1) (by omega)
      omega
theorem mkW_good (n : Int) (w : Int × Int) : 0 ≤ (mkW w).1 ∧ (mkW w).1 < (mkW w).2.1 ∧ 0 ≤ (mkW w).2.2 ∧ (mkW w).2.2 ≤ 1000000 := by
  have p1 := pick_b (c := w.1) (n := 3) (by omega)
  have p2 := pick_b (c := w.2) (n := 150) (by omega)
  unfold mkW
  dsimp only
  have h : (pickF w.1 3).toNat = 0 ∨ (pickF w.1 3).toNat = 1 ∨ (pickF w.1 3).toNat = 2 := by omega
  refine ⟨?_, ?_, p2.1, by omega⟩
  · rcases h with h | h | h <;> rw [h] <;> decide
  · rcases h with h | h | h <;> rw [h] <;> decide
theorem win_step {n : Int} {acc : List WinT} {w : Int × Int} (h : ∀ i, i < acc.length → winBad n acc i = false) : ∀ i, i < (winStep n acc w).length → winBad n (winStep n acc w) i = false := by
  unfold winStep
  cases hf : winFit n acc (mkW w)
  · exact h
  · rw [cond_true]
    intro i hi
    rw [List.length_append] at hi
    have hi : i < acc.length + 1 := hi
    have old : ∀ j, j < acc.length → getI (acc ++ [mkW w]) tWin.dflt j = getI acc tWin.dflt j := fun j hj => by simp [getI, List.getD, List.getElem?_append_left hj]
    by_cases hl : i < acc.length
    · have := h i hl
      unfold winBad at this ⊢
      rw [old i hl, old (i - 1) (by omega)]
      exact this
    · obtain rfl : i = acc.length := by omega
      have new : getI (acc ++ [mkW w]) tWin.dflt acc.length = mkW w := by simp [getI, List.getD]
      obtain ⟨g1, g2, g3, g4⟩ := mkW_good n w
      unfold winFit at hf
      rw [Bool.and_eq_true, decide_eq_true_eq] at hf
      obtain ⟨f1, f2⟩ := hf
      unfold winBad
      rw [new, inF_of g1 (by omega), inF_of (by omega) (by omega), inF_of g3 g4]
      simp only [Bool.not_true, Bool.false_or, Bool.and_eq_false_iff, decide_eq_false_iff_not, Bool.not_eq_false']
      by_cases h0 : acc.length = 0
      · left; omega
      · right
        rw [old (acc.length - 1) (by omega)]
        rw [show ((acc.length : Int) - 1).toNat = acc.length - 1 by omega] at f2
        unfold befF
        simp only [Bool.or_eq_true, Bool.and_eq_true, decide_eq_true_eq] at f2 ⊢
        rcases f2 with (f2 | f2) | f2
        · omega
        · exact .inl f2
        · exact .inr f2
theorem winL_good (n : Int) (ws : List (Int × Int)) : (List.range (winL n ws).length).any (winBad n (winL n ws)) = false := by
  have : ∀ (l : List (Int × Int)) (acc : List WinT), (∀ i, i < acc.length → winBad n acc i = false) → ∀ i, i < (l.foldl (winStep n) acc).length → winBad n (l.foldl (winStep n) acc) i = false := fun l => by
    induction l with
    | nil => intro acc h; exact h
    | cons x r ih => intro acc h; exact ih _ (win_step h)
  exact any_range_no (this (ws.take 3) [] (fun i hi => by simp at hi))
theorem ndL_mem {X : Int4} {needs : List Int4} {x : NeedT} (h : x ∈ ndL X needs) : ∃ y, x = mkNeed y := by
  unfold ndL at h
  obtain ⟨i, _, rfl⟩ := List.mem_map.1 h
  exact ⟨_, rfl⟩
theorem mkReq_valid (X : Int4) (needs : List Int4) (ws : List (Int × Int)) : rvalidF (rqE X) (rqA X) (rqB X) (ndL X needs) (winL (ndN needs) ws) = true := by
  have p1 := pick_b (c := X.1) (n := 100) (by omega)
  have p2 := pick_b (c := X.2.1) (n := 4) (by omega)
  have p3 := pick_b (c := X.2.2.1) (n := 5) (by omega)
  have hl := winL_len (ndN needs) ws
  have hn : (ndL X needs).length = ndN needs := by unfold ndL; rw [List.length_map, List.length_range]
  have hn3 : 1 ≤ ndN needs ∧ ndN needs ≤ 3 := by unfold ndN; omega
  unfold rvalidF
  rw [hn, winL_good]
  have h1 : headBad (rqE X) (rqA X) (rqB X) (ndN needs) (winL (ndN needs) ws).length = false := by
    unfold headBad rqE rqA rqB
    rw [inF_of p1.1 (by omega), inF_of p2.1 (by omega), inF_of (n := ((ndN needs : Nat) : Int)) (by omega) (by omega)]
    simp only [Bool.not_true, Bool.false_or, Bool.or_false, Bool.or_eq_false_iff, decide_eq_false_iff_not]
    omega
  have h2 : (ndL X needs).any needBad = false := by
    rw [List.any_eq_false]
    intro x hx
    obtain ⟨y, rfl⟩ := ndL_mem hx
    rw [mkNeed_good]
    simp
  rw [h1, h2]
  rfl
theorem ndL_tools {X : Int4} {needs : List Int4} : ∀ x ∈ ndL X needs, List.length (α := Int) x.1 ≤ 3 := fun x hx => by
  obtain ⟨y, rfl⟩ := ndL_mem hx
  exact (mkT_tools y).1.2
theorem ndL_choices (X : Int4) (needs : List Int4) : chR (ndL X needs) = chL (ndL X needs) [] := by
  unfold chR
  rw [chFold _ fun x hx o => ?_]
  · simp
  · obtain ⟨y, rfl⟩ := ndL_mem hx
    refine pairs_nodup (fun i k hi hk he => ?_) o
    obtain ⟨_, h3⟩ := mkT_tools y
    rcases Nat.lt_trichotomy i k with h | h | h
    · have := (h3 k hk).2 i h
      have he : getI (mkT y) 0 i = getI (mkT y) 0 k := he
      omega
    · exact h
    · have := (h3 i hi).2 k h
      have he : getI (mkT y) 0 i = getI (mkT y) 0 k := he
      omega
end Go.AM.YtmjeocinfoeeeaaGreat.Re
