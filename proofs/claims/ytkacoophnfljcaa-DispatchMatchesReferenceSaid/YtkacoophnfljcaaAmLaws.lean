/- Laws of the readings: they are kept while what is read stays; cells of data and back. -/
import Derived.Test.YtkacoophnfljcaaAmEval
set_option linter.all false
namespace Go.AM

/-! ### lay -/

section
variable {α : Type} {p q : α → List Value → Prop}

theorem lay_mono (h : ∀ x vs, p x vs → q x vs) : ∀ {xs : List α} {vs : List Value}, lay p xs vs → lay q xs vs
  | [], _, hv => hv
  | _ :: _, _, ⟨a, b, e, h1, h2⟩ => ⟨a, b, e, h _ _ h1, lay_mono h h2⟩

theorem lay_append : ∀ {xs ys : List α} {us vs : List Value}, lay p xs us → lay p ys vs → lay p (xs ++ ys) (us ++ vs)
  | [], _, us, _, hu, hv => by have : us = [] := hu; subst this; exact hv
  | _ :: _, _, _, _, ⟨a, b, e, h1, h2⟩, hv => ⟨a, b ++ _, by rw [e, List.append_assoc], h1, lay_append h2 hv⟩

theorem lay_length {n : Nat} (hn : ∀ x vs, p x vs → vs.length = n) : ∀ {xs : List α} {vs : List Value}, lay p xs vs → vs.length = xs.length * n
  | [], vs, h => by have : vs = [] := h; subst this; simp
  | _ :: xs, _, ⟨a, b, e, h1, h2⟩ => by
    rw [e, List.length_append, hn _ _ h1, lay_length hn h2, List.length_cons, Nat.succ_mul, Nat.add_comm]

theorem lay_get {n : Nat} (hn : ∀ x vs, p x vs → vs.length = n) (d : α) : ∀ {xs : List α} {vs : List Value} (i : Nat), lay p xs vs → i < xs.length →
    ∃ a b c, vs = a ++ (b ++ c) ∧ a.length = i * n ∧ p (xs.getD i d) b
  | [], _, _, _, hi => by simp at hi
  | x :: xs, _, 0, ⟨a, b, e, h1, _⟩, _ => ⟨[], a, b, by simp [e], by simp, by simpa using h1⟩
  | x :: xs, _, i + 1, ⟨a, b, e, h1, h2⟩, hi => by
    obtain ⟨a', b', c', e', hl, hp⟩ := lay_get hn d i h2 (by simpa using hi)
    exact ⟨a ++ a', b', c', by rw [e, e', List.append_assoc], by rw [List.length_append, hn _ _ h1, hl, Nat.succ_mul, Nat.add_comm], by simpa using hp⟩

theorem lay_set {n : Nat} (hn : ∀ x vs, p x vs → vs.length = n) (y : α) (us : List Value) (hy : p y us) : ∀ {xs : List α} {vs : List Value} (i : Nat), lay p xs vs → i < xs.length →
    ∃ a b c, vs = a ++ (b ++ c) ∧ a.length = i * n ∧ b.length = n ∧ lay p (xs.set i y) (a ++ (us ++ c))
  | [], _, _, _, hi => by simp at hi
  | x :: xs, _, 0, ⟨a, b, e, h1, h2⟩, _ => ⟨[], a, b, by simp [e], by simp, hn _ _ h1, us, b, by simp, hy, h2⟩
  | x :: xs, _, i + 1, ⟨a, b, e, h1, h2⟩, hi => by
    obtain ⟨a', b', c', e', hl, hb, hp⟩ := lay_set hn y us hy i h2 (by simpa using hi)
    exact ⟨a ++ a', b', c', by rw [e, e', List.append_assoc], by rw [List.length_append, hn _ _ h1, hl, Nat.succ_mul, Nat.add_comm], hb, a, _, by rw [List.append_assoc], h1, hp⟩

theorem lay_all {r : Value → Prop} (h : ∀ x vs, p x vs → ∀ v ∈ vs, r v) : ∀ {xs : List α} {vs : List Value}, lay p xs vs → ∀ v ∈ vs, r v
  | [], vs, hv => by have : vs = [] := hv; subst this; simp
  | _ :: _, _, ⟨a, b, e, h1, h2⟩ => by
    intro v hv
    rw [e] at hv
    rcases List.mem_append.1 hv with h' | h'
    · exact h _ _ h1 v h'
    · exact lay_all h h2 v h'
end

/-! ### Readings of data -/

section
variable {R R' : Nat → Prop} {w w' : World}

theorem RelEl_len : ∀ {t : Ty} {x : t.El} {vs : List Value}, RelEl R w t x vs → vs.length = t.size
  | .int _, _, _, h => by rw [h.1]; rfl
  | .bool, _, _, h => by rw [show _ = _ from h]; rfl
  | .str, _, _, h => by rw [h.1]; rfl
  | .unit, _, _, h => by rw [show _ = _ from h]; rfl
  | .pair _ _, _, _, ⟨us, ws, e, h1, h2⟩ => by rw [e, List.length_append, RelEl_len h1, RelEl_len h2]; rfl
  | .slice _, _, _, ⟨v, e, _⟩ => by rw [e]; rfl
  | .fn1 _ _, _, _, ⟨_, _, _, e, _⟩ => by rw [e]; rfl
  | .fn2 _ _, _, _, ⟨_, _, _, e, _⟩ => by rw [e]; rfl

theorem Reads_mono {α : Type} {n : Nat} {p q : α → List Value → Prop} {xs : List α} {v : Value} (hR : ∀ b, R b → R' b) (hc : ∀ ad : Addr, R ad.block → w'.cell? ad = w.cell? ad)
    (hp : ∀ x vs, p x vs → q x vs) (h : Reads R w n p xs v) : Reads R' w' n q xs v := by
  obtain ⟨a, cap, e, h1, h2, h3, h4⟩ := h
  refine ⟨a, cap, e, h1, h2, h3, fun hl => ?_⟩
  obtain ⟨ad, vs, ha, hs, hr, hlay, hcell⟩ := h4 hl
  refine ⟨ad, vs, ha, hs, hR _ hr, lay_mono hp hlay, fun j u hu => ?_⟩
  rw [hc _ (by rw [show (ad.add j).block = ad.block by unfold Addr.add; split <;> rfl]; exact hr)]
  exact hcell j u hu

theorem RelEl_mono (hR : ∀ b, R b → R' b) (hc : ∀ ad : Addr, R ad.block → w'.cell? ad = w.cell? ad) : ∀ {t : Ty} {x : t.El} {vs : List Value}, RelEl R w t x vs → RelEl R' w' t x vs
  | .int _, _, _, h => h
  | .bool, _, _, h => h
  | .str, _, _, h => h
  | .unit, _, _, h => h
  | .pair _ _, _, _, ⟨us, ws, e, h1, h2⟩ => ⟨us, ws, e, RelEl_mono hR hc h1, RelEl_mono hR hc h2⟩
  | .slice _, _, _, ⟨v, e, h⟩ => ⟨v, e, Reads_mono hR hc (fun _ _ h => RelEl_mono hR hc h) h⟩
  | .fn1 _ _, _, _, ⟨f, first, cap, e, h1, h2⟩ => ⟨f, first, cap, e, h1, fun R2 w2 k1 k2 => h2 R2 w2 (fun b hb => k1 b (hR b hb)) fun ad had => (k2 ad (hR _ had)).trans (hc ad had)⟩
  | .fn2 _ _, _, _, ⟨f, first, cap, e, h1, h2⟩ => ⟨f, first, cap, e, h1, fun R2 w2 k1 k2 => h2 R2 w2 (fun b hb => k1 b (hR b hb)) fun ad had => (k2 ad (hR _ had)).trans (hc ad had)⟩

theorem RelEl_one : ∀ {t : Ty} {x : t.El} {vs : List Value}, RelEl R w t x vs → ∀ v ∈ vs, v.oneCell' = true
  | .int _, _, _, h => by rw [h.1]; simp [Value.oneCell']
  | .bool, _, _, h => by rw [show _ = _ from h]; simp [Value.oneCell']
  | .str, _, _, h => by rw [h.1]; simp [Value.oneCell']
  | .unit, _, _, h => by rw [show _ = _ from h]; simp
  | .pair _ _, _, _, ⟨us, ws, e, h1, h2⟩ => by
    intro v hv
    rw [e] at hv
    rcases List.mem_append.1 hv with h | h
    · exact RelEl_one h1 v h
    · exact RelEl_one h2 v h
  | .slice _, _, _, ⟨v, e, h⟩ => by
    obtain ⟨a, cap, ev, _⟩ := h
    subst e ev
    simp [Value.oneCell']
  | .fn1 _ _, _, _, ⟨_, _, _, e, _⟩ => by rw [e]; simp [Value.oneCell']
  | .fn2 _ _, _, _, ⟨_, _, _, e, _⟩ => by rw [e]; simp [Value.oneCell']
end

/-! ### Readings of abstract values -/

section
variable {g g' : Nat → Gh} {K K' R R' : Nat → Prop} {w w' : World}

theorem RowR_mono (hR : ∀ b, R b → R' b) (hc : ∀ ad : Addr, R ad.block → w'.cell? ad = w.cell? ad) {t : Ty} {xss : List (List t.El)} {vs : List Value} (h : RowR R w t xss vs) : RowR R' w' t xss vs :=
  ⟨h.1, fun i u xs hu hx => Reads_mono hR hc (fun _ _ h => RelEl_mono hR hc h) (h.2 i u xs hu hx)⟩

theorem RelX_mono (hR : ∀ b, R b → R' b) (hc : ∀ ad : Addr, R ad.block → w'.cell? ad = w.cell? ad) : ∀ {e : Ext} {v : Value}, RelX R w e v → RelX R' w' e v
  | .nn _ _, _, ⟨h, k⟩ => ⟨Reads_mono hR hc (fun _ _ h => RelEl_mono hR hc h) h, k⟩
  | .cref _ _ _, _, ⟨b, vs, e, hb, hr, hcell⟩ => ⟨b, vs, e, hR b hb, RowR_mono hR hc hr, fun i u hu => by rw [hc _ hb]; exact hcell i u hu⟩
  | .cvals _ _, _, ⟨vs, e, hr⟩ => ⟨vs, e, RowR_mono hR hc hr⟩
  | .full _ _, _, h => ⟨Reads_mono hR hc (fun _ _ h => RelEl_mono hR hc h) h.1, h.2⟩
  | .nl _, _, h => h
  | .fn1 _ _ _, _, h => RelEl_mono hR hc h
  | .fn2 _ _ _, _, h => RelEl_mono hR hc h
  | .nilm, _, h => h

mutual
theorem RelV_mono (hg : ∀ r, K r → g' r = g r) (hK : ∀ r, K r → K' r) (hR : ∀ b, R b → R' b) (hc : ∀ ad : Addr, R ad.block → w'.cell? ad = w.cell? ad) :
    ∀ {c : AV} {v : Value}, RelV g K R w c v → RelV g' K' R' w' c v
  | _, _, .int h => .int h
  | _, _, .bool => .bool
  | _, _, .str h => .str h
  | _, _, .sl h => .sl (Reads_mono hR hc (fun _ _ h => RelEl_mono hR hc h) h)
  | _, _, .el hi ⟨ad, vs, e, hs, hr, hl, hcell⟩ => .el hi ⟨ad, vs, e, hs, hR _ hr, lay_mono (fun _ _ h => RelEl_mono hR hc h) hl, fun k u hu => by
      rw [hc _ (by rw [show (ad.add k).block = ad.block by unfold Addr.add; split <;> rfl]; exact hr)]; exact hcell k u hu⟩
  | _, _, .own (r := r) h h1 => by have e := hg _ h; exact e ▸ RelV.own (g := g') (hK _ h) (e.symm ▸ h1)
  | _, _, .oel h h1 => .oel (hK _ h) (by rw [hg _ h]; exact h1)
  | _, _, .part h h1 h2 => .part (hK _ h) (by rw [hg _ h]; exact h1) h2
  | _, _, .ptr (r := r) h => by have e := hg _ h; exact e ▸ RelV.ptr (g := g') (hK _ h)
  | _, _, .agg h => .agg (RelL_mono hg hK hR hc h)
  | _, _, .tup h => .tup (RelL_mono hg hK hR hc h)
  | _, _, .fn h k => .fn (RelL_mono hg hK hR hc h) (RelL_mono hg hK hR hc k)
  | _, _, .nilsl => .nilsl
  | _, _, .nilptr => .nilptr
  | _, _, .nilfn => .nilfn
  | _, _, .ext h => .ext (RelX_mono hR hc h)
  | _, _, .junk => .junk
theorem RelL_mono (hg : ∀ r, K r → g' r = g r) (hK : ∀ r, K r → K' r) (hR : ∀ b, R b → R' b) (hc : ∀ ad : Addr, R ad.block → w'.cell? ad = w.cell? ad) :
    ∀ {cs : List AV} {vs : List Value}, RelL g K R w cs vs → RelL g' K' R' w' cs vs
  | _, _, .nil => .nil
  | _, _, .cons h k => .cons (RelV_mono hg hK hR hc h) (RelL_mono hg hK hR hc k)
end

theorem RelL_append {cs ds : List AV} {vs us : List Value} (h : RelL g K R w cs vs) (k : RelL g K R w ds us) : RelL g K R w (cs ++ ds) (vs ++ us) := by
  induction cs generalizing vs with
  | nil => cases h; exact k
  | cons c cs ih => cases h with | cons h1 h2 => exact .cons h1 (ih h2)

theorem RelL_len {cs : List AV} {vs : List Value} (h : RelL g K R w cs vs) : vs.length = cs.length := by
  induction cs generalizing vs with
  | nil => cases h; rfl
  | cons c cs ih => cases h with | cons h1 h2 => simp [ih h2]

theorem RelEl_enc : ∀ {t : Ty} {x : t.El} {vs : List Value}, RelEl R w t x vs → RelL g K R w (enc t x) vs
  | .int _, _, _, h => by rw [h.1]; exact .cons (.int h.2) .nil
  | .bool, _, _, h => by rw [show _ = _ from h]; exact .cons .bool .nil
  | .str, _, _, h => by rw [h.1]; exact .cons (.str h.2) .nil
  | .unit, _, _, h => by rw [show _ = _ from h]; exact .nil
  | .pair _ _, _, _, ⟨us, ws, e, h1, h2⟩ => by rw [e]; exact RelL_append (RelEl_enc h1) (RelEl_enc h2)
  | .slice _, _, _, ⟨v, e, h⟩ => by rw [e]; exact .cons (.sl h) .nil
  | .fn1 _ _, _, _, h => by
    have h' := h
    obtain ⟨_, _, _, e, _⟩ := h'
    subst e
    exact .cons (.ext h) .nil
  | .fn2 _ _, _, _, h => by
    have h' := h
    obtain ⟨_, _, _, e, _⟩ := h'
    subst e
    exact .cons (.ext h) .nil

theorem castL_rel {a b : Ty} (h : a = b) (xs : List a.El) (v : Value) (hr : Reads R w a.bytes (RelEl R w a) xs v) : Reads R w b.bytes (RelEl R w b) (Ty.castL h xs) v := by
  subst h; exact hr
theorem castL_len {a b : Ty} (h : a = b) (xs : List a.El) : (Ty.castL h xs).length = xs.length := by
  subst h; rfl
theorem castL_lay {a b : Ty} (h : a = b) (xs : List a.El) (vs : List Value) (hr : lay (RelEl R w a) xs vs) : lay (RelEl R w b) (Ty.castL h xs) vs := by
  subst h; exact hr

theorem castE_rel {β : Type} {a b : Ty} (h : a = b) (x : a.El) (k : b.El → β) : ∃ y : b.El, castE h x k = k y ∧ ∀ (R : Nat → Prop) (w : World) (vs : List Value), RelEl R w a x vs → RelEl R w b y vs := by
  subst h; exact ⟨x, rfl, fun _ _ _ h => h⟩

theorem Reads_nil {α : Type} (n : Nat) (p : α → List Value → Prop) : Reads R w n p [] (.slice none 0 0) :=
  ⟨none, 0, rfl, Nat.le_refl _, by unfold maxLen; omega, by simp, fun h => absurd h (by simp)⟩

theorem dec_rel : ∀ {t : Ty} {l : List AV} {x : t.El} {r : List AV} {vs : List Value}, dec t l = some (x, r) → RelL g K R w l vs →
    ∃ us ws, vs = us ++ ws ∧ RelEl R w t x us ∧ RelL g K R w r ws
  | .int k, l, x, r, vs, h, hl => by
    cases hl with
    | nil => simp [dec] at h
    | cons h1 h2 =>
      cases h1 <;> simp [dec] at h
      rename_i hw
      split at h <;> simp at h
      rename_i hk
      obtain ⟨rfl, rfl⟩ := h
      exact ⟨_, _, rfl, ⟨by rw [kindEq_eq hk], by rw [kindEq_eq hk]; exact hw⟩, h2⟩
  | .bool, l, x, r, vs, h, hl => by
    cases hl with
    | nil => simp [dec] at h
    | cons h1 h2 =>
      cases h1 <;> simp [dec] at h
      obtain ⟨rfl, rfl⟩ := h
      exact ⟨_, _, rfl, rfl, h2⟩
  | .str, l, x, r, vs, h, hl => by
    cases hl with
    | nil => simp [dec] at h
    | cons h1 h2 =>
      cases h1 <;> simp [dec] at h
      rename_i hs
      obtain ⟨rfl, rfl⟩ := h
      exact ⟨_, _, rfl, ⟨rfl, hs⟩, h2⟩
  | .unit, l, x, r, vs, h, hl => by
    simp [dec] at h
    subst h
    exact ⟨[], _, rfl, rfl, hl⟩
  | .pair a b, l, x, r, vs, h, hl => by
    simp only [dec] at h
    split at h
    · rename_i y r1 h1
      split at h
      · rename_i z r2 h2
        simp at h
        obtain ⟨rfl, rfl⟩ := h
        obtain ⟨us, ws, e, hx, hr⟩ := dec_rel h1 hl
        obtain ⟨us', ws', e', hx', hr'⟩ := dec_rel h2 hr
        exact ⟨us ++ us', ws', by rw [e, e', List.append_assoc], ⟨us, us', rfl, hx, hx'⟩, hr'⟩
      · cases h
    · cases h
  | .slice t, l, x, r, vs, h, hl => by
    cases hl with
    | nil => simp [dec] at h
    | cons h1 h2 =>
      cases h1 <;> simp [dec] at h
      · rename_i hr
        split at h <;> simp [castK_eq] at h
        obtain ⟨rfl, rfl⟩ := h
        exact ⟨_, _, rfl, ⟨_, rfl, castL_rel _ _ _ hr⟩, h2⟩
      · obtain ⟨rfl, rfl⟩ := h
        exact ⟨_, _, rfl, ⟨_, rfl, Reads_nil _ _⟩, h2⟩
  | .fn1 a b, l, x, r, vs, h, hl => by
    cases hl with
    | nil => simp [dec] at h
    | cons h1 h2 =>
      cases h1 <;> try (simp [dec] at h; done)
      rename_i e he
      cases e <;> try (simp [dec] at h; done)
      simp only [dec] at h
      split at h <;> try (cases h; done)
      rename_i hs _
      obtain ⟨y, h3, h4⟩ := castE_rel hs _ (fun c => some (c, _))
      rw [h3] at h
      cases h
      exact ⟨_, _, rfl, h4 _ _ _ he, h2⟩
  | .fn2 a b, l, x, r, vs, h, hl => by
    cases hl with
    | nil => simp [dec] at h
    | cons h1 h2 =>
      cases h1 <;> try (simp [dec] at h; done)
      rename_i e he
      cases e <;> try (simp [dec] at h; done)
      simp only [dec] at h
      split at h <;> try (cases h; done)
      rename_i hs _
      obtain ⟨y, h3, h4⟩ := castE_rel hs _ (fun c => some (c, _))
      rw [h3] at h
      cases h
      exact ⟨_, _, rfl, h4 _ _ _ he, h2⟩

theorem cell_one {c : AV} {v : Value} (hc : c.cell = true) (h : RelV g K R w c v) : v.oneCell' = true := by
  cases h with
  | sl h => obtain ⟨a, cap, e, _⟩ := h; subst e; simp [Value.oneCell']
  | el _ h => obtain ⟨ad, vs, e, _⟩ := h; subst e; simp [Value.oneCell']
  | own _ h => exact h
  | junk => simp [AV.cell] at hc
  | agg => simp [AV.cell] at hc
  | tup => simp [AV.cell] at hc
  | ext h =>
    rename_i e
    cases e with
    | nn t xs => obtain ⟨_, a, n, c, rfl⟩ := h; simp [Value.oneCell']
    | cref t xss j => obtain ⟨b, vs, rfl, _⟩ := h; simp [Value.oneCell']
    | cvals t xss => simp [AV.cell] at hc
    | full t xs => obtain ⟨_, a, rfl⟩ := h; simp [Value.oneCell']
    | nl t => obtain ⟨c, rfl, _⟩ := h; simp [Value.oneCell']
    | fn1 a r c => exact RelEl_one (t := .fn1 a r) h v (by simp)
    | fn2 a r c => exact RelEl_one (t := .fn2 a r) h v (by simp)
    | nilm => have h : v = .map none := h; subst h; simp [Value.oneCell']
  | _ => simp [Value.oneCell']

theorem cells_one : ∀ {cs : List AV} {vs : List Value}, allCell cs = true → RelL g K R w cs vs → ∀ v ∈ vs, v.oneCell' = true
  | _, _, _, .nil => by simp
  | _, _, hc, .cons h1 h2 => by
    simp only [allCell] at hc
    split at hc
    · rename_i h0
      intro v hv
      rcases List.mem_cons.1 hv with rfl | hv
      · exact cell_one h0 h1
      · exact cells_one hc h2 v hv
    · cases hc
end

end Go.AM
