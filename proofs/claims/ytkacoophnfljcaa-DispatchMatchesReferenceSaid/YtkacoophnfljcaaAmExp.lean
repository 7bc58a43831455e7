/- What is promised against what there is. -/
import Derived.Test.YtkacoophnfljcaaAmDraw
set_option linter.all false
namespace Go.AM

theorem mem_iff : ∀ {l : List Nat} {k : Nat}, mem l k = true ↔ k ∈ l
  | [], _ => by simp [mem]
  | x :: l, k => by
    rw [mem_cons, List.mem_cons]
    simp only [Bool.or_eq_true, decide_eq_true_eq, mem_iff]
    exact or_congr eq_comm Iff.rfl

section
variable {g g' gL : Nat → Gh} {K R R2 : Nat → Prop} {w : World} {src : Nat → Option (Option Nat)} {K' : Nat → Prop}

structure SrcOk (src : Nat → Option (Option Nat)) (K' : Nat → Prop) (g' gL : Nat → Gh) : Prop where
  lt : ∀ i x, src i = some x → K' i
  key : ∀ i k, src i = some (some k) → gL i = g' k
  nil : ∀ i, src i = some none → gL i = ⟨0, .slice none 0 0⟩

theorem own_of {g : Nat → Gh} {K R : Nat → Prop} {w : World} {r : Nat} {v : Value} (hk : K r) (h : v.oneCell' = true) (e : (g r).v = v) : RelV g K R w (.own r) v := by
  subst e; exact .own hk h

mutual
theorem expV_rel (hs : SrcOk src K' g' gL) : ∀ {c x : AV} {v : Value}, expV src c x → RelV g' K R w x v → RelV gL K' R w c v
  | .own i, x, v, h, hv => by
    simp only [expV] at h
    split at h
    · rename_i k k' hi
      subst h
      cases hv with
      | own hk h1 => exact own_of (hs.lt _ _ hi) h1 (by rw [hs.key _ _ hi])
    · rename_i hi
      cases hv
      exact own_of (hs.lt _ _ hi) (by simp [Value.oneCell']) (by rw [hs.nil _ hi])
    · exact h.elim
  | .ptr i j, x, v, h, hv => by
    simp only [expV] at h
    split at h
    · rename_i k j' k' hi
      obtain ⟨rfl, rfl⟩ := h
      cases hv with
      | ptr hk => rw [← hs.key _ _ hi]; exact .ptr (hs.lt _ _ hi)
    · exact h.elim
  | .agg cs, x, v, h, hv => by
    simp only [expV] at h
    split at h
    · cases hv with
      | agg hv => exact .agg (expL_rel hs h hv)
    · exact h.elim
  | .tup cs, x, v, h, hv => by
    simp only [expV] at h
    split at h
    · cases hv with
      | tup hv => exact .tup (expL_rel hs h hv)
    · exact h.elim
  | .int k m, x, v, h, hv => by
    simp only [expV] at h; subst h
    cases hv with
    | int h => exact .int h
  | .bool b, x, v, h, hv => by
    simp only [expV] at h; subst h
    cases hv; exact .bool
  | .str s, x, v, h, hv => by
    simp only [expV] at h; subst h
    cases hv with
    | str h => exact .str h
  | .sl t xs, x, v, h, hv => by
    simp only [expV] at h
    split at h
    · subst h
      cases hv
      exact .sl (Reads_nil _ _)
    · subst h
      cases hv with
      | sl h => exact .sl h
  | .nilsl, x, v, h, hv => by
    simp only [expV] at h; subst h
    cases hv; exact .nilsl
  | .nilptr, x, v, h, hv => by
    simp only [expV] at h; subst h
    cases hv; exact .nilptr
  | .ext e, x, v, h, hv => by
    simp only [expV] at h; subst h
    cases hv with
    | ext h => exact .ext h
  | .junk, x, v, h, hv => .junk
  | .el t xs i j, x, v, h, hv => by
    simp only [expV] at h; subst h
    cases hv with
    | el h1 h2 => exact .el h1 h2
  | .oel _ _ _ _, x, v, h, hv => by simp [expV] at h
  | .part _ _ _, x, v, h, hv => by simp [expV] at h
  | .fn f cs ds, x, v, h, hv => by
    simp only [expV] at h
    split at h
    · obtain ⟨rfl, h1, h2⟩ := h
      cases hv with
      | fn h3 h4 => exact .fn (expL_rel hs h1 h3) (expL_rel hs h2 h4)
    · exact h.elim
  | .nilfn, x, v, h, hv => by simp [expV] at h
theorem expL_rel (hs : SrcOk src K' g' gL) : ∀ {cs ds : List AV} {vs : List Value}, expL src cs ds → RelL g' K R w ds vs → RelL gL K' R w cs vs
  | [], [], vs, h, hv => by cases hv; exact .nil
  | [], _ :: _, vs, h, hv => by simp [expL] at h
  | _ :: _, [], vs, h, hv => by simp [expL] at h
  | c :: cs, d :: ds, vs, h, hv => by
    simp only [expL] at h
    cases hv with
    | cons h1 h2 => exact .cons (expV_rel hs h.1 h1) (expL_rel hs h.2 h2)
end

theorem nilsOf_rel {α : Type} : ∀ {ds : List AV} {xss : List (List α)} {vs : List Value}, nilsOf ds xss → RelL g' K R w ds vs → vs.length = xss.length ∧ ∀ v ∈ vs, v = .slice none 0 0
  | [], [], vs, _, h => by cases h; exact ⟨rfl, by simp⟩
  | [], _ :: _, vs, h, _ => by simp [nilsOf] at h
  | d :: ds, xss, vs, h, hv => by
    cases hv with
    | cons h1 h2 =>
      cases xss with
      | nil => cases d <;> simp [nilsOf] at h
      | cons x xss =>
        cases d <;> cases x <;> try (simp [nilsOf] at h; done)
        simp only [nilsOf] at h
        obtain ⟨h3, h4⟩ := nilsOf_rel h h2
        cases h1
        exact ⟨by simp [h3], fun v hv => by
          rcases List.mem_cons.1 hv with rfl | hv
          · rfl
          · exact h4 v hv⟩
theorem nilsOf_nil {α : Type} : ∀ {ds : List AV} {xss : List (List α)} {i : Nat} {xs : List α}, nilsOf ds xss → xss[i]? = some xs → xs = []
  | [], [], _, _, _, h => by simp at h
  | [], _ :: _, _, _, h, _ => by simp [nilsOf] at h
  | d :: ds, [], _, _, h, _ => by cases d <;> simp [nilsOf] at h
  | d :: ds, x :: xss, i, xs, h, hx => by
    cases d <;> cases x <;> try (simp [nilsOf] at h; done)
    simp only [nilsOf] at h
    cases i with
    | zero => simp at hx; exact hx
    | succ i => exact nilsOf_nil h (by simpa using hx)

theorem expO_rel (hs : SrcOk src K' g' gL) {i k : Nat} (hk : gL i = g' k) {o x : AObj} (h : expO src o x) (hx : RowH g' K R w k x) : RowH gL K' R w i o ∧ ∀ b, Own gL w i o b → Own g' w k x b := by
  cases o with
  | box cs =>
    simp only [expO] at h
    split at h
    · obtain ⟨vs, t, h1, h2, h3⟩ := hx
      exact ⟨⟨vs, t, by rw [hk]; exact h1, expL_rel hs h h2, h3⟩, fun b hb => by simpa [Own, hk] using hb⟩
    · exact h.elim
  | seq t xs =>
    simp only [expO] at h
    subst h
    exact ⟨by unfold RowH at *; rw [hk]; exact hx, fun b hb => by simpa [Own, hk] using hb⟩
  | arr t xss hl =>
    simp only [expO] at h
    split at h
    · obtain ⟨h1, h2⟩ := h
      subst h1
      obtain ⟨vs, ty, h3, h4, h5⟩ := hx
      obtain ⟨h6, h7⟩ := nilsOf_rel h2 h4
      have hbl : ∀ (i : Nat) v, vs[i]? = some v → v = .slice none 0 0 := fun i v hv => h7 v (List.mem_of_getElem? hv)
      refine ⟨⟨vs, ty, by rw [hk]; exact h3, ⟨h6, h5, fun i v xs hv hxs _ => ?_, fun i v hv _ => by rw [hbl i v hv]; simp [blkOf], fun i j v u c hv hu _ _ hb _ => by rw [hbl i v hv] at hb; simp [blkOf] at hb⟩⟩, fun b hb => ?_⟩
      · rw [hbl i v hv, nilsOf_nil h2 hxs]
        exact ⟨ty, [], ownsSeq_nil w ty t.size none, rfl, by simp⟩
      · rcases hb with rfl | ⟨vs', ty', i, v, h8, h9, _, h10⟩
        · rw [hk]; rfl
        · rw [hk, h3] at h8
          have : vs = vs' := by
            have := congrArg (fun o => match o with | some (Obj.cells c _ _) => c.toList | _ => []) h8
            simpa using this
          subst this
          rw [hbl i v h9] at h10
          simp [blkOf] at h10
    · subst h
      refine ⟨by simp only [RowH] at *; rw [hk]; exact hx, fun b hb => ?_⟩
      simp only [Own, hk] at hb ⊢
      exact hb
  | map a b l =>
    simp only [expO] at h
    subst h
    exact ⟨by simp only [RowH] at *; rw [hk]; exact hx, fun b hb => by simpa [Own, hk] using hb⟩
  | dead => exact ⟨trivial, fun b hb => by simp [Own] at hb⟩
end

theorem nth_someK : ∀ {l : List (Option Nat)} {i k : Nat}, l[i]? = some (some k) → k ∈ someK l
  | [], _, _, h => by simp at h
  | none :: l, 0, k, h => by simp at h
  | some x :: l, 0, k, h => by simp at h; subst h; simp [someK]
  | none :: l, i + 1, k, h => by simp only [someK]; exact nth_someK (by simpa using h)
  | some x :: l, i + 1, k, h => by simp only [someK]; exact List.mem_cons_of_mem _ (nth_someK (by simpa using h))

theorem someK_inj : ∀ {l : List (Option Nat)} {i j k : Nat}, nodupK (someK l) = true → l[i]? = some (some k) → l[j]? = some (some k) → i = j
  | [], _, _, _, _, h, _ => by simp at h
  | none :: l, 0, _, _, _, h, _ => by simp at h
  | none :: l, _ + 1, 0, _, _, _, h => by simp at h
  | none :: l, i + 1, j + 1, k, hn, h1, h2 => by
    simp only [someK] at hn
    have := someK_inj hn (i := i) (j := j) (k := k) (by simpa using h1) (by simpa using h2)
    omega
  | some x :: l, 0, 0, _, _, _, _ => rfl
  | some x :: l, 0, j + 1, k, hn, h1, h2 => by
    simp at h1; subst h1
    simp only [someK, nodupK] at hn
    split at hn
    · cases hn
    · rename_i hm
      have := nth_someK (l := l) (by simpa using h2)
      rw [← mem_iff] at this
      rw [this] at hm; cases hm
  | some x :: l, i + 1, 0, k, hn, h1, h2 => by
    simp at h2; subst h2
    simp only [someK, nodupK] at hn
    split at hn
    · cases hn
    · rename_i hm
      have := nth_someK (l := l) (by simpa using h1)
      rw [← mem_iff] at this
      rw [this] at hm; cases hm
  | some x :: l, i + 1, j + 1, k, hn, h1, h2 => by
    simp only [someK, nodupK] at hn
    split at hn
    · cases hn
    · have := someK_inj hn (i := i) (j := j) (k := k) (by simpa using h1) (by simpa using h2)
      omega

end Go.AM
