/- Functions: from the end of the code to the contract. -/
import Derived.Test.YtkacoophnfljcaaAmCode
set_option linter.all false
namespace Go.AM

/-- What is asked at the end of a function. -/
def endOf (tt : TT) (rv : List ResultVar) (m : Nat) (out : Out) : AExit → St → Prop
  | .exit _, _ => False
  | _, st => ∃ news vs, Fin tt rv m out st news vs

section
variable {g : Nat → Gh} {K R R2 : Nat → Prop} {w : World}

mutual
theorem RelV_na : ∀ {c : AV} {v : Value}, naV c = true → RelV g K R w c v → RelV g K R2 w c v
  | _, _, _, .int h => .int h
  | _, _, _, .bool => .bool
  | _, _, _, .str h => .str h
  | _, _, hp, .sl h => by simp [naV] at hp
  | _, _, hp, .el hi h => by simp [naV] at hp
  | _, _, _, .own hk h1 => .own hk h1
  | _, _, _, .oel hk h1 => .oel hk h1
  | _, _, _, .part hk h1 h2 => .part hk h1 h2
  | _, _, _, .ptr hk => .ptr hk
  | _, _, hp, .agg hc => .agg (RelL_na (by simpa only [naV] using hp) hc)
  | _, _, hp, .tup hc => .tup (RelL_na (by simpa only [naV] using hp) hc)
  | _, _, hp, .fn hc hd => by simp [naV] at hp
  | _, _, _, .nilsl => .nilsl
  | _, _, _, .nilptr => .nilptr
  | _, _, _, .nilfn => .nilfn
  | _, _, hp, .ext h => by simp [naV] at hp
  | _, _, _, .junk => .junk
theorem RelL_na : ∀ {cs : List AV} {vs : List Value}, naL cs = true → RelL g K R w cs vs → RelL g K R2 w cs vs
  | _, _, _, .nil => .nil
  | _, _, hp, .cons h1 h2 => by
    simp only [naL] at hp
    split at hp
    · rename_i h3; exact .cons (RelV_na h3 h1) (RelL_na hp h2)
    · cases hp
end

theorem RelEl_flat : ∀ {t : Ty} {x : t.El} {vs : List Value}, t.flat = true → RelEl R w t x vs → RelEl R2 w t x vs
  | .int _, _, _, _, h => h
  | .bool, _, _, _, h => h
  | .str, _, _, _, h => h
  | .unit, _, _, _, h => h
  | .pair a b, x, vs, hf, h => by
    simp only [Ty.flat] at hf
    split at hf <;> try (cases hf; done)
    rename_i ha
    obtain ⟨us, ws, h1, h2, h3⟩ := h
    exact ⟨us, ws, h1, RelEl_flat ha h2, RelEl_flat hf h3⟩
  | .slice t, _, _, hf, _ => by simp [Ty.flat] at hf
  | .fn1 _ _, _, _, hf, _ => by simp [Ty.flat] at hf
  | .fn2 _ _, _, _, hf, _ => by simp [Ty.flat] at hf

theorem naRows_get : ∀ {l : List AObj} {i : Nat} {o : AObj}, naRows l = true → l[i]? = some o → RowH g K R w i o → RowH g K R2 w i o := by
  intro l i o h ho hr
  have : naRows [o] = true := by
    clear hr
    induction l generalizing i with
    | nil => simp at ho
    | cons x l ih =>
      cases i with
      | zero =>
        simp at ho; subst ho
        cases x with
        | box cs => simp [naRows] at h
        | seq t xs =>
          simp only [naRows] at h ⊢
          split at h
          · rename_i h1; simp [h1]
          · cases h
        | arr t xss hl =>
          simp only [naRows] at h ⊢
          split at h
          · rename_i h1; simp [h1]
          · cases h
        | map a b l => simp [naRows] at h
        | dead => rfl
      | succ i =>
        refine ih (i := i) ?_ (by simpa using ho) 
        cases x with
        | box cs => simp [naRows] at h
        | seq t xs =>
          simp only [naRows] at h
          split at h
          · exact h
          · cases h
        | arr t xss hl =>
          simp only [naRows] at h
          split at h
          · exact h
          · cases h
        | map a b l => simp [naRows] at h
        | dead => simpa only [naRows] using h
  cases o with
  | box cs => simp [naRows] at this
  | map a b l => simp [naRows] at this
  | seq t xs =>
    have hf : t.flat = true := by
      simp only [naRows] at this
      split at this
      · assumption
      · cases this
    obtain ⟨e, vs, h1, h2, h3⟩ := hr
    exact ⟨e, vs, h1, lay_mono (fun _ _ => RelEl_flat hf) h2, h3⟩
  | arr t xss hl =>
    have hf : t.flat = true := by
      simp only [naRows] at this
      split at this
      · assumption
      · cases this
    obtain ⟨vs, ty, hh, ha⟩ := hr
    refine ⟨vs, ty, hh, ⟨ha.len, ha.one, fun i v xs h1 h2 h3 => ?_, ha.off, ha.sep⟩⟩
    obtain ⟨e, us, h4, h5, h6⟩ := ha.el i v xs h1 h2 h3
    exact ⟨e, us, h4, lay_mono (fun _ _ => RelEl_flat hf) h5, h6⟩
  | dead => trivial
end

theorem expRows_get {st : St} {src : Nat → Option (Option Nat)} : ∀ {l : List AObj} {j i : Nat} {o : AObj}, expRows st src j l → l[i]? = some o → expRow st src (j + i) o
  | [], _, _, _, _, h => by simp at h
  | x :: l, j, 0, o, h, ho => by simp at ho; subst ho; exact h.1
  | x :: l, j, i + 1, o, h, ho => by
    have := expRows_get h.2 (by simpa using ho)
    rwa [show j + 1 + i = j + (i + 1) by omega] at this

section
variable {P : Program} {tt : TT} {S : Nat → Option Spec}

theorem spec_of_wps (hT : TTok P tt) {f : Nat} {fn : Func} {c : Code} {s : Spec} (hf : P.funcs[f]? = some fn) (hb : fn.body = some c)
    (h : ∀ args rows out, s.f args rows = some out → out.pre → (s.raw = false → rows = []) → args.length ≤ fn.ntmps ∧
      ∀ (C : Ctx) (g : Nat → Gh) (R : Nat → Prop) (a : Act) (w : World) (Q : Exit → Act → World → Prop), Rel C g R (St.init fn.ntmps args rows) a w →
        (∀ e s g' R' a' w', endOf tt fn.results.toList rows.length out e s → Rel C g' R' s a' w' → Q (toExit e) a' w') → c.wp P Q a w) : SpecSound P f s := by
  intro args rows out hout hpre hraw w0 g0 R0 vals hR hrow hown hsep hargs
  obtain ⟨hlen, hwp⟩ := h args rows out hout hpre hraw
  refine calls_of_wp hf hb ?_
  refine hwp _ _ _ _ _ _ (init_rel hlen hR hrow hown hsep hargs) ?_
  intro e st g' R' a' w' hz hrel
  have hfin : ∃ news vs, Fin tt fn.results.toList rows.length out st news vs := by
    cases e with
    | exit _ => exact hz.elim
    | normal => exact hz
    | ret => exact hz
  obtain ⟨news, vs, fin⟩ := hfin
  obtain ⟨u, hrun, hv⟩ := results_sound hT hrel fin.res
  have hpost : ∀ x, toExit e = x → bodyPost P fn (fun e w' => ∃ v g' R', e = .returned v ∧ HeapR ⟨w0, pasOf g0 w0 rows, R0, g'⟩ g' R' (locK out.rows) (locRow out.rows) w' ∧
        (∀ i, i < rows.length → g' i = g0 i) ∧ rows.length ≤ out.rows.length ∧ RelV g' (locK out.rows) R' w' out.ret v ∧
        (out.al = false → RelV g' (locK out.rows) (freshR w0 R') w' out.ret v ∧ ∀ i o, out.rows[i]? = some o → RowH g' (locK out.rows) (freshR w0 R') w' i o)) x a' w' := by
    have hmain : a'.defers = [] ∧ ∃ v, (results fn a'.tmps).run P w' = .ok v w' ∧ (∃ v' g' R', Ending.returned v = .returned v' ∧ HeapR ⟨w0, pasOf g0 w0 rows, R0, g'⟩ g' R' (locK out.rows) (locRow out.rows) w' ∧
        (∀ i, i < rows.length → g' i = g0 i) ∧ rows.length ≤ out.rows.length ∧ RelV g' (locK out.rows) R' w' out.ret v' ∧
        (out.al = false → RelV g' (locK out.rows) (freshR w0 R') w' out.ret v' ∧ ∀ i o, out.rows[i]? = some o → RowH g' (locK out.rows) (freshR w0 R') w' i o)) := by
      refine ⟨hrel.defers, u, hrun, ?_⟩
      have hh := hrel.heap
      have hol : out.rows.length = rows.length + news.length := by have := fin.len; rwa [lenL_spec, lenL_spec] at this
      obtain ⟨src, hsrc⟩ : ∃ src, src = srcOf rows.length news := ⟨_, rfl⟩
      obtain ⟨gL, hgL⟩ : ∃ gL : Nat → Gh, gL = fun i => match src i with | some (some k) => g' k | _ => ⟨0, .slice none 0 0⟩ := ⟨_, rfl⟩
      have hsp : ∀ i, i < rows.length → src i = some (some (100000 + i)) := fun i hi => by
        rw [hsrc]; unfold srcOf
        rw [show Nat.blt i rows.length = true by simpa using hi]
      have hsn : ∀ i, ¬ i < rows.length → src i = news[i - rows.length]? := fun i hi => by
        rw [hsrc]; unfold srcOf
        rw [show Nat.blt i rows.length = false by cases hb : Nat.blt i rows.length with | false => rfl | true => exact absurd (by simpa using hb) hi]
        exact nth_spec
      have hok : SrcOk src (locK out.rows) g' gL := by
        refine ⟨fun i x h => ?_, fun i k h => by rw [hgL]; simp [h], fun i h => by rw [hgL]; simp [h]⟩
        show i < out.rows.length
        by_cases hi : i < rows.length
        · omega
        · rw [hsn i hi] at h
          have := (List.getElem?_eq_some_iff.1 h).1
          omega
      obtain ⟨hnd, hnk⟩ : nodupK (someK news) = true ∧ ∀ k ∈ someK news, k < 100000 ∧ mem st.ks k = true := by
        have := fin.news
        unfold newsOk at this
        split at this
        · rename_i h1
          refine ⟨h1, fun k hk => ?_⟩
          have h2 := List.all_eq_true.1 this k hk
          simp only [Bool.and_eq_true] at h2
          exact ⟨by simpa using h2.1, h2.2⟩
        · cases this
      have hinj : ∀ i j k, src i = some (some k) → src j = some (some k) → i = j := fun i j k h1 h2 => by
        by_cases hi : i < rows.length
        · rw [hsp i hi] at h1
          cases h1
          by_cases hj : j < rows.length
          · rw [hsp j hj] at h2
            simp at h2; omega
          · rw [hsn j hj] at h2
            have := (hnk _ (nth_someK h2)).1
            omega
        · rw [hsn i hi] at h1
          by_cases hj : j < rows.length
          · rw [hsp j hj] at h2
            cases h2
            have := (hnk _ (nth_someK h1)).1
            omega
          · rw [hsn j hj] at h2
            have := someK_inj hnd h1 h2
            omega
      have hrows : ∀ i o, out.rows[i]? = some o → expRow st src i o := fun i o ho => by
        have := expRows_get fin.rows ho
        rw [hsrc]; simpa using this
      have hheld : ∀ i o, out.rows[i]? = some o → RowH gL (locK out.rows) R' w' i o ∧ ∀ b, Own gL w' i o b → ∃ k o', src i = some (some k) ∧ look st.rows k = some o' ∧ Own g' w' k o' b := fun i o ho => by
        have h1 := hrows i o ho
        unfold expRow at h1
        split at h1
        · rename_i k hk
          split at h1
          · rename_i o' ho'
            obtain ⟨h2, h3⟩ := expO_rel hok (hok.key i k hk) h1 (hh.held k o' ho')
            exact ⟨h2, fun b hb => ⟨k, o', hk, ho', h3 b hb⟩⟩
          · split at h1
            · exact ⟨trivial, fun b hb => by simp [Own] at hb⟩
            · exact h1.elim
        · rename_i hk
          split at h1
          · rename_i t xs
            subst h1
            have e : (gL i).v = .slice none 0 0 := by rw [hok.nil i hk]
            refine ⟨⟨0, [], ?_, rfl, by simp⟩, fun b hb => ?_⟩
            · rw [e]; exact ownsSeq_nil w' 0 t.size none
            · simp [Own, e, blkOf] at hb
          · exact ⟨trivial, fun b hb => by simp [Own] at hb⟩
          · exact h1.elim
        · exact h1.elim
      have hret : RelV gL (locK out.rows) R' w' out.ret u := expV_rel hok (by rw [hsrc]; exact fin.ret) hv
      refine ⟨u, gL, R', rfl, ⟨hh.hsize, hh.os, hh.tape, hh.output, hh.frame, hh.rsub, hh.rlt, hh.rnew, fun _ _ _ => rfl, fun i o ho => (List.getElem?_eq_some_iff.1 ho).1, fun i o ho => (hheld i o ho).1, fun i o b ho hb => ?_, fun i j o o' b ho ho' hb hb' => ?_⟩, fun i hi => ?_, by omega, hret, fun hal => ?_⟩
      · obtain ⟨k, o', h1, h2, h3⟩ := (hheld i o ho).2 b hb
        exact hh.own k o' b h2 h3
      · obtain ⟨k, x, h1, h2, h3⟩ := (hheld i o ho).2 b hb
        obtain ⟨k', x', h4, h5, h6⟩ := (hheld j o' ho').2 b hb'
        have := hh.sep k k' x x' b h2 h5 h3 h6
        subst this
        exact hinj i j k h1 h4
      · rw [hok.key i _ (hsp i hi)]
        have hk : mem st.ks (100000 + i) = true := List.all_eq_true.1 fin.pas (100000 + i) (by rw [← mem_iff, mem_upTo]; omega)
        rw [hh.gfix (100000 + i) (by omega) hk]
        simp
      · obtain ⟨_, h1, h2⟩ := fin.na hal
        exact ⟨RelV_na h1 hret, fun i o ho => naRows_get h2 ho (hheld i o ho).1⟩
    intro x hx
    subst hx
    cases e with
    | exit _ => exact hz.elim
    | normal => exact hmain
    | ret => exact hmain
  exact hpost _ rfl

theorem spec_of_body (hT : TTok P tt) (hS : SigOk P S) (hm : P.follows .mixedOrders = true) {f : Nat} {fn : Func} {c : Code} {s : Spec} (hf : P.funcs[f]? = some fn) (hb : fn.body = some c) (hc : codeOk c = true)
    (h : ∀ args rows out, s.f args rows = some out → out.pre → (s.raw = false → rows = []) → args.length ≤ fn.ntmps ∧ wp tt S c (St.init fn.ntmps args rows) (endOf tt fn.results.toList rows.length out)) : SpecSound P f s :=
  spec_of_wps hT hf hb fun args rows out h1 h2 h3 => by
    obtain ⟨h4, h5⟩ := h args rows out h1 h2 h3
    exact ⟨h4, fun C g R a w Q hrel hq => wp_sound hT hS hm hc h5 hrel hq⟩
end

end Go.AM
