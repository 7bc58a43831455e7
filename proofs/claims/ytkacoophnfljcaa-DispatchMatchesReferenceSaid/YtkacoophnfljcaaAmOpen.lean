/- Open: what is read in an argument, as data. -/
import Derived.Test.YtkacoophnfljcaaAmFn
import Derived.Deep.Slices
import Derived.OpenShut
import Derived.Below
set_option linter.all false
namespace Go.AM

section
variable {H : Type} {enc0 : TypeId × Value → H} {P : Program} {W : World} {base : Nat} {sp : Nat → Bool} {held : Bool}

def partsOk (P : Program) (f : TypeId → Ty → Bool) : Nat → List (Nat × TypeId) → Ty → Bool
  | _, [], .unit => true
  | off, [(o, t)], ty => Nat.beq o off && f t ty && Nat.beq (P.cellsOf t) ty.size
  | off, (o, t) :: r, .pair a b => Nat.beq o off && f t a && Nat.beq (P.cellsOf t) a.size && partsOk P f (off + a.size) r b
  | _, _, _ => false

def dataOk (P : Program) : Nat → TypeId → Ty → Bool
  | 0, _, _ => false
  | n + 1, t, ty => match P.underlying t with
    | some (.int k) => match ty with
      | .int l => kindEq k l
      | _ => false
    | some .bool => match ty with
      | .bool => true
      | _ => false
    | some .string => match ty with
      | .str => true
      | _ => false
    | some (.slice e) => match ty with
      | .slice u => dataOk P n e u && Nat.beq (P.cellsOf e) u.size && Nat.blt 0 u.size
      | _ => false
    | some (.struct fs) => partsOk P (dataOk P n) 0 (fs.toList.map fun f => (f.offset, f.type)) ty && Nat.beq (P.cellsOf t) ty.size
    | some (.array len e) => partsOk P (dataOk P n) 0 ((List.range len).map fun i => (i * P.cellsOf e, e)) ty && Nat.beq (P.cellsOf t) ty.size
    | _ => false

theorem wf_wrap_eq {k : IntKind} {n : Int} (h : (Lit.int k n).wf = true) : k.wrap n = n := by
  simp only [Lit.wf, Bool.and_eq_true, decide_eq_true_eq] at h
  cases k <;> simp [IntKind.wrap, IntKind.min, IntKind.max, IntKind.signed, IntKind.bits] at h ⊢ <;> (try split) <;> omega

theorem Addr.add_add' (a : Addr) (i j : Nat) : (a.add i).add j = a.add (i + j) := by
  unfold Addr.add
  by_cases hi : i = 0
  · subst hi; simp
  · by_cases hj : j = 0
    · subst hj; simp [hi]
    · simp [hi, hj, Nat.add_assoc]

theorem parts_rel {R : Nat → Prop} {f : TypeId → Ty → Bool} {Q : TypeId → List Value → Prop} (hf : ∀ t ty cs, f t ty = true → Q t cs → ∃ e : ty.El, RelEl R W ty e cs) {cs : List Value} :
    ∀ {l : List (Nat × TypeId)} {ty : Ty} {off : Nat}, partsOk P f off l ty = true → off + ty.size = cs.length → (∀ o t, (o, t) ∈ l → Q t ((cs.drop o).take (P.cellsOf t))) → ∃ e : ty.El, RelEl R W ty e (cs.drop off)
  | [], ty, off, h, hl, hq => by
    cases ty with
    | unit =>
      simp only [Ty.size] at hl
      exact ⟨(), by simp [RelEl]; omega⟩
    | _ => simp [partsOk] at h
  | [(o, t)], ty, off, h, hl, hq => by
    simp only [partsOk, Bool.and_eq_true] at h
    obtain ⟨⟨h1, h2⟩, h3⟩ := h
    obtain rfl := beq_eq h1
    have hq1 := hq o t (by simp)
    rw [beq_eq h3, List.take_of_length_le (by simp; omega)] at hq1
    exact hf t ty _ h2 hq1
  | (o, t) :: y :: r, ty, off, h, hl, hq => by
    cases ty with
    | pair a b =>
      simp only [partsOk, Bool.and_eq_true] at h
      obtain ⟨⟨⟨h1, h2⟩, h3⟩, h4⟩ := h
      obtain rfl := beq_eq h1
      simp only [Ty.size] at hl
      have hq1 := hq o t (by simp)
      rw [beq_eq h3] at hq1
      obtain ⟨x, hx⟩ := hf t a _ h2 hq1
      obtain ⟨z, hz⟩ := parts_rel hf h4 (by omega) (fun o' t' hm => hq o' t' (List.mem_cons_of_mem _ hm))
      exact ⟨(x, z), _, _, by rw [← List.drop_drop, List.take_append_drop], hx, hz⟩
    | _ => simp [partsOk] at h

theorem rows_rel {α : Type} {p : α → List Value → Prop} {a : Addr} {c len : Nat} (h : ∀ i, i < len → ∃ (e : α) (cs : List Value), p e cs ∧ cs.length = c ∧ ∀ j, j < c → W.cell? ((a.add (i * c)).add j) = cs[j]?) :
    ∀ k, k ≤ len → ∃ (xs : List α) (vs : List Value), xs.length = k ∧ vs.length = k * c ∧ lay p xs vs ∧ ∀ j u, vs[j]? = some u → W.cell? (a.add j) = some u
  | 0, _ => ⟨[], [], rfl, by simp, rfl, by simp⟩
  | k + 1, hk => by
    obtain ⟨xs, vs, h1, h2, h3, h4⟩ := rows_rel h k (by omega)
    obtain ⟨e, cs, h5, h6, h7⟩ := h k (by omega)
    refine ⟨xs ++ [e], vs ++ cs, by simp [h1], by simp [h2, h6, Nat.succ_mul], lay_append h3 ⟨cs, [], by simp, h5, rfl⟩, fun j u hu => ?_⟩
    by_cases hj : j < vs.length
    · rw [List.getElem?_append_left hj] at hu; exact h4 j u hu
    · rw [List.getElem?_append_right (by omega)] at hu
      have hlt := (List.getElem?_eq_some_iff.1 hu).1
      have := h7 (j - vs.length) (by omega)
      rw [Addr.add_add', hu] at this
      rwa [show k * c + (j - vs.length) = j by omega] at this

theorem open_data : ∀ (n : Nat) (t : TypeId) (ty : Ty) (cs : List Value) (fuel : Nat) (x : DataW H × List MemPlace), dataOk P n t ty = true → DataW.trod enc0 P W base sp held fuel t cs = some x → ∃ e : ty.El, RelEl (fun b => b < W.heap.size) W ty e cs
  | 0, _, _, _, _, _, h, _ => by simp [dataOk] at h
  | n + 1, t, ty, cs, fuel, x, h, hx => by
    have ih := open_data n
    simp only [dataOk] at h
    split at h
    · rename_i k hu
      split at h <;> try (cases h; done)
      obtain rfl := kindEq_eq h
      obtain ⟨m, rfl, _, hw⟩ := DataW.trod_int hu hx
      exact ⟨m, rfl, wf_wrap_eq hw⟩
    · rename_i hu
      split at h <;> try (cases h; done)
      obtain ⟨b, rfl, _⟩ := DataW.trod_bool hu hx
      exact ⟨b, rfl⟩
    · rename_i hu
      split at h <;> try (cases h; done)
      obtain ⟨s, rfl, _, hs⟩ := DataW.trod_string hu hx
      exact ⟨s, rfl, hs⟩
    · rename_i e hu
      split at h <;> try (cases h; done)
      rename_i u
      simp only [Bool.and_eq_true] at h
      obtain ⟨⟨h1, h2⟩, h3⟩ := h
      rcases Deep.open_slice hu hx with ⟨rfl, _⟩ | ⟨a, len, cap, m, k, D, Pl, rfl, _, hlc, hcm, hm, _, hel⟩
      · exact ⟨[], _, rfl, Reads_nil _ _⟩
      · have hml : len ≤ m := by rw [hm]; split <;> omega
        have hpos : 0 < u.size := by simpa using h3
        have hsz := beq_eq h2
        obtain ⟨xs, vs, hxs, hvs, hlay, hcell⟩ := rows_rel (W := W) (a := a) (c := P.cellsOf e) (len := len) (p := RelEl (fun b => b < W.heap.size) W u) (fun i hi => by
          obtain ⟨cs', hc, ht⟩ := hel i (by omega)
          obtain ⟨_, hc2, hc3⟩ := World.cells?_some hc
          obtain ⟨e', he'⟩ := ih e u cs' k _ h1 ht
          exact ⟨e', cs', he', hc2, hc3⟩) len (Nat.le_refl _)
        refine ⟨xs, _, rfl, some a, cap, by rw [hxs], by rw [hxs]; exact hlc, hcm, by rw [hxs]; omega, fun hl => ?_⟩
        have h0 : ∃ v, vs[0]? = some v := by
          have : 0 < vs.length := by rw [hvs, hsz, ← hxs]; exact Nat.mul_pos hl hpos
          exact ⟨vs[0], List.getElem?_eq_getElem this⟩
        obtain ⟨v, hv⟩ := h0
        have hc0 := hcell 0 v hv
        have ha0 : a.add 0 = a := by simp [Addr.add]
        rw [ha0] at hc0
        refine ⟨a, vs, rfl, ?_, ?_, hlay, hcell⟩
        · unfold World.cell? at hc0
          split at hc0
          · split at hc0
            · cases hc0
            · rename_i hs
              cases hsp : a.spot with
              | none => rfl
              | some _ => rw [hsp] at hs; simp at hs
          · cases hc0
        · unfold World.cell? at hc0
          split at hc0
          · rename_i hb; exact (Array.getElem?_eq_some_iff.1 hb).1
          · cases hc0
    · rename_i fs hu
      simp only [Bool.and_eq_true] at h
      obtain ⟨xs, m, rfl, _, hl, hxl, hf⟩ := DataW.trod_struct hu hx
      have := parts_rel (P := P) (W := W) (R := fun b => b < W.heap.size) (f := dataOk P n) (Q := fun t cs => ∃ y, DataW.trod enc0 P W base sp held m t cs = some y) (fun t ty cs h1 ⟨y, hy⟩ => ih t ty cs m y h1 hy) (cs := cs) h.1
        (by rw [hl, beq_eq h.2]; simp) (fun o t ho => by
          obtain ⟨fld, hfm, he⟩ := List.mem_map.1 ho
          cases he
          obtain ⟨i, hi, hie⟩ := List.getElem_of_mem hfm
          have hfi : fs[i]? = some fld := by
            simp at hi
            rw [Array.getElem?_eq_getElem hi]; simpa using hie
          have h2 := hf i fld hfi
          have hlt : i < xs.length := by rw [hxl]; simpa using hi
          rw [List.getElem?_eq_getElem hlt] at h2
          exact ⟨_, h2⟩)
      simpa using this
    · rename_i len e hu
      simp only [Bool.and_eq_true] at h
      obtain ⟨xs, m, rfl, _, hl, hxl, hf⟩ := DataW.trod_array hu hx
      have := parts_rel (P := P) (W := W) (R := fun b => b < W.heap.size) (f := dataOk P n) (Q := fun t cs => ∃ y, DataW.trod enc0 P W base sp held m t cs = some y) (fun t ty cs h1 ⟨y, hy⟩ => ih t ty cs m y h1 hy) (cs := cs) h.1
        (by rw [hl, beq_eq h.2]; simp) (fun o t ho => by
          obtain ⟨i, hi, he⟩ := List.mem_map.1 ho
          cases he
          have hi' : i < len := by simpa using hi
          have h2 := hf i hi'
          rw [List.getElem?_eq_getElem (by omega)] at h2
          exact ⟨_, h2⟩)
      simpa using this
    · cases h

/-- An argument, by its type: an aggregate, or one cell. -/
def argOf (agg : Bool) (ty : Ty) (e : ty.El) : AV := match agg, enc ty e with
  | true, cs => .agg cs
  | false, [c] => c
  | _, _ => .junk

theorem arg_rel {g : Nat → Gh} {K : Nat → Prop} {r : Reach} {b0 : Nat} {t : TypeId} {ty : Ty} {v : Value} {d : DataW H} {ps : List MemPlace} {agg : Bool} (hok : Value.okWide P W r b0 t v) (h : DataW.Trod enc0 P W base sp held t v d ps) (hd : dataOk P 20 t ty = true) (ha : isAggOf P t = agg) :
    ∃ e : ty.El, RelV g K (fun b => b < W.heap.size) W (argOf agg ty e) v := by
  obtain ⟨fuel, h⟩ := h
  obtain ⟨e, he⟩ := open_data 20 t ty v.cells.toList fuel _ hd h
  refine ⟨e, ?_⟩
  have hl := RelEl_enc (g := g) (K := K) he
  unfold argOf
  split
  · rename_i cs
    have : ∃ vs, v = .agg vs := by
      unfold isAggOf at ha
      unfold Value.okWide at hok
      split at ha
      · rename_i fs hu; rw [hu] at hok; obtain ⟨vs, h1, _⟩ := hok; exact ⟨vs, h1⟩
      · rename_i len el hu; rw [hu] at hok; obtain ⟨vs, h1, _⟩ := hok; exact ⟨vs, h1⟩
      · cases ha
    obtain ⟨vs, rfl⟩ := this
    simp only [Value.cells] at hl
    have := RelV.agg hl
    simpa using this
  · rename_i c hc
    rw [hc] at hl
    cases hv : v.cells.toList with
    | nil => rw [hv] at hl; cases hl
    | cons u us =>
      rw [hv] at hl
      cases hl with
      | cons h1 h2 =>
        cases h2
        have : v = u := by
          have hna : ∀ vs, v ≠ .agg vs := fun vs hvs => by
            subst hvs
            unfold isAggOf at ha
            unfold Value.okWide at hok
            split at ha
            · cases ha
            · cases ha
            · split at hok
              · simp_all
              · simp_all
              · unfold Cell.okWide at hok
                split at hok <;> simp_all [Cell.ok]
          cases v <;> simp_all [Value.cells]
        subst this
        exact h1
  · exact .junk
end

end Go.AM
