/- AmOps5, AmOps6. -/
import Derived.Test.YtmjeocinfoeeeaaGreatPr06
import Derived.Laws.MakeOwn

section
set_option linter.all false
namespace Go.AM
section
variable {g : Nat → Gh} {K R : Nat → Prop} {w : World}
theorem valOf_np {t : Ty} {v : Value} (hn : ∀ a b, t = .pair a b → False) : valOf t [v] = v := by
  cases t <;> first | rfl | exact (hn _ _ rfl).elim
theorem decV_rel {t : Ty} {x : AV} {y : t.El} {v : Value} (h : decV t x = some y) (hx : RelV g K R w x v) : ∃ us, RelEl R w t y us ∧ v = valOf t us := by
  unfold decV at h
  split at h
  · split at h <;> try (cases h; done)
    rename_i hd
    cases h
    cases hx with
    | agg hx =>
      obtain ⟨us, ws, e, h1, h2⟩ := dec_rel hd hx
      cases h2
      exact ⟨us, h1, by rw [e]; simp [valOf]⟩
  · cases h
  · rename_i hn1 hn2
    split at h <;> try (cases h; done)
    rename_i hd
    cases h
    obtain ⟨us, ws, e, h1, h2⟩ := dec_rel hd (.cons hx .nil)
    cases h2
    simp only [List.append_nil] at e
    subst e
    exact ⟨_, h1, (valOf_np hn1).symm⟩
theorem encV_rel : ∀ {t : Ty} {y : t.El} {us : List Value}, RelEl R w t y us → RelV g K R w (encV t y) (valOf t us)
  | .int _, _, _, h => by rw [h.1]; exact .int h.2
  | .bool, _, _, h => by rw [show _ = _ from h]; exact .bool
  | .str, _, _, h => by rw [h.1]; exact .str h.2
  | .unit, _, _, h => .junk
  | .pair _ _, _, _, h => .agg (RelEl_enc h)
  | .slice _, _, _, ⟨v, e, h⟩ => by rw [e]; exact .sl h
  | .fn1 _ _, _, _, h => by
    have h' := h
    obtain ⟨_, _, _, e, _⟩ := h'
    subst e
    exact .ext h
  | .fn2 _ _, _, _, h => by
    have h' := h
    obtain ⟨_, _, _, e, _⟩ := h'
    subst e
    exact .ext h
theorem valOf_one {t : Ty} {u : Value} (h : one t = true) : valOf t [u] = u := by
  cases t <;> first | rfl | (simp [one] at h)
theorem find_int {kk : IntKind} {v : Ty} {x : Int} : ∀ {kvs : List (Int × v.El)} {es : List MapEntry} {i : Nat}, MapE R w (.int kk) v kvs es →
    (Instr.findNow (.int kk) (.int kk x) es i = some none ∧ mapFind (.int kk) v x kvs = none ∧ ∀ y, mapSet (.int kk) v x y kvs = kvs ++ [(x, y)]) ∨
    (∃ (j : Nat) (e : MapEntry) (p : Int × v.El), Instr.findNow (.int kk) (.int kk x) es i = some (some (i + j, e.val)) ∧ es[j]? = some e ∧ kvs[j]? = some p ∧ e.key = .int kk x ∧ p.1 = x ∧ mapFind (.int kk) v x kvs = some p.2 ∧ ∀ y, mapSet (.int kk) v x y kvs = kvs.set j (x, y))
  | [], [], i, _ => .inl ⟨rfl, rfl, fun _ => rfl⟩
  | [], _ :: _, _, h => h.elim
  | _ :: _, [], _, h => h.elim
  | p :: kvs, e :: es, i, ⟨⟨us, h1, h2⟩, ⟨vs, h3, h4⟩, h5⟩ => by
    have hk : e.key = .int kk p.1 := by rw [h2, h1.1]; rfl
    by_cases hx : x = p.1
    · have hs : Instr.sameNow (.int kk) (.int kk x) e.key = some true := by rw [hk]; simp [Instr.sameNow, hx]
      refine .inr ⟨0, e, p, ?_, rfl, rfl, by rw [hk, hx], hx.symm, ?_, fun y => ?_⟩
      · simp only [Instr.findNow, hs]; rfl
      · simp [mapFind, keyEq, hx]
      · simp [mapSet, keyEq, hx]
    · have hs : Instr.sameNow (.int kk) (.int kk x) e.key = some false := by rw [hk]; simp [Instr.sameNow, hx]
      rcases find_int (x := x) (i := i + 1) h5 with ⟨h6, h7, h8⟩ | ⟨j, e', p', h6, h7, h8, h9, h10, h11, h12⟩
      · refine .inl ⟨?_, ?_, fun y => ?_⟩
        · simp only [Instr.findNow, hs]; exact h6
        · simp [mapFind, keyEq, hx]; exact h7
        · simp [mapSet, keyEq, hx]; exact h8 y
      · refine .inr ⟨j + 1, e', p', ?_, by simpa using h7, by simpa using h8, h9, h10, ?_, fun y => ?_⟩
        · simp only [Instr.findNow, hs, h6]; rw [Nat.add_assoc, Nat.add_comm 1 j]
        · simp [mapFind, keyEq, hx]; exact h11
        · simp [mapSet, keyEq, hx]; exact h12 y
theorem MapE_get {k v : Ty} : ∀ {kvs : List (k.El × v.El)} {es : List MapEntry} {j : Nat} {e : MapEntry} {p : k.El × v.El}, MapE R w k v kvs es → es[j]? = some e → kvs[j]? = some p → ∃ vs, RelEl R w v p.2 vs ∧ e.val = valOf v vs
  | _ :: _, _ :: _, 0, _, _, ⟨_, h, _⟩, he, hp => by simp at he hp; subst he hp; exact h
  | _ :: _, _ :: _, j + 1, _, _, ⟨_, _, h⟩, he, hp => MapE_get (j := j) h (by simpa using he) (by simpa using hp)
  | [], _, _, _, _, _, _, hp => by simp at hp
  | _ :: _, [], _, _, _, _, he, _ => by simp at he
theorem MapE_app {k v : Ty} {x : k.El} {y : v.El} {e : MapEntry} {us vs : List Value} (h1 : RelEl R w k x us) (h2 : e.key = valOf k us) (h3 : RelEl R w v y vs) (h4 : e.val = valOf v vs) : ∀ {kvs : List (k.El × v.El)} {es : List MapEntry}, MapE R w k v kvs es → MapE R w k v (kvs ++ [(x, y)]) (es ++ [e])
  | [], [], _ => ⟨⟨us, h1, h2⟩, ⟨vs, h3, h4⟩, trivial⟩
  | _ :: _, _ :: _, ⟨a, b, c⟩ => ⟨a, b, MapE_app h1 h2 h3 h4 c⟩
  | [], _ :: _, h => h.elim
  | _ :: _, [], h => h.elim
theorem MapE_set {k v : Ty} {x : k.El} {y : v.El} {e : MapEntry} {us vs : List Value} (h1 : RelEl R w k x us) (h2 : e.key = valOf k us) (h3 : RelEl R w v y vs) (h4 : e.val = valOf v vs) : ∀ {kvs : List (k.El × v.El)} {es : List MapEntry} {j : Nat}, MapE R w k v kvs es → MapE R w k v (kvs.set j (x, y)) (es.set j e)
  | [], [], _, h => h
  | _ :: _, _ :: _, 0, ⟨_, _, c⟩ => ⟨⟨us, h1, h2⟩, ⟨vs, h3, h4⟩, c⟩
  | _ :: _, _ :: _, j + 1, ⟨a, b, c⟩ => ⟨a, b, MapE_set (j := j) h1 h2 h3 h4 c⟩
  | [], _ :: _, _, h => h.elim
  | _ :: _, [], _, h => h.elim
theorem castM_eq {β : Type} {a b c d : Ty} (h : a = c) (k : b = d) (l : List (a.El × b.El)) (f : List (c.El × d.El) → β) : ∃ l' : List (c.El × d.El), castM h k l f = f l' ∧ ∀ (g : Nat → Gh) (K R : Nat → Prop) (w : World) (r : Nat), RowH g K R w r (.map a b l) → RowH g K R w r (.map c d l') := by
  subst h k; exact ⟨l, rfl, fun _ _ _ _ _ h => h⟩
end
section
variable {P : Program} {C : Ctx} {g : Nat → Gh} {R : Nat → Prop} {st : St} {a : Act} {w : World} {tt : TT}
theorem run_getMap {b : Nat} {es : Array MapEntry} {clock : Nat} (hb : w.heap[b]? = some (.map es clock)) : (getObj b).run P w = .ok (.map es clock) w := by
  simp [getObj, Sem.run, hb]
theorem run_setMap {b : Nat} {es : Array MapEntry} {clock : Nat} (o : Obj) (hb : w.heap[b]? = some (.map es clock)) : (setObj b o).run P w = .ok () { w with heap := w.heap.setIfInBounds b o } := by
  simp [setObj, Sem.run, hb]
theorem run_key_int {kt : TypeId} {kk : IntKind} (hk : P.underlying kt = some (.int kk)) (e : Bool) (x : Int) : (Instr.checkKey e 10000 kt (.int kk x)).run P w = .ok () w := by
  have : ∀ n, (Instr.checkKey e (n + 1) kt (.int kk x)).run P w = .ok () w := fun n => by simp [Instr.checkKey, run_underlying hk]
  exact this 9999
theorem run_find_int {kt : TypeId} {kk : IntKind} (hk : P.underlying kt = some (.int kk)) {x : Value} {es : List MapEntry} {r : Option (Nat × Value)} (h : Instr.findNow (.int kk) x es 0 = some r) : (Instr.findKey kt x es).run P w = .ok r w := by
  simp [Instr.findKey, run_underlying hk, h]
theorem make_did (hT : TTok P tt) (hrel : Rel C g R st a w) {t : TypeId} {ti : TI} (hl : look tt.1 t = some ti) {d : Nat} {li : List Nat} {res : Res} {rd : List Nat} {row : Nat → Option AObj}
    (h : (evMake d ti).run row li = some (res, rd)) (hf : freshAll st.ks res.new = true) : Did P C st a w (Instr.makeMap t none) res := by
  unfold evMake at h
  split at h <;> try exact (fail_run h).elim
  rename_i k v z hd
  rw [ret_run h] at hf ⊢
  refine ⟨.map (some w.heap.size), w.alloc (.map #[] 0), updG g d ⟨0, .map (some w.heap.size)⟩, R, rfl, ?_, ?_⟩
  · refine hrel.new1 hf rfl rfl rfl (by simp) (fun b hb => Go.RowKit.Below.heap_alloc w _ b hb) ?_ (fun b hb => ?_)
    · refine ⟨w.heap.size, #[], 0, by rw [updG_same], by simpa using heap_alloc_new w (.map #[] 0), ⟨?_, by simp, by simp⟩⟩
      simp [MapE]
    · simp only [Own, updG_same] at hb
      cases hb
      exact Nat.le_refl _
  · have := RelV.own (g := updG g d ⟨0, .map (some w.heap.size)⟩) (K := fun r => mem (appK [d] st.ks) r = true) (R := R) (w := w.alloc (.map #[] 0)) (r := d) (by simp [appK, mem_cons]) (by rw [updG_same]; simp [Value.oneCell'])
    rw [updG_same] at this
    exact this
theorem Rel.setO (hrel : Rel C g R st a w) {r : Nat} {o o' : AObj} {b : Nat} {ob : Obj} (ho : look st.rows r = some o) (hb : Own g w r o b) (hb' : ∀ b1, Own g { w with heap := w.heap.setIfInBounds b ob } r o' b1 → Own g w r o b1)
    (hrow : (∀ ad : Addr, R ad.block → ({ w with heap := w.heap.setIfInBounds b ob } : World).cell? ad = w.cell? ad) → RowH g (fun r => mem st.ks r = true) R { w with heap := w.heap.setIfInBounds b ob } r o') :
    Rel C g R ⟨st.n, st.slots, st.gt, st.ks, (r, o') :: st.rows⟩ a { w with heap := w.heap.setIfInBounds b ob } := by
  have hlook : ∀ r' o1, look [(r, o')] r' = some o1 → r' = r ∧ o1 = o' := fun r' o1 h => by
    rw [look_cons] at h
    by_cases e : r = r'
    · simp [e] at h; exact ⟨e.symm, h.symm⟩
    · simp [e, look] at h
  have hsz : ({ w with heap := w.heap.setIfInBounds b ob } : World).heap.size = w.heap.size := by simp
  have hoth : ∀ k, k ≠ b → ({ w with heap := w.heap.setIfInBounds b ob } : World).heap[k]? = w.heap[k]? := fun k hk => by simp [Array.getElem?_setIfInBounds, Ne.symm hk]
  have hRb : ∀ k, R k → k ≠ b := fun k hk e => (hrel.heap.own r o b ho hb).1 (e ▸ hk)
  have hcell : ∀ ad : Addr, R ad.block → ({ w with heap := w.heap.setIfInBounds b ob } : World).cell? ad = w.cell? ad := fun ad had => cell_of_heap (hoth _ (hRb _ had))
  refine hrel.gen (fun _ _ => rfl) (fun _ h => h) (fun _ h => h) ?_
  have := hrel.heap.gen (g' := g) (R' := R) (w' := { w with heap := w.heap.setIfInBounds b ob }) [(r, o')] [] (fun r' => r' = r) (fun r hr => by simp [mem] at hr) (fun r' o1 h => .inl ((hlook r' o1 h).1 ▸ hrel.heap.keys r o ho)) (fun r' h => ⟨o', by rw [h, look_cons]; simp⟩)
    rfl rfl rfl (by rw [hsz]; exact Nat.le_refl _) (fun k _ => ?_) (fun _ _ => rfl) (fun _ h => h)
    (fun b hb => by rw [hsz]; exact hrel.heap.rlt b hb) (fun _ h => .inl h) (fun r' o1 h => ?_) (fun r' o1 b1 h h1 => ?_) (fun r1 r2 o1 o2 b h1 h2 _ _ => (hlook r1 o1 h1).1.trans (hlook r2 o2 h2).1.symm)
  · have h2 := this.1.lists (ks := st.ks) (rows := st.rows)
    exact ⟨h2, this.2⟩
  · by_cases e : k = b
    · exact .inr ⟨r, o, rfl, ho, by rw [e]; exact hb⟩
    · exact .inl (hoth k e)
  · obtain ⟨rfl, rfl⟩ := hlook r' o1 h
    have e : (fun r' => mem st.ks r' = true ∨ mem [] r' = true) = (fun r' => mem st.ks r' = true) := by funext r'; simp [mem]
    rw [e]; exact hrow hcell
  · obtain ⟨rfl, rfl⟩ := hlook r' o1 h
    have h1 := hb' b1 h1
    exact ⟨(hrel.heap.own _ o b1 ho h1).1, .inr ⟨_, o, rfl, ho, h1⟩⟩
theorem keyInt_rel {k : Ty} {K : Nat → Prop} {kk : IntKind} (hk : k = .int kk) {x : AV} {y : k.El} {v : Value} (h : keyInt k k x = some y) (hx : RelV g K R w x v) : ∃ n : Int, v = .int kk n ∧ HEq y n ∧ kk.wrap n = n := by
  subst hk
  have h : decV (.int kk) x = some y := h
  obtain ⟨us, h1, h2⟩ := decV_rel h hx
  obtain ⟨h3, h4⟩ : us = [.int kk y] ∧ kk.wrap y = y := h1
  subst h3
  exact ⟨y, h2, HEq.rfl, h4⟩
theorem calls_of_spec {f : Nat} {s : Spec} (hs : SpecSound PG f s) {r : Ty} (hr : one r = true) {y : r.El} {args : List AV} {vals : List Value} {out : Out} (hraw : s.raw = false) (ho : s.f args [] = some out) (hp : out.pre) (hret : decV r out.ret = some y) {R' : Nat → Prop} {w' : World} (hlt : ∀ b, R' b → b < w'.heap.size)
    (hargs : ∀ g, RelL g (locK []) R' w' args vals) : Calls PG f vals.toArray w' fun e w'' => ∃ u, e = .returned u ∧ RelEl (fun _ => False) w'' r y [u] ∧ w'.grownBy w'' none := by
  refine (hs args [] out ho hp (fun _ => rfl) w' (fun _ => ⟨0, undef⟩) R' vals hlt (fun i o h => by simp at h) (fun i o b h => by simp at h) (fun i j o o' b h => by simp at h) (hargs _)).mono ?_
  rintro e w'' ⟨u, g', R'', rfl, hh, _, _, hv, _⟩
  refine ⟨u, rfl, ?_, ⟨hh.os, hh.tape, hh.output, hh.hsize, fun k hk _ => hh.frame k hk (fun ⟨i, o, h, _⟩ => by simp at h)⟩⟩
  obtain ⟨us, h1, h2⟩ := decV_rel hret hv
  cases r <;> simp [one] at hr
  · obtain ⟨rfl, h3⟩ := h1
    rw [h2]; exact ⟨rfl, h3⟩
  · have h1 : us = [.bool y] := h1
    subst h1
    rw [h2]; rfl
theorem seeV_rel {S : Nat → Option Spec} (hP : P = PG) (hS : ∀ f s, S f = some s → SpecSound P f s ∧ ∀ args w, (callFunc f args).run P w = .ok (.enter f args) w) {K : Nat → Prop} {t : Ty} {y : AV} {v : Value} (hc : ∀ p ∈ (seeV S t y).2, p) (hy : RelV g K R w y v) : RelV g K R w (seeV S t y).1 v := by
  subst hP
  unfold seeV at hc ⊢
  split
  · rename_i a r f
    simp only [List.mem_cons, List.not_mem_nil, or_false, forall_eq_or_imp, forall_eq] at hc
    obtain ⟨h1, h2⟩ := hc
    cases hy with
    | fn hf hd =>
    cases hf
    cases hd
    have hcall : ∀ args w, (callFunc f args).run PG w = .ok (.enter f args) w := by
      have := (h2 a.dflt).1
      unfold preOf at this
      split at this
      · rename_i s hs; exact (hS f s hs).2
      · exact this.elim
    refine .ext ⟨f, #[], #[], rfl, hcall, fun R' w' hR hcell hlt x us hx => ?_⟩
    obtain ⟨h3, h4⟩ := h2 x
    unfold preOf at h3
    split at h3 <;> try exact h3.elim
    rename_i s hs
    obtain ⟨h5, h6⟩ := h3
    split at h6 <;> try exact h6.elim
    rename_i o ho
    have ha : ansOf S f r [encV a x] = decV r o.ret := by unfold ansOf; rw [hs]; simp only [ho]
    rw [ha] at h4
    obtain ⟨z, hz⟩ := Option.isSome_iff_exists.1 h4
    simp only [ha, hz, Option.getD_some]
    exact calls_of_spec (hS f s hs).1 h1 h5 ho h6 hz hlt (fun g => .cons (encV_rel hx) .nil)
  · rename_i a r f
    simp only [List.mem_cons, List.not_mem_nil, or_false, forall_eq_or_imp, forall_eq] at hc
    obtain ⟨h1, h2⟩ := hc
    cases hy with
    | fn hf hd =>
    cases hf
    cases hd
    have hcall : ∀ args w, (callFunc f args).run PG w = .ok (.enter f args) w := by
      have := (h2 a.dflt a.dflt).1
      unfold preOf at this
      split at this
      · rename_i s hs; exact (hS f s hs).2
      · exact this.elim
    refine .ext ⟨f, #[], #[], rfl, hcall, fun R' w' hR hcell hlt x x' us us' hx hx' => ?_⟩
    obtain ⟨h3, h4⟩ := h2 x x'
    unfold preOf at h3
    split at h3 <;> try exact h3.elim
    rename_i s hs
    obtain ⟨h5, h6⟩ := h3
    split at h6 <;> try exact h6.elim
    rename_i o ho
    have ha : ansOf S f r [encV a x, encV a x'] = decV r o.ret := by unfold ansOf; rw [hs]; simp only [ho]
    rw [ha] at h4
    obtain ⟨z, hz⟩ := Option.isSome_iff_exists.1 h4
    simp only [ha, hz, Option.getD_some]
    exact calls_of_spec (hS f s hs).1 h1 h5 ho h6 hz hlt (fun g => .cons (encV_rel hx) (.cons (encV_rel hx') .nil))
  · exact hy
theorem upd_did {S : Nat → Option Spec} (hT : TTok P tt) (hS : ∀ f s, S f = some s → SpecSound P f s ∧ ∀ args w, (callFunc f args).run P w = .ok (.enter f args) w) (hrel : Rel C g R st a w) {t : TypeId} {ti : TI} (hl : look tt.1 t = some ti) {m x y : AV} {u vx vy : Value} {li : List Nat} {res : Res} {rd : List Nat}
    (h : (evUpd S ti m x y).run (look st.rows) li = some (res, rd)) (hc : ∀ p ∈ res.conds, p) (hm : RelV g (fun r => mem st.ks r = true) R w m u) (hx : RelV g (fun r => mem st.ks r = true) R w x vx) (hy : RelV g (fun r => mem st.ks r = true) R w y vy) :
    res.av = .junk ∧ ∃ w', (Instr.mapUpdate t u vx vy).run P w = .ok () w' ∧ Rel C g R ⟨st.n, st.slots, st.gt, appK res.new st.ks, addRows res.upd st.rows⟩ a w' := by
  unfold evUpd at h
  split at h <;> try exact (fail_run h).elim
  rename_i k v z r hd
  simp only [RQ.run] at h
  split at h <;> try (cases h; done)
  rename_i o ho
  split at h <;> try exact (fail_run h).elim
  rename_i k' v' kvs0
  split at h <;> try exact (fail_run h).elim
  rename_i hk' hv' kx vx' _ _ hkx hvy
  obtain ⟨kvs, e1, hrow⟩ := castM_eq hk' hv' kvs0 (fun kvs => RQ.ret (⟨(seeV S v y).2, AV.junk, [(r, .map k v (mapSet k v kx vx' kvs))], []⟩ : Res))
  rw [e1] at h
  rw [ret_run h] at hc ⊢
  replace hy := seeV_rel hT.1 hS hc hy
  obtain ⟨i, zz, hi, hsz, hz, hoz, ha, htd, _⟩ := hT.info hl
  rw [hd] at htd
  obtain ⟨kt, et, kk, ei, zv, c, hu, huk, rfl, hty, hei, hez, hoc, rfl⟩ := td_map htd
  obtain ⟨n, rfl, hn, hwn⟩ := keyInt_rel (g := g) rfl hkx hx
  have hn : kx = n := eq_of_heq hn
  subst hn
  obtain ⟨us, hv1, rfl⟩ := decV_rel hvy hy
  have hR0 := hrow _ _ _ _ _ (hrel.heap.held r _ ho)
  obtain ⟨b, es, clock, hgr, hb, hM⟩ := hR0
  cases hm with
  | own hkr h1 =>
  rw [hgr]
  have hown : Own g w r (.map k' v' kvs0) b := hgr
  rcases find_int (x := kx) (i := 0) hM.rel with ⟨h2, h3, h4⟩ | ⟨j, e, p, h2, h3, h5, h6, h7, h8, h9⟩
  · refine ⟨rfl, { w with heap := w.heap.setIfInBounds b (.map (es.push { key := .int kk kx, val := valOf v us, born := clock }) (clock + 1)) }, ?_, ?_⟩
    · simp [Instr.mapUpdate, run_underlying hu, run_getMap hb, run_key_int huk, run_find_int huk h2, run_setMap _ hb]
    · refine hrel.setO ho hown (fun b1 h => h) fun hcell => ?_
      refine ⟨b, es.push { key := .int kk kx, val := valOf v us, born := clock }, clock + 1, hgr, by simp [Array.getElem?_setIfInBounds, (Array.getElem?_eq_some_iff.1 hb).1], ?_⟩
      rw [h4]
      simp only [Array.toList_push]
      refine ⟨MapE_app (k := .int kk) (us := [.int kk kx]) (show RelEl R _ (.int kk) kx [.int kk kx] from ⟨rfl, hwn⟩) rfl (RelEl_mono (fun _ h => h) hcell hv1) rfl (MapE_mono (fun _ h => h) hcell hM.rel), fun e he => ?_, ?_⟩
      · rcases List.mem_append.1 he with he | he
        · have := hM.lt e he; omega
        · rw [List.mem_singleton.1 he]; exact Nat.lt_succ_self _
      · rw [List.map_append, List.nodup_append]
        refine ⟨hM.nd, by simp, fun x hx y hy => ?_⟩
        obtain ⟨e, he, rfl⟩ := List.mem_map.1 hx
        simp at hy
        subst hy
        have := hM.lt e he
        omega
  · refine ⟨rfl, { w with heap := w.heap.setIfInBounds b (.map (es.modify j fun e => { e with key := .int kk kx, val := valOf v us }) clock) }, ?_, ?_⟩
    · have h3' : es[j]? = some e := by simpa using h3
      simp only [Nat.zero_add] at h2
      simp [Instr.mapUpdate, run_underlying hu, run_getMap hb, run_key_int huk, run_find_int huk h2, run_setMap _ hb, h3', Instr.keyThatStays, h6, Instr.sameBits]
    · refine hrel.setO ho hown (fun b1 h => h) fun hcell => ?_
      refine ⟨b, es.modify j fun e => { e with key := .int kk kx, val := valOf v us }, clock, hgr, by simp [Array.getElem?_setIfInBounds, (Array.getElem?_eq_some_iff.1 hb).1], ?_⟩
      rw [h9]
      have hlt : j < es.toList.length := (List.getElem?_eq_some_iff.1 h3).1
      have hm' : (es.modify j fun e => { e with key := .int kk kx, val := valOf v us }).toList = es.toList.set j { e with key := .int kk kx, val := valOf v us } := by
        rw [Array.toList_modify]
        refine List.ext_getElem? fun i => ?_
        rw [List.getElem?_modify, List.getElem?_set]
        by_cases hij : j = i
        · subst hij
          have hlt' : j < es.size := by simpa using hlt
          have hej : es[j] = e := by
            have := h3
            rw [Array.getElem?_toList, Array.getElem?_eq_getElem hlt'] at this
            exact Option.some.inj this
          simp [h3, hlt', hej]
        · simp [hij]
      rw [hm']
      refine ⟨MapE_set (k := .int kk) (us := [.int kk kx]) (show RelEl R _ (.int kk) kx [.int kk kx] from ⟨rfl, hwn⟩) rfl (RelEl_mono (fun _ h => h) hcell hv1) rfl (MapE_mono (fun _ h => h) hcell hM.rel), fun e' he => ?_, ?_⟩
      · rcases List.mem_or_eq_of_mem_set he with he | rfl
        · exact hM.lt e' he
        · exact hM.lt e (List.mem_of_getElem? h3)
      · have : (es.toList.set j { e with key := .int kk kx, val := valOf v us }).map (·.born) = es.toList.map (·.born) := by
          rw [List.map_set]
          refine List.ext_getElem? fun i => ?_
          rw [List.getElem?_set]
          split
          · rename_i hij
            subst hij
            rw [if_pos (by simpa using hlt), List.getElem?_map, h3]
            rfl
          · rfl
        rw [this]
        exact hM.nd
theorem lookup_sound (hT : TTok P tt) {K : Nat → Prop} {row : Nat → Option AObj} (hrow : ∀ r o, row r = some o → RowH g K R w r o) {t : TypeId} {ti : TI} (hl : look tt.1 t = some ti) {ok : Bool} {m x : AV} {u vx : Value} {li : List Nat} {res : Res} {rd : List Nat}
    (h : (evLookup ti ok m x).run row li = some (res, rd)) (hc : ∀ p ∈ res.conds, p) (hm : RelV g K R w m u) (hx : RelV g K R w x vx) : Pure P g K R w (Instr.lookup t u vx ok) res := by
  have okR : ∀ (y : AV) (q : Value) (f : Bool), RelV g K R w y q → RelV g K R w (okV ok y f) (if ok then .tuple #[q, .bool f] else q) := fun y q f hq => by
    clear h hc
    cases ok
    · exact hq
    · exact .tup (.cons hq (.cons .bool .nil))
  unfold evLookup at h
  split at h <;> try exact (fail_run h).elim
  rotate_left
  · rename_i k v z hd
    obtain ⟨i, zz, hi, hsz, hz, hoz, ha, htd, _⟩ := hT.info hl
    rw [hd] at htd
    obtain ⟨kt, et, kk, ei, zv, c, hu, huk, rfl, hty, hei, hez, hoc, rfl⟩ := td_map htd
    split at h <;> try exact (fail_run h).elim
    rename_i kx y hkx hdz
    rw [ret_run h]
    obtain ⟨n, rfl, hn, hwn⟩ := keyInt_rel (g := g) rfl hkx hx
    have hz0 := ofZero_rel (g := g) (K := K) (R := R) (w := w) hoc
    obtain ⟨us, h9, h10⟩ := decV_rel hdz hz0
    have hval : RelV g K R w (encV v y) zv := by rw [h10]; exact encV_rel h9
    cases hm with
    | ext hm =>
    have hm : u = .map none := hm
    subst hm
    refine ⟨rfl, rfl, if ok then .tuple #[zv, .bool false] else zv, ?_, okR _ zv false hval⟩
    have hfn : Instr.findNow (.int kk) (.int kk n) [] 0 = some none := rfl
    simp [Instr.lookup, run_underlying hu, run_key_int huk, run_find_int huk hfn, run_zero w hei hez]
    try (cases ok <;> rfl)
  rename_i k v z r hd
  simp only [RQ.run] at h
  split at h <;> try (cases h; done)
  rename_i o ho
  split at h <;> try exact (fail_run h).elim
  rename_i k' v' kvs0
  obtain ⟨i, zz, hi, hsz, hz, hoz, ha, htd, _⟩ := hT.info hl
  rw [hd] at htd
  obtain ⟨kt, et, kk, ei, zv, c, hu, huk, rfl, hty, hei, hez, hoc, rfl⟩ := td_map htd
  split at h <;> try exact (fail_run h).elim
  · rename_i hk' hv' kx y _ _ hkx hdz
    obtain ⟨kvs, e1, hrw⟩ := castM_eq hk' hv' kvs0 (fun kvs => RQ.ret (⟨[], okV ok (encV v ((mapFind (.int kk) v kx kvs).getD y)) (mapFind (.int kk) v kx kvs).isSome, [], []⟩ : Res))
    rw [e1] at h
    rw [ret_run h]
    obtain ⟨n, rfl, hn, hwn⟩ := keyInt_rel (g := g) rfl hkx hx
    have hn : kx = n := eq_of_heq hn
    subst hn
    obtain ⟨b, es, clock, hgr, hb, hM⟩ := hrw _ _ _ _ _ (hrow r _ ho)
    cases hm with
    | own hkr h1 =>
    rw [hgr]
    refine ⟨rfl, rfl, ?_⟩
    rcases find_int (x := kx) (i := 0) hM.rel with ⟨h2, h3, _⟩ | ⟨j, e, p, h2, h3, h5, h6, h7, h8, _⟩
    · have hz0 := ofZero_rel (g := g) (K := K) (R := R) (w := w) hoc
      obtain ⟨us, h9, h10⟩ := decV_rel hdz hz0
      have hval : RelV g K R w (encV v y) zv := by rw [h10]; exact encV_rel h9
      refine ⟨if ok then .tuple #[zv, .bool false] else zv, ?_, ?_⟩
      · simp [Instr.lookup, run_underlying hu, run_getMap hb, run_key_int huk, run_find_int huk h2, run_zero w hei hez]
        try (cases ok <;> rfl)
      · show RelV g K R w (okV ok (encV v ((mapFind (.int kk) v kx kvs).getD y)) (mapFind (.int kk) v kx kvs).isSome) _
        rw [h3]; exact okR _ zv false hval
    · obtain ⟨vs, h9, h10⟩ := MapE_get hM.rel h3 h5
      refine ⟨if ok then .tuple #[e.val, .bool true] else e.val, ?_, ?_⟩
      · simp [Instr.lookup, run_underlying hu, run_getMap hb, run_key_int huk, run_find_int huk h2]
        try (cases ok <;> rfl)
      · show RelV g K R w (okV ok (encV v ((mapFind (.int kk) v kx kvs).getD y)) (mapFind (.int kk) v kx kvs).isSome) _
        rw [h8]; exact okR _ e.val true (by rw [h10]; exact encV_rel h9)
  · rename_i hk' hv' kx hkk hvv hkx hdz
    obtain ⟨kvs, e1, hrw⟩ := castM_eq hk' hv' kvs0 (fun kvs => RQ.ret (⟨[(mapFind (.int kk) v kx kvs).isSome = true], okV ok (encV v ((mapFind (.int kk) v kx kvs).getD v.dflt)) true, [], []⟩ : Res))
    rw [e1] at h
    rw [ret_run h] at hc ⊢
    have hs : (mapFind (.int kk) v kx kvs).isSome = true := hc _ (List.mem_singleton.2 rfl)
    obtain ⟨n, rfl, hn, hwn⟩ := keyInt_rel (g := g) rfl hkx hx
    have hn : kx = n := eq_of_heq hn
    subst hn
    obtain ⟨b, es, clock, hgr, hb, hM⟩ := hrw _ _ _ _ _ (hrow r _ ho)
    cases hm with
    | own hkr h1 =>
    rw [hgr]
    refine ⟨rfl, rfl, ?_⟩
    rcases find_int (x := kx) (i := 0) hM.rel with ⟨h2, h3, _⟩ | ⟨j, e, p, h2, h3, h5, h6, h7, h8, _⟩
    · rw [h3] at hs; cases hs
    · obtain ⟨vs, h9, h10⟩ := MapE_get hM.rel h3 h5
      refine ⟨if ok then .tuple #[e.val, .bool true] else e.val, ?_, ?_⟩
      · simp [Instr.lookup, run_underlying hu, run_getMap hb, run_key_int huk, run_find_int huk h2]
        try (cases ok <;> rfl)
      · show RelV g K R w (okV ok (encV v ((mapFind (.int kk) v kx kvs).getD v.dflt)) true) _
        rw [h8]; exact okR _ e.val true (by rw [h10]; exact encV_rel h9)
theorem fn_did (hP : P = PG) (hrel : Rel C g R st a w) {e : Ext} {v : Value} {args : List AV} {vals : List Value} {row : Nat → Option AObj} {li : List Nat} {res : Res} {rd : List Nat}
    (h : (evFn e args).run row li = some (res, rd)) (he : RelX R w e v) (hargs : RelL g (fun r => mem st.ks r = true) R w args vals) :
    ∃ f first cap, v = .func (.func f) first cap ∧ (∀ args w, (callFunc f args).run P w = .ok (.enter f args) w) ∧ CallDid P C st a w f (first ++ vals.toArray ++ cap).toList res := by
  subst hP
  have fin : ∀ {r : Ty} {y : r.El} {u : Value} {w' : World}, one r = true → RelEl (fun _ => False) w' r y [u] → w.grownBy w' none →
      Rel C g R ⟨st.n, st.slots, st.gt, appK [] st.ks, addRows [] st.rows⟩ a w' ∧ RelV g (fun r => mem (appK [] st.ks) r = true) R w' (encV r y) u := fun {r y u w'} h1 h2 h3 => by
    refine ⟨hrel.world h3.os h3.tape h3.output h3.size fun b hb => h3.block b hb (by simp), ?_⟩
    have := encV_rel (g := g) (K := fun r => mem (appK [] st.ks) r = true) (RelEl_mono (R' := R) (w' := w') (fun _ h => h.elim) (fun _ h => h.elim) h2)
    rwa [valOf_one h1] at this
  unfold evFn at h
  split at h <;> try exact (fail_run h).elim
  · rename_i ta tr c x
    split at h <;> try exact (fail_run h).elim
    rename_i y hy ho
    rw [b2_run h]
    cases hargs with
    | cons h1 h2 =>
    cases h2
    obtain ⟨us, h3, rfl⟩ := decV_rel hy h1
    obtain ⟨f, first, cap, e1, h4, h5⟩ := he
    cases e1
    refine ⟨f, first, cap, rfl, h4, ?_⟩
    unfold CallDid
    have := h5 R w (fun _ h => h) (fun _ _ => rfl) hrel.heap.rlt y us h3
    simp only [Array.toArray_toList]
    exact this.mono fun e w' ⟨u, e1, h6, h7⟩ => ⟨u, g, R, e1, fin ho h6 h7⟩
  · rename_i ta tr c x x'
    split at h <;> try exact (fail_run h).elim
    rename_i y y' hy hy' ho
    rw [b2_run h]
    cases hargs with
    | cons h1 h2 =>
    cases h2 with
    | cons h2 h3 =>
    cases h3
    obtain ⟨us, h3, rfl⟩ := decV_rel hy h1
    obtain ⟨us', h3', rfl⟩ := decV_rel hy' h2
    obtain ⟨f, first, cap, e1, h4, h5⟩ := he
    cases e1
    refine ⟨f, first, cap, rfl, h4, ?_⟩
    unfold CallDid
    have := h5 R w (fun _ h => h) (fun _ _ => rfl) hrel.heap.rlt y y' us us' h3 h3'
    simp only [Array.toArray_toList]
    exact this.mono fun e w' ⟨u, e1, h6, h7⟩ => ⟨u, g, R, e1, fin ho h6 h7⟩
end
end Go.AM
end

section
set_option linter.all false
namespace Go.AM
section
variable {P : Program} {C : Ctx} {g : Nat → Gh} {R : Nat → Prop} {st : St} {a : Act} {w : World} {tt : TT}
theorem toList_made {ls : List Value} (z : Array Value) (hz : z.toList = ls) (hp : 0 < ls.length) (n : Nat) : (madeCells z (n * ls.length)).toList = (List.replicate n ls).flatten := by
  have h := toList_rep z n (.inl (by rw [← hz] at hp; simpa using hp))
  rw [hz] at h
  rw [← h]
  have hs : z.size = ls.length := by rw [← hz]; simp
  unfold madeCells
  rw [hs]
theorem withC_spec {p : Prop} {q : RQ Res} {row : Nat → Option AObj} {li : List Nat} {res : Res} {rd : List Nat} (h : (withC p q).run row li = some (res, rd)) (hc : ∀ x ∈ res.conds, x) :
    p ∧ (∀ x ∈ res.conds, x) ∧ ∃ cs, q.run row li = some (⟨cs, res.av, res.upd, res.new⟩, rd) ∧ ∀ x ∈ cs, x := by
  unfold withC at h
  rw [run_bind] at h
  split at h <;> try (cases h; done)
  rename_i r l' hr
  obtain ⟨cs, av, upd, new⟩ := r
  simp only [RQ.run] at h
  cases h
  exact ⟨hc _ (by simp), hc, cs, hr, fun x hx => hc _ (List.mem_cons_of_mem _ hx)⟩
theorem makeS_did (hT : TTok P tt) (hrel : Rel C g R st a w) {t : TypeId} {ti : TI} (hl : look tt.1 t = some ti) {d : Nat} {n : Int} {kl kc : IntKind} {row : Nat → Option AObj} {li : List Nat} {res : Res} {rd : List Nat}
    (h : (evMakeS d ti n).run row li = some (res, rd)) (hf : freshAll st.ks res.new = true) (hc : ∀ p ∈ res.conds, p) :
    Did P C st a w (Instr.makeSlice t (.int kl n) (.int kc n)) res := by
  obtain ⟨i, z, hi, hsz, hz, hoz, ha, hd, _, _⟩ := hT.info hl
  unfold evMakeS at h
  split at h <;> try exact (fail_run h).elim
  rename_i ty esz bytes zs hfs
  rw [hfs] at hd
  obtain ⟨el, ei, ez, ec, hel, hei, _, rfl, rfl, hez, hoez, rfl⟩ := td_slice hd
  split at h <;> try exact (fail_run h).elim
  rename_i y h1 h2 h3 h4 h5 hdec
  rw [ret_run h] at hf hc ⊢
  have h0 : 0 ≤ n := hc _ (by simp)
  have hby : n.toNat * ei.bytes ≤ 140737488355328 := hc _ (by simp)
  have h1' : ei.size = ty.size := beq_eq h1
  have h2' : ty.bytes ≤ ei.bytes := by simpa using h2
  have h3' : 1 ≤ ei.size := by simpa using h3
  have h4' : 1 ≤ ei.bytes := by simpa using h4
  have hz0 := ofZero_rel (g := g) (K := fun r => mem st.ks r = true) (R := R) (w := w) hoez
  have hzr := cells_rel hz0 (ofZero_cell hoez)
  obtain ⟨us, ws, ezs, hyr, hws⟩ := dec_rel hdec hzr
  cases hws
  rw [List.append_nil] at ezs
  have hzl : us.length = ty.size := RelEl_len hyr
  have hn : n.toNat ≤ 140737488355328 := Nat.le_trans (Nat.le_mul_of_pos_right _ h4') hby
  have hrun := run_make (P := P) w t el ei ez hel hei hez kl kc n n h0 (Int.le_refl _) (by
    have : ((n.toNat * ei.bytes : Nat) : Int) ≤ 140737488355328 := by omega
    rw [Int.natCast_mul, Int.mul_comm] at this
    rw [show ((n.toNat : Nat) : Int) = n by omega] at this
    omega) (by omega)
  have hlen : (List.replicate n.toNat y).length = n.toNat := by simp
  have hcells : (madeCells ez.cells (n.toNat * ei.size)).toList = (List.replicate n.toNat us).flatten := by
    rw [h1', ← hzl]
    exact toList_made ez.cells ezs (by omega) n.toNat
  have hlay := lay_rep hyr n.toNat
  have hone : ∀ v ∈ (List.replicate n.toNat us).flatten, v.oneCell' = true := by
    intro v hv
    obtain ⟨q, hq, hvq⟩ := List.mem_flatten.1 hv
    rw [(List.mem_replicate.1 hq).2] at hvq
    exact RelEl_one hyr v hvq
  have hfl : (List.replicate n.toNat us).flatten.length = n.toNat * ty.size := by rw [flatten_len, hzl]
  have hkeep : ∀ ad : Addr, R ad.block → (w.alloc (.cells (madeCells ez.cells (n.toNat * ei.size)) el)).cell? ad = w.cell? ad := fun ad had => cell_of_heap (Go.RowKit.Below.heap_alloc w _ _ (hrel.heap.rlt _ had))
  refine ⟨_, _, updG g d ⟨0, .slice (some ⟨w.heap.size, 0, none⟩) n.toNat n.toNat⟩, R, hrun, hrel.new1 hf rfl rfl rfl (by simp) (fun b hb => Go.RowKit.Below.heap_alloc w _ b hb) ?_ (fun b hb => ?_), ?_⟩
  · show ElemR _ _ _ _ _
    rw [updG_same]
    refine ⟨el, (List.replicate n.toNat us).flatten, ⟨by rw [hlen]; exact hfl, ?_⟩, lay_mono (fun _ _ h => RelEl_mono (fun _ h => h) hkeep h) hlay, by rw [hlen]; exact Nat.le_trans (Nat.mul_le_mul_left _ h2') hby⟩
    rw [hlen]
    rcases Nat.eq_zero_or_pos n.toNat with hz' | hz'
    · exact .inl ⟨some ⟨w.heap.size, 0, none⟩, by rw [hz'], hz'⟩
    · refine .inr ⟨w.heap.size, n.toNat, _, rfl, hz', heap_alloc_new w _, Nat.le_refl _, by unfold maxLen; omega, by rw [size_madeCells, h1'], ?_⟩
      rw [hcells, List.take_of_length_le (by rw [hfl]; exact Nat.le_refl _)]
  · simp only [Own, updG_same] at hb
    have := blkOf_own hb
    simp [Value.ownBlock] at this
    omega
  · have := RelV.own (g := updG g d ⟨0, .slice (some ⟨w.heap.size, 0, none⟩) n.toNat n.toNat⟩) (K := fun r => mem (appK [d] st.ks) r = true) (R := R) (w := w.alloc (.cells (madeCells ez.cells (n.toNat * ei.size)) el)) (r := d) (by simp [appK, mem_cons]) (by rw [updG_same]; rfl)
    rw [updG_same] at this
    exact this
theorem head_did (hT : TTok P tt) (hrel : Rel C g R st a w) {t : TypeId} {ti : TI} (hl : look tt.1 t = some ti) {r : Nat} {n : Int} {k : IntKind} {u : Value} {li : List Nat} {res : Res} {rd : List Nat}
    (h : (evHead ti r n).run (look st.rows) li = some (res, rd)) (hc : ∀ p ∈ res.conds, p) (hx : RelV g (fun r => mem st.ks r = true) R w (.own r) u) :
    Did P C st a w (Instr.sliceAt t u none (some (.int k n)) none) res := by
  obtain ⟨i, z, hi, hsz, hz, hoz, ha, hd, _, _⟩ := hT.info hl
  unfold evHead at h
  split at h <;> try exact (fail_run h).elim
  rename_i ty esz bytes zs hfs
  rw [hfs] at hd
  obtain ⟨el, ei, _, _, hel, hei, _, hesz, _⟩ := td_slice hd
  simp only [RQ.run] at h
  split at h <;> try (cases h; done)
  rename_i o ho
  split at h <;> try exact (fail_run h).elim
  rename_i uty xs
  split at h <;> try exact (fail_run h).elim
  rename_i hes
  rw [ret_run h] at hc ⊢
  have h0 : 0 ≤ n := hc _ (by simp)
  have h1 : n ≤ xs.length := hc _ (by simp)
  have h2 : 0 < xs.length := hc _ (by simp)
  cases hx with
  | own hk _ =>
    obtain ⟨e, vs, hown, hlay, _⟩ := hrel.heap.held _ _ ho
    rcases hown.2 with ⟨_, _, hn0⟩ | ⟨b, cap, cur, hv, hc0, _, hnc, hcm, _⟩
    · omega
    · have hb := sliceBound_run (P := P) (w := w) (y := cap) (k := k) (c := .sliceAcap) (n := n) h0 (by omega)
      refine Pure.did hrel ⟨rfl, rfl, .slice (some ⟨b, 0, none⟩) n.toNat cap, ?_, .head hk hv (by omega)⟩
      rw [hv]
      have hne : ¬ cap = 0 := by omega
      simp [Instr.sliceAt, Instr.slice, run_underlying hel, Instr.sliceBounds, hb, run_size w hei, hne, Addr.add_lit, hesz]
theorem lay_sub {α : Type} {p : α → List Value → Prop} {n : Nat} (hp : ∀ x vs, p x vs → vs.length = n) {xs : List α} {vs : List Value} (h : lay p xs vs) (k : Nat) : lay p (xs.drop k) (vs.drop (k * n)) := by
  induction k generalizing xs vs with
  | zero => simpa using h
  | succ k ih =>
    cases xs with
    | nil => cases h; simp [lay]
    | cons x xs =>
      obtain ⟨a, b, rfl, h1, h2⟩ := h
      have := ih h2
      rw [List.drop_succ_cons, Nat.succ_mul, Nat.add_comm, ← List.drop_drop, List.drop_left' (hp _ _ h1)]
      exact this
theorem copy_core (hrel : Rel C g R st a w) {t ty' : TypeId} {elem : TypeId} {ei : TypeInfo} (hel : P.underlying t = some (.slice elem)) (hei : P.info? elem = some ei) (hsz : ei.size = 1) {r : Nat} {ty : Ty} {xs : List ty.El} (ht1 : ty.size = 1)
    (ho : look st.rows r = some (.seq ty xs)) {b cap : Nat} (hv : (g r).v = .slice (some ⟨b, 0, none⟩) xs.length cap) (hlen : 0 < xs.length) {l : Nat} {zs : List ty.El} {cs : List Value} (hz : lay (RelEl R w ty) zs cs) (hfit : l + zs.length ≤ xs.length)
    {sa : Addr} {sLen sCap dCap : Nat} (hsrc : ∀ j v, cs[j]? = some v → w.cell? (sa.add j) = some v) (hn : cs.length = Nat.min sLen (xs.length - l)) :
    Did P C st a w (Builtin.copy_ #[t, t] ty' #[.slice (some ⟨b, l, none⟩) (xs.length - l) dCap, .slice (some sa) sLen sCap]) ⟨[], .int .i64 zs.length, [(r, .seq ty (xs.take l ++ zs ++ xs.drop (l + zs.length)))], []⟩ := by
  obtain ⟨e, vs, hown, hlay, hby⟩ := hrel.heap.held _ _ ho
  rcases hown.2 with ⟨a', hv', hn0⟩ | ⟨b', cap', cur, hv', hb0, hh, hle, hmx, hcur, htake⟩
  · omega
  rw [hv] at hv'
  injection hv' with hv1 hv2 hv3
  injection hv1 with hv1
  injection hv1 with hv1
  subst hv1 hv3
  have hvl : vs.length = xs.length := by have := hown.1; rw [ht1, Nat.mul_one] at this; exact this
  have hcs : cs.length = zs.length := by have := lay_length (n := 1) (fun _ _ h => by rw [RelEl_len h, ht1]) hz; rw [Nat.mul_one] at this; exact this
  have hcz : cur.size = cap := by rw [hcur, ht1, Nat.mul_one]
  have hone : ∀ v ∈ cs, v.oneCell' = true := lay_all (fun _ _ h => RelEl_one h) hz
  have hb1 : Own g w r (.seq ty xs) b := by simp only [Own]; rw [hv, blkOf_pos hb0]
  have hst := run_copy_row (P := P) w t t ty' elem b l (xs.length - l) dCap sa sLen sCap cur e cs hel (by rw [hei]; simp [hsz]) hh hn hsrc (by rw [hcz, hcs]; omega) hone
  rw [ht1, Nat.mul_one] at htake
  have hct : cur.toList.take l = vs.take l := by rw [← htake, List.take_take, Nat.min_eq_left (by omega)]
  have hnew : cur.toList.take l ++ cs ++ cur.toList.drop (l + cs.length) = (vs.take l ++ cs ++ vs.drop (l + cs.length)) ++ cur.toList.drop xs.length := by
    rw [hct]
    simp only [List.append_assoc]
    congr 2
    rw [← htake, List.drop_take]
    have : (cur.toList.drop (l + cs.length)).take (xs.length - (l + cs.length)) ++ cur.toList.drop xs.length = cur.toList.drop (l + cs.length) := by
      have h1 := List.take_append_drop (xs.length - (l + cs.length)) (cur.toList.drop (l + cs.length))
      rw [List.drop_drop, show l + cs.length + (xs.length - (l + cs.length)) = xs.length by omega] at h1
      exact h1
    rw [this]
  rw [hnew] at hst
  obtain ⟨W, hW⟩ : ∃ W, W = w.setRow b ((vs.take l ++ cs ++ vs.drop (l + cs.length)) ++ cur.toList.drop xs.length).toArray := ⟨_, rfl⟩
  rw [← hW] at hst
  have hkeep : ∀ ad : Addr, R ad.block → W.cell? ad = w.cell? ad := fun ad had => by rw [hW]; exact cell_of_heap (setRow_other w _ _ _ (fun e => (hrel.heap.own r _ b ho hb1).1 (e ▸ had)))
  have hxn : (xs.take l ++ zs ++ xs.drop (l + zs.length)).length = xs.length := by simp; omega
  have hvn : (vs.take l ++ cs ++ vs.drop (l + cs.length)).length = xs.length := by simp; omega
  have hl2 : lay (RelEl R w ty) (xs.take l ++ zs ++ xs.drop (l + zs.length)) (vs.take l ++ cs ++ vs.drop (l + cs.length)) := by
    refine lay_append (lay_append ?_ hz) ?_
    · have := lay_take (size := 1) (fun _ _ h => by rw [RelEl_len h, ht1]) hlay (m := l)
      rwa [Nat.mul_one] at this
    · have := lay_sub (n := 1) (fun _ _ h => by rw [RelEl_len h, ht1]) hlay (l + zs.length)
      rw [Nat.mul_one] at this
      rw [hcs]
      exact this
  refine ⟨goInt cs.length, W, g, R, hst, ?_, ?_⟩
  · rw [hW]
    rw [hW] at hkeep
    refine hrel.set1 ho hb1 (fun _ h => h) hh ?_
    refine ⟨e, vs.take l ++ cs ++ vs.drop (l + cs.length), ⟨by rw [hxn, hvn, ht1, Nat.mul_one], .inr ⟨b, cap, _, by rw [hv, hxn], hb0, setRow_heap' w _ _ _ e hh, by rw [hxn]; exact hle, hmx, ?_, ?_⟩⟩, ?_, by rw [hxn]; exact hby⟩
    · rw [ht1, Nat.mul_one]; simp; omega
    · rw [hxn, ht1, Nat.mul_one, List.toList_toArray, List.take_append_of_le_length (by rw [hvn]; exact Nat.le_refl _), List.take_of_length_le (by rw [hvn]; exact Nat.le_refl _)]
    · exact lay_mono (fun _ _ h => RelEl_mono (fun _ h => h) hkeep h) hl2
  · rw [hcs]
    refine .int ?_
    have : (zs.length : Int) ≤ 9223372036854775807 := by
      have h1 : xs.length ≤ cap := hle
      have h2 := hmx
      unfold maxLen at h2
      omega
    simp [IntKind.wrap, IntKind.signed, IntKind.bits]
    omega
theorem copy_did (hT : TTok P tt) (hrel : Rel C g R st a w) {t ty' : TypeId} {ti : TI} (hl : look tt.1 t = some ti) {x y : AV} {u v : Value} {li : List Nat} {res : Res} {rd : List Nat}
    (h : (evCopy ti x y).run (look st.rows) li = some (res, rd)) (hc : ∀ p ∈ res.conds, p) (hx : RelV g (fun r => mem st.ks r = true) R w x u) (hy : RelV g (fun r => mem st.ks r = true) R w y v) :
    Did P C st a w (Builtin.copy_ #[t, t] ty' #[u, v]) res := by
  obtain ⟨i, z, hi, hsz, hz, hoz, ha, hd, _, _⟩ := hT.info hl
  unfold evCopy at h
  split at h <;> try exact (fail_run h).elim
  rename_i ety esz bytes zs0 hfs
  rw [hfs] at hd
  obtain ⟨el, ei, ez, ec, hel, hei, _, hesz, _⟩ := td_slice hd
  split at h <;> try exact (fail_run h).elim
  rename_i he1
  have hsz1 : ei.size = 1 := by have := beq_eq he1; omega
  split at h <;> try exact (fail_run h).elim
  · -- from a list
    rename_i r uty ys
    simp only [RQ.run] at h
    split at h <;> try (cases h; done)
    rename_i o ho
    split at h <;> try exact (fail_run h).elim
    rename_i ty xs
    split at h <;> try exact (fail_run h).elim
    rename_i hsame _ ht1
    rw [castK_eq] at h
    subst hsame
    rw [ret_run h] at hc ⊢
    have h1 : 0 < xs.length := hc _ (by simp)
    have h2 : 0 < (Ty.castL rfl ys).length := hc _ (by simp)
    have h3 : (Ty.castL rfl ys).length ≤ xs.length := hc _ (by simp)
    change 0 < ys.length at h2
    change ys.length ≤ xs.length at h3
    cases hx with
    | own hk _ =>
    cases hy with
    | sl hrd =>
    obtain ⟨sa, cap', rfl, _, _, _, hs⟩ := hrd
    obtain ⟨ad, vs, rfl, hsp, hRb, hlay, hcell⟩ := hs h2
    obtain ⟨e, vs', hown, _, _⟩ := hrel.heap.held _ _ ho
    rcases hown.2 with ⟨_, _, hn0⟩ | ⟨b, cap, cur, hv, _, _, _, _, _⟩
    · omega
    have hvl : vs.length = ys.length := by have := lay_length (n := 1) (fun _ _ h => by rw [RelEl_len h, beq_eq ht1]) hlay; rw [Nat.mul_one] at this; exact this
    obtain ⟨v', w', g', R', k1, k2, k3⟩ := copy_core (ty' := ty') (dCap := cap) (sCap := cap') hrel hel hei hsz1 (beq_eq ht1) ho hv h1 (l := 0) hlay (by omega) (sLen := ys.length) hcell (by rw [hvl]; exact (Nat.min_eq_left (by omega)).symm)
    refine ⟨v', w', g', R', ?_, ?_, k3⟩
    · rw [hv]
      simpa using k1
    · simp only [List.take_zero, List.nil_append, Nat.zero_add] at k2
      exact k2
  · -- within a row
    rename_i r sz l r' sz' hh
    split at h <;> try exact (fail_run h).elim
    rename_i hrr hs1
    obtain rfl := beq_eq hrr
    obtain rfl := beq_eq hs1
    simp only [RQ.run] at h
    split at h <;> try (cases h; done)
    rename_i o ho
    split at h <;> try exact (fail_run h).elim
    rename_i ty xs
    split at h <;> try exact (fail_run h).elim
    rename_i ht1
    rw [ret_run h] at hc ⊢
    have h1 : l < xs.length := hc _ (by simp)
    have h2 : hh ≤ xs.length := hc _ (by simp)
    cases hx with
    | part hk hg1 hlt =>
    rename_i b n cap
    cases hy with
    | head hk2 hg2 hle2 =>
    rename_i b2 n2 cap2
    rw [hg1] at hg2
    injection hg2 with e1 e2 e3
    injection e1 with e1
    injection e1 with e1
    subst e1 e2 e3
    obtain ⟨e, vs, hown, hlay, _⟩ := hrel.heap.held _ _ ho
    rcases hown.2 with ⟨_, _, hn0⟩ | ⟨b', cap', cur, hv, _⟩
    · omega
    have hv' := hv
    rw [hg1] at hv'
    injection hv' with f1 f2 f3
    injection f1 with f1
    injection f1 with f1
    subst f1 f2 f3
    have hvl : vs.length = xs.length := by have := hown.1; rw [beq_eq ht1, Nat.mul_one] at this; exact this
    have hcells := own_cells hown hv
    obtain ⟨m, hm⟩ : ∃ m, m = min hh (xs.length - l) := ⟨_, rfl⟩
    have hlz : lay (RelEl R w ty) (xs.take m) (vs.take m) := by
      have := lay_take (size := 1) (fun _ _ h => by rw [RelEl_len h, beq_eq ht1]) hlay (m := m)
      rwa [Nat.mul_one] at this
    have hml : (xs.take m).length = m := by rw [List.length_take]; omega
    have hmv : (vs.take m).length = m := by rw [List.length_take]; omega
    obtain ⟨v', w', g', R', k1, k2, k3⟩ := copy_core (ty' := ty') (dCap := cap - l) (sCap := cap) (sLen := hh) hrel hel hei hsz1 (beq_eq ht1) ho hv (by omega) (l := l) hlz (by rw [hml]; omega) (sa := ⟨b, 0, none⟩) (fun j u hu => by
      refine hcells j u ?_
      rw [List.getElem?_take] at hu
      split at hu
      · exact hu
      · cases hu) (by rw [hmv, hm])
    rw [hml] at k2 k3
    rw [hm] at k2 k3
    refine ⟨v', w', g', R', ?_, k2, k3⟩
    rw [Nat.mul_one]
    exact k1
end
section
variable {P : Program} {C : Ctx} {g : Nat → Gh} {R : Nat → Prop} {st : St} {a : Act} {w : World} {tt : TT}
theorem appU_eq (m : Nat) : ∀ l : List (Nat × AObj), appU l m = l ++ [(m, .dead)]
  | [] => rfl
  | x :: r => by rw [appU, appU_eq m r]; rfl
theorem buildX_did (hT : TTok P tt) (hrel : Rel C g R st a w) {t : TypeId} {ti : TI} (hl : look tt.1 t = some ti) {d n : Nat} {get : Operand → AV} {ρ : Operand → Value} {ps : List (Nat × Operand)} {li : List Nat} {res : Res} {rd : List Nat}
    (h : (evBuildX d ti n (ps.map fun p => (p.1, get p.2))).run (look st.rows) li = some (res, rd)) (hf : freshAll st.ks res.new = true) (hrp : ∀ x ∈ ps.map (·.2), RelV g (fun r => mem st.ks r = true) R w (get x) (ρ x)) :
    Did P C st a w (Instr.buildSlice t n (ps.map fun p => (p.1, ρ p.2)).toArray) res := by
  unfold evBuildX at h
  split at h
  · rename_i i m hps
    obtain ⟨x, hps', hx⟩ : ∃ x, ps = [(i, x)] ∧ get x = .own m := by
      cases ps with
      | nil => simp at hps
      | cons y l =>
        obtain ⟨j, x⟩ := y
        cases l with
        | nil => simp at hps; exact ⟨x, by rw [hps.1], hps.2⟩
        | cons z l => simp at hps
    subst hps'
    simp only [RQ.run] at h
    split at h <;> try (cases h; done)
    rename_i o ho
    split at h <;> try exact (fail_run h).elim
    rename_i u xs
    rw [run_bind] at h
    split at h <;> try (cases h; done)
    rename_i r1 rd1 hr1
    rw [ret_run h] at hf ⊢
    have he : ElemR R w u xs (g m).v := hrel.heap.held m _ ho
    obtain ⟨R', hR'⟩ : ∃ R' : Nat → Prop, R' = fun b => R b ∨ blkOf (g m).v = some b := ⟨_, rfl⟩
    have hR : ∀ b, R b → R' b := fun b h => by rw [hR']; exact .inl h
    have hb : ∀ b, blkOf (g m).v = some b → R' b := fun b h => by rw [hR']; exact .inr h
    have hlk : ∀ r' o, look [(m, AObj.dead)] r' = some o → r' = m ∧ o = .dead := fun r' o h => by
      rw [look_cons] at h
      by_cases e : m = r'
      · simp [e] at h; exact ⟨e.symm, h.symm⟩
      · simp [e, look] at h
    have gen := (hrel.heap.gen (g' := g) (R' := R') (w' := w) [(m, .dead)] [] (fun r' => r' = m) (fun r hr => by simp [mem] at hr) (fun r' o h => .inl ((hlk r' o h).1 ▸ hrel.heap.keys m _ ho)) (fun r' h => ⟨.dead, by rw [h, look_cons]; simp⟩)
      rfl rfl rfl (Nat.le_refl _) (fun _ _ => .inl rfl) (fun _ _ => rfl) hR
      (fun b hb' => by
        rw [hR'] at hb'
        rcases hb' with h | h
        · exact hrel.heap.rlt b h
        · exact Own_lt (hrel.heap.held m _ ho) h)
      (fun b hb' => by
        rw [hR'] at hb'
        rcases hb' with h | h
        · exact .inl h
        · exact .inr (.inr ⟨m, _, rfl, ho, h⟩))
      (fun r' o h => by rw [(hlk r' o h).2]; trivial) (fun r' o b h hb => by rw [(hlk r' o h).2] at hb; simp [Own] at hb) (fun r1 r2 o1 o2 b h1 h2 h3 _ => by rw [(hlk r1 o1 h1).2] at h3; simp [Own] at h3)).1.lists (ks := st.ks) (rows := st.rows)
    have gen : HeapR C g R' (fun r => mem st.ks r = true) (look ((m, .dead) :: st.rows)) w := gen
    have hrel' : Rel C g R' ⟨st.n, st.slots, st.gt, st.ks, (m, .dead) :: st.rows⟩ a w := ⟨hrel.size, hrel.defers, fun i e hi => by
      obtain ⟨h2, h3⟩ := hrel.slots i e hi
      exact ⟨fun hp => by obtain ⟨v, h4, h5⟩ := h2 hp; exact ⟨v, h4, RelV_weaken (fun _ h => h) hR h5⟩, h3⟩, hrel.gts, gen⟩
    have hv : RelV g (fun r => mem st.ks r = true) R' w (.sl u xs) (ρ x) := by
      have h1 := hrp x (by simp)
      rw [hx] at h1
      generalize ρ x = v at h1
      cases h1 with
      | own hk h1 => exact .sl (reads_of_elem he hR hb)
    have := buildSlice_did (P := P) hT hrel' hl (d := d) (n := n) (get := fun _ => .sl u xs) (ρ := ρ) (ps := [(i, x)]) (row := look st.rows) hr1 hf (fun y hy => by
      have : y = x := by simpa using hy
      rw [this]; exact hv)
    obtain ⟨v', w', g', R2, k1, k2, k3⟩ := this
    refine ⟨v', w', g', R2, k1, ?_, k3⟩
    rw [appU_eq]
    have e : addRows (r1.upd ++ [(m, .dead)]) st.rows = addRows r1.upd ((m, .dead) :: st.rows) := by
      induction r1.upd with
      | nil => rfl
      | cons y l ih => simp only [List.cons_append, addRows, ih]
    exact e ▸ k2
  · exact buildSlice_did hT hrel hl h hf hrp
end
end Go.AM
end
