/- The law CalendarOrder: her function. -/
import Derived.Test.YtibjkdbmlmmcjaaCaLEx
import Derived.Test.YtibjkdbmlmmcjaaCaLFi
set_option linter.all false
namespace Go.AM.Ytibjkdbmlmmcjaa
open Go.Proofs
set_option maxRecDepth 100000
set_option maxHeartbeats 8000000

/-- Bookings that can be made together, in any order. -/
structure Apart (m : List Bk.El) : Prop where
  good : ∀ b ∈ m, GoodB b
  pw : m.Pairwise fun a b => ¬ (tlB a = tlB b ∧ meet a b)

theorem Apart.perm {m l : List Bk.El} (h : Apart m) (p : l.Perm m) : Apart l := ⟨fun b hb => h.good b (p.mem_iff.1 hb), (p.pairwise_iff fun {a b} h k => h ⟨k.1.symm, k.2.2, k.2.1⟩).2 h.pw⟩

theorem getI_mem {m : List Bk.El} {i : Nat} (h : i < m.length) : getI m Bk.dflt i ∈ m := by
  have : getI m Bk.dflt i = m[i] := by simp [getI, List.getD, List.getElem?_eq_getElem h]
  rw [this]; exact List.getElem_mem h

/-- The next one of them can be made. -/
theorem Apart.next {m : List Bk.El} (h : Apart m) {i : Nat} (hi : i < m.length) {xss : List (List Bk.El)} (g : CalG xss) (hk : Kept xss (m.take i)) : freeF xss (getI m Bk.dflt i) = true := by
  rw [hk.free g, Bool.and_eq_true]
  refine ⟨?_, (validB_iff _).2 (h.good _ (getI_mem hi))⟩
  rw [Bool.not_eq_true', List.any_eq_false]
  intro c hc hcl
  obtain ⟨h1, h2⟩ := clash_iff.1 hcl
  obtain ⟨j, hj, rfl⟩ := List.getElem_of_mem hc
  rw [List.length_take] at hj
  have := List.pairwise_iff_getElem.1 h.pw j i (by omega) hi (by omega)
  rw [List.getElem_take] at h1 h2
  have e : getI m Bk.dflt i = m[i] := by simp [getI, List.getD, List.getElem?_eq_getElem hi]
  rw [e] at h1 h2
  exact this ⟨h1, h2⟩

theorem some_tool {x : List t4.El} {b : Bk.El} (h : b ∈ someF x) : tlB b < 6 := by
  unfold someF at h
  obtain ⟨e, _, rfl⟩ := List.mem_map.1 h
  exact (pick_b (c := e.1) (n := 6) (by omega)).2

/-- All bookings of a calendar, tool by tool. -/
theorem flat_apart {xss : List (List Bk.El)} (g : CalG xss) (k : Nat) (hk : k ≤ 60) : Apart (xss.take k).flatten ∧ ∀ c, (c ∈ (xss.take k).flatten ↔ 0 ≤ tlB c ∧ tlB c < k ∧ inC xss c) := by
  have hl := g.len
  have e : ∀ j (hj : j < xss.length), xss[j] = getI xss [] j := fun j hj => by simp [getI, List.getD, List.getElem?_eq_getElem hj]
  have hin : ∀ c, c ∈ (xss.take k).flatten ↔ 0 ≤ tlB c ∧ tlB c < k ∧ inC xss c := fun c => by
    rw [List.mem_flatten]
    constructor
    · rintro ⟨l, h1, h2⟩
      obtain ⟨j, hj, rfl⟩ := List.getElem_of_mem h1
      rw [List.length_take] at hj
      rw [List.getElem_take, e j (by omega)] at h2
      have ht := ((g.each j (by omega)).all c h2).2
      refine ⟨by omega, by omega, ?_⟩
      unfold inC toolL
      rw [show (tlB c).toNat = j by omega]
      exact h2
    · rintro ⟨h0, h1, h2⟩
      unfold inC toolL at h2
      refine ⟨_, ?_, h2⟩
      have hj : (tlB c).toNat < xss.length := by omega
      rw [← e _ hj]
      exact List.mem_take_iff_getElem.2 ⟨(tlB c).toNat, by omega, rfl⟩
  refine ⟨⟨fun b hb => ?_, List.pairwise_flatten.2 ⟨fun l hl' => ?_, ?_⟩⟩, hin⟩
  · obtain ⟨h0, h1, h2⟩ := (hin b).1 hb
    exact g.good h2 h0 (by omega)
  · obtain ⟨j, hj, rfl⟩ := List.getElem_of_mem hl'
    rw [List.length_take] at hj
    rw [List.getElem_take, e j (by omega)]
    refine (g.each j (by omega)).ord.imp fun {a b} h1 h2 => ?_
    have := h2.2.2
    omega
  · rw [List.pairwise_iff_getElem]
    intro i j hi hj hij a ha b hb hc
    rw [List.length_take] at hi hj
    rw [List.getElem_take, e i (by omega)] at ha
    rw [List.getElem_take, e j (by omega)] at hb
    have h1 := ((g.each i (by omega)).all a ha).2
    have h2 := ((g.each j (by omega)).all b hb).2
    omega

theorem flat_le (xss : List (List Bk.El)) (k : Nat) : (xss.take k).flatten.length ≤ lenF xss := by
  have := congrArg lenF (List.take_append_drop k xss)
  rw [flat_len]
  unfold lenF at *
  rw [List.map_append, List.sum_append] at this
  omega

def orS : Spec := plain fun
  | [.sl (.pair (.int .i64) (.pair (.int .i64) (.pair (.int .i64) (.int .i64)))) _, .sl (.int .i64) _] => outV True (.bool true)
  | _ => none

def sigOr : List (Nat × Spec) := [(10, saneS), (11, someS), (30, bookedS), (16, pickP), (12, newS), (31, equalS), (14, bookS), (24, listS)]
theorem sigOrOk : SigOk Try.prog (look sigOr) := sigCons (sigCons (sigCons (sigCons (sigCons (sigCons (sigCons (sigCons sigNil
  Try.func24 (by kernel_rfl) (c := body Try.f24) rfl listOk)
  Try.func14 (by kernel_rfl) (c := body Try.f14) rfl bookOk)
  Try.func31 (by kernel_rfl) (c := body Try.f31) rfl equalOk)
  Try.func12 (by kernel_rfl) (c := body Try.f12) rfl newOk)
  Try.func16 (by kernel_rfl) (c := body Try.f16) rfl pickLOk)
  Try.func30 (by kernel_rfl) (c := body Try.f30) rfl bookedOk)
  Try.func11 (by kernel_rfl) (c := body Try.f11) rfl someOk)
  Try.func10 (by kernel_rfl) (c := body Try.f10) rfl saneOk

theorem orOk : SpecSound Try.prog 6 orS := by
  refine soundP (envOf sigOrOk) Try.func6 (c := body Try.f6) rfl (by kernel_rfl) rfl ?_
  intro args out hf hpre
  split at hf <;> try (cases hf; done)
  rename_i x od
  cases hf
  refine ⟨Nat.le_of_ble_eq_true rfl, initI (args := [.sl t4 x, .sl tInt od]) rfl ?_⟩
  refine factSl (t := 1) (ty := tInt) rfl (fun hod => ?_)
  have hmx : od.length ≤ 9223372036854775807 := by have := hod.1; unfold maxLen at this; omega
  have hsl := someF_len x
  obtain ⟨g1, g2, g3⟩ := bookAll_ok (someF x) (by omega)
  have hlen := (bookAll_good (l := someF x) noCal_good).2
  rw [lenF_no] at hlen
  have h6 : ∀ c, 0 ≤ tlB c → inC (bookAll (someF x) noCal) c → tlB c < 6 := fun c h0 h => by
    rcases in_all h0 noCal_good h with h | h
    · exact some_tool h
    · exact absurd h (noCal_in c)
  repeat' (first
    | with_reducible refine pN ?_
    | with_reducible refine cN ?_
    | with_reducible refine bN ?_
    | with_reducible refine cE ?_
    | with_reducible refine cR ?_
    | with_reducible refine bR ?_
    | with_reducible refine lE ?_
    | with_reducible refine lR ?_
    | with_reducible refine jE ?_
    | with_reducible refine jR ?_
    | refine bE rfl ?_
    | refine bP rfl ?_
    | refine pC (by first | exact True.intro | omega | (intros; first | exact True.intro | omega) | (simp only [List.length_cons, List.length_nil, Int.toNat_natCast]; omega)) ?_
    | refine seqI rfl ?_
    | refine regI rfl ?_
    | refine scopeI rfl ?_
    | refine blockI rfl ?_
    | refine exitI rfl ?_
    | refine retI rfl ?_
    | refine skipI rfl ?_)
  generalize bookAll (someF x) noCal = xss at *
  obtain ⟨hA, hin⟩ := flat_apart g1 6 (by omega)
  refine loopI (σ := Nat) (fun t => [(7, .own 7000), (8, .int .i64 t)]) (fun t => [(7000, .seq Bk (xss.take t).flatten)]) (fun t => t ≤ 6) (fun t => 6 - t) 0 rfl (fun _ => rfl) rfl ?_ ?_ ?_
  · exact Nat.zero_le _
  · repeat' (first | exact trivial | exact rfl | refine ⟨rfl, ?_⟩ | refine And.intro ?_ ?_)
  · intro t ht
    have hfl := flat_le xss t
    have hfl1 := flat_le xss (t + 1)
    repeat' (first
      | with_reducible refine pN ?_
      | with_reducible refine cN ?_
      | with_reducible refine bN ?_
      | with_reducible refine cE ?_
      | with_reducible refine cR ?_
      | with_reducible refine bR ?_
      | with_reducible refine lE ?_
      | with_reducible refine lR ?_
      | with_reducible refine jE ?_
      | with_reducible refine jR ?_
      | refine bE rfl ?_
      | refine bP rfl ?_
      | refine pC (by first | exact True.intro | omega | (intros; first | exact True.intro | omega) | (simp only [List.length_cons, List.length_nil, Int.toNat_natCast]; omega)) ?_
      | refine seqI rfl ?_
      | refine regI rfl ?_
      | refine scopeI rfl ?_
      | refine blockI rfl ?_
      | refine exitI rfl ?_
      | refine retI rfl ?_
      | refine skipI rfl ?_)
    refine condI rfl (fun c1 => ?_) (fun c1 => ?_)
    · simp only [decide_eq_true_eq] at c1
      have e1 : listF xss (t : Int) = getI xss [] t := listF_get (by omega)
      have e2 := flat_take_succ (xss := xss) (i := t) (by rw [g1.len]; omega)
      rw [e2, List.length_append] at hfl1
      repeat' (first
        | with_reducible refine pN ?_
        | with_reducible refine cN ?_
        | with_reducible refine bN ?_
        | with_reducible refine cE ?_
        | with_reducible refine cR ?_
        | with_reducible refine bR ?_
        | with_reducible refine lE ?_
        | with_reducible refine lR ?_
        | with_reducible refine jE ?_
        | with_reducible refine jR ?_
        | refine bE rfl ?_
        | refine bP rfl ?_
        | refine pC (by first | exact True.intro | omega | (intros; first | exact True.intro | omega) | (simp only [List.length_cons, List.length_nil, Int.toNat_natCast]; omega) | first | exact g2 | (simp only [e1]; omega)) ?_
        | refine seqI rfl ?_
        | refine regI rfl ?_
        | refine scopeI rfl ?_
        | refine blockI rfl ?_
        | refine exitI rfl ?_
        | refine retI rfl ?_
        | refine skipI rfl ?_)
      refine roundI (t + 1) rfl ?_ ?_ ?_
      · show t + 1 ≤ 6
        omega
      · show 6 - (t + 1) < 6 - t
        omega
      · repeat' (first | exact trivial | with_reducible exact rfl | refine And.intro ?_ ?_)
        · rfl
        · rw [e2, e1]
    · simp only [decide_eq_false_iff_not] at c1
      have ht6 : t = 6 := by omega
      subst ht6
      repeat' (first
        | with_reducible refine pN ?_
        | with_reducible refine cN ?_
        | with_reducible refine bN ?_
        | with_reducible refine cE ?_
        | with_reducible refine cR ?_
        | with_reducible refine bR ?_
        | with_reducible refine lE ?_
        | with_reducible refine lR ?_
        | with_reducible refine jE ?_
        | with_reducible refine jR ?_
        | refine bE rfl ?_
        | refine bP rfl ?_
        | refine pC (by first | exact True.intro | omega | (intros; first | exact True.intro | omega) | (simp only [List.length_cons, List.length_nil, Int.toNat_natCast]; omega)) ?_
        | refine seqI rfl ?_
        | refine regI rfl ?_
        | refine scopeI rfl ?_
        | refine blockI rfl ?_
        | refine exitI rfl ?_
        | refine retI rfl ?_
        | refine skipI rfl ?_)
      generalize (xss.take 6).flatten = L at *
      have hL : L.length ≤ 40 := by omega
      refine loopI (σ := (Nat × List Bk.El)) (fun s => [(7, .own 7000), (9, .int .i64 s.1)]) (fun s => [(7000, .seq Bk s.2)]) (fun s => s.1 ≤ 60 ∧ s.2.Perm L) (fun s => 60 - s.1) (0, L) rfl (fun _ => rfl) rfl ?_ ?_ ?_
      · exact ⟨Nat.zero_le _, List.Perm.refl _⟩
      · repeat' (first | exact trivial | exact rfl | refine ⟨rfl, ?_⟩ | refine And.intro ?_ ?_)
      · rintro ⟨i, m⟩ ⟨hi, hp⟩
        dsimp only at hi hp ⊢
        have hmL := hp.length_eq
        repeat' (first
          | with_reducible refine pN ?_
          | with_reducible refine cN ?_
          | with_reducible refine bN ?_
          | with_reducible refine cE ?_
          | with_reducible refine cR ?_
          | with_reducible refine bR ?_
          | with_reducible refine lE ?_
          | with_reducible refine lR ?_
          | with_reducible refine jE ?_
          | with_reducible refine jR ?_
          | refine bE rfl ?_
          | refine bP rfl ?_
          | refine pC (by first | exact True.intro | omega | (intros; first | exact True.intro | omega) | (simp only [List.length_cons, List.length_nil, Int.toNat_natCast]; omega)) ?_
          | refine seqI rfl ?_
          | refine regI rfl ?_
          | refine scopeI rfl ?_
          | refine blockI rfl ?_
          | refine exitI rfl ?_
          | refine retI rfl ?_
          | refine skipI rfl ?_)
        refine condI rfl (fun c2 => ?_) (fun c2 => ?_)
        · simp only [Bool.and_eq_true, decide_eq_true_eq] at c2
          obtain ⟨⟨c2, c3⟩, c4⟩ := c2
          have q1 := fun c : Int => pick_b (c := c) (n := m.length) (by omega)
          have hin' : ((i : Int)).toNat = i := by omega
          have r1 := q1 (getI od tInt.dflt ((i : Int)).toNat)
          have r2 := q1 ((getI od tInt.dflt ((i : Int)).toNat).tdiv 40)
          repeat' (first | with_reducible refine cN ?_ | refine skipI rfl ?_ | refine scopeI rfl ?_ | refine seqI rfl ?_ | refine blockI rfl ?_)
          refine regI rfl ?_
          repeat' (first | with_reducible refine pN ?_ | refine pC (by first | omega | (simp only [hin']; omega)) ?_)
          with_reducible refine cN ?_
          refine seqI rfl ?_
          refine regI rfl ?_
          repeat' (first | with_reducible refine pN ?_ | refine pC (by first | exact True.intro | omega | (intros; first | exact True.intro | omega) | (simp only [List.length_cons, List.length_nil, Int.toNat_natCast]; omega)) ?_)
          with_reducible refine cN ?_
          generalize pickF (getI od tInt.dflt ((i : Int)).toNat) m.length = a at *
          generalize pickF ((getI od tInt.dflt ((i : Int)).toNat).tdiv 40) m.length = b at *
          have ha : a.toNat < m.length := by omega
          have hb : b.toNat < m.length := by omega
          repeat' (first
            | with_reducible refine pN ?_
            | with_reducible refine cN ?_
            | with_reducible refine bN ?_
            | with_reducible refine cE ?_
            | with_reducible refine cR ?_
            | with_reducible refine bR ?_
            | with_reducible refine lE ?_
            | with_reducible refine lR ?_
            | with_reducible refine jE ?_
            | with_reducible refine jR ?_
            | refine bE rfl ?_
            | refine bP rfl ?_
            | refine pC (by first | exact True.intro | omega | (intros; first | exact True.intro | omega) | (simp only [List.length_cons, List.length_nil, Int.toNat_natCast]; omega) | (simp only [List.length_set]; omega)) ?_
            | refine seqI rfl ?_
            | refine regI rfl ?_
            | refine scopeI rfl ?_
            | refine blockI rfl ?_
            | refine exitI rfl ?_
            | refine retI rfl ?_
            | refine skipI rfl ?_)
          refine roundI (i + 1, (m.set a.toNat (getI m Bk.dflt b.toNat)).set b.toNat (getI m Bk.dflt a.toNat)) rfl ?_ ?_ ?_
          · refine ⟨by show i + 1 ≤ 60; omega, List.Perm.trans ?_ hp⟩
            have ea : getI m Bk.dflt a.toNat = m[a.toNat] := by simp [getI, List.getD, List.getElem?_eq_getElem ha]
            have eb : getI m Bk.dflt b.toNat = m[b.toNat] := by simp [getI, List.getD, List.getElem?_eq_getElem hb]
            rw [ea, eb]
            exact List.set_set_perm ha hb
          · show 60 - (i + 1) < 60 - i
            omega
          · repeat' (first | exact trivial | with_reducible exact rfl | refine And.intro ?_ ?_)
            · rfl
        · have hA' := hA.perm hp
          repeat' (first
            | with_reducible refine pN ?_
            | with_reducible refine cN ?_
            | with_reducible refine bN ?_
            | with_reducible refine cE ?_
            | with_reducible refine cR ?_
            | with_reducible refine bR ?_
            | with_reducible refine lE ?_
            | with_reducible refine lR ?_
            | with_reducible refine jE ?_
            | with_reducible refine jR ?_
            | refine bE rfl ?_
            | refine bP rfl ?_
            | refine pC (by first | exact True.intro | omega | (intros; first | exact True.intro | omega) | (simp only [List.length_cons, List.length_nil, Int.toNat_natCast]; omega)) ?_
            | refine seqI rfl ?_
            | refine regI rfl ?_
            | refine scopeI rfl ?_
            | refine blockI rfl ?_
            | refine exitI rfl ?_
            | refine retI rfl ?_
            | refine skipI rfl ?_)
          refine loopI (σ := Nat) (fun j => [(12, .ptr 12000 0), (13, .int .i64 j)]) (fun j => [(12000, .arr Bk (bookAll (m.take j) noCal) none)]) (fun j => j ≤ m.length ∧ Kept (bookAll (m.take j) noCal) (m.take j)) (fun j => m.length - j) 0 rfl (fun _ => rfl) rfl ?_ ?_ ?_
          · exact ⟨Nat.zero_le _, kept_no⟩
          · repeat' (first | exact trivial | exact rfl | refine ⟨rfl, ?_⟩ | refine And.intro ?_ ?_)
          · rintro j ⟨hj, hk⟩
            obtain ⟨k1, k2, k3⟩ := bookAll_ok (m.take j) (by rw [List.length_take]; omega)
            repeat' (first
              | with_reducible refine pN ?_
              | with_reducible refine cN ?_
              | with_reducible refine bN ?_
              | with_reducible refine cE ?_
              | with_reducible refine cR ?_
              | with_reducible refine bR ?_
              | with_reducible refine lE ?_
              | with_reducible refine lR ?_
              | with_reducible refine jE ?_
              | with_reducible refine jR ?_
              | refine bE rfl ?_
              | refine bP rfl ?_
              | refine pC (by first | exact True.intro | omega | (intros; first | exact True.intro | omega) | (simp only [List.length_cons, List.length_nil, Int.toNat_natCast]; omega)) ?_
              | refine seqI rfl ?_
              | refine regI rfl ?_
              | refine scopeI rfl ?_
              | refine blockI rfl ?_
              | refine exitI rfl ?_
              | refine retI rfl ?_
              | refine skipI rfl ?_)
            refine condI rfl (fun c3 => ?_) (fun c3 => ?_)
            · simp only [decide_eq_true_eq] at c3
              have hjn : ((j : Int)).toNat = j := by omega
              have hjm : j < m.length := by omega
              have hF := hA'.next hjm k1 hk
              repeat' (first
                | with_reducible refine pN ?_
                | with_reducible refine cN ?_
                | with_reducible refine bN ?_
                | with_reducible refine cE ?_
                | with_reducible refine cR ?_
                | with_reducible refine bR ?_
                | with_reducible refine lE ?_
                | with_reducible refine lR ?_
                | with_reducible refine jE ?_
                | with_reducible refine jR ?_
                | refine bE rfl ?_
                | refine bP rfl ?_
                | refine pC (by first | exact True.intro | omega | (intros; first | exact True.intro | omega) | (simp only [List.length_cons, List.length_nil, Int.toNat_natCast]; omega) | exact ⟨k2, k3⟩) ?_
                | refine seqI rfl ?_
                | refine regI rfl ?_
                | refine scopeI rfl ?_
                | refine blockI rfl ?_
                | refine exitI rfl ?_
                | refine retI rfl ?_
                | refine skipI rfl ?_)
              refine condI rfl (fun c4 => ?_) (fun c4 => ?_)
              · exfalso
                have c4' : decide (errF (bookAll (m.take j) noCal) (getI m Bk.dflt ((j : Int)).toNat) ≠ 0) = true := c4
                rw [hjn] at c4'
                unfold errF at c4'
                rw [if_pos hF] at c4'
                simp at c4'
              · repeat' (first
                  | with_reducible refine pN ?_
                  | with_reducible refine cN ?_
                  | with_reducible refine bN ?_
                  | with_reducible refine cE ?_
                  | with_reducible refine cR ?_
                  | with_reducible refine bR ?_
                  | with_reducible refine lE ?_
                  | with_reducible refine lR ?_
                  | with_reducible refine jE ?_
                  | with_reducible refine jR ?_
                  | refine bE rfl ?_
                  | refine bP rfl ?_
                  | refine pC (by first | exact True.intro | omega | (intros; first | exact True.intro | omega) | (simp only [List.length_cons, List.length_nil, Int.toNat_natCast]; omega)) ?_
                  | refine seqI rfl ?_
                  | refine regI rfl ?_
                  | refine scopeI rfl ?_
                  | refine blockI rfl ?_
                  | refine exitI rfl ?_
                  | refine retI rfl ?_
                  | refine skipI rfl ?_)
                refine roundI (j + 1) rfl ?_ ?_ ?_
                · refine ⟨by omega, ?_⟩
                  rw [bookAll_take hjm, take_succ_getI (d := Bk.dflt) hjm]
                  exact hk.yes k1 hF
                · show m.length - (j + 1) < m.length - j
                  omega
                · repeat' (first | exact trivial | with_reducible exact rfl | refine And.intro ?_ ?_)
                  · rfl
                  · rw [bookAll_take hjm, hjn]
            · simp only [decide_eq_false_iff_not] at c3
              rw [List.take_of_length_le (i := j) (by omega)] at hk k1 k2 k3 ⊢
              have hxy : xss = bookAll m noCal := cal_uniq g1 k1 fun c h0 _ => by
                rw [hk.mem c h0, hp.mem_iff, hin]
                constructor
                · exact fun h => ⟨h0, by have := h6 c h0 h; omega, h⟩
                · exact fun h => h.2.2
              repeat' (first
                | with_reducible refine pN ?_
                | with_reducible refine cN ?_
                | with_reducible refine bN ?_
                | with_reducible refine cE ?_
                | with_reducible refine cR ?_
                | with_reducible refine bR ?_
                | with_reducible refine lE ?_
                | with_reducible refine lR ?_
                | with_reducible refine jE ?_
                | with_reducible refine jR ?_
                | refine bE rfl ?_
                | refine bP rfl ?_
                | refine pC (by first | exact True.intro | omega | (intros; first | exact True.intro | omega) | (simp only [List.length_cons, List.length_nil, Int.toNat_natCast]; omega) | exact fun _ => ⟨g2, k2⟩) ?_
                | refine seqI rfl ?_
                | refine regI rfl ?_
                | refine scopeI rfl ?_
                | refine blockI rfl ?_
                | refine exitI rfl ?_
                | refine retI rfl ?_
                | refine skipI rfl ?_)
              refine endR rfl ?_
              repeat' (first | exact trivial | exact rfl | refine ⟨rfl, ?_⟩ | refine And.intro ?_ ?_)
              rw [eqC_iff.2 hxy]
              rfl
end Go.AM.Ytibjkdbmlmmcjaa
