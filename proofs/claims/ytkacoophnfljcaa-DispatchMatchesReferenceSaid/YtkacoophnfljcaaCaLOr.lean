/- The law CalendarOrder: her function. -/
import Derived.Test.YtkacoophnfljcaaCaLEx
import Derived.Test.YtkacoophnfljcaaCaLFi
set_option linter.all false
namespace Go.AM.Ytkacoophnfljcaa
open Go.Proofs
set_option maxRecDepth 100000
set_option maxHeartbeats 8000000

/-- Bookings that can be made together, in any order. -/
structure Apart (m : List Bk.El) : Prop where
  good : ∀ b ∈ m, GoodB b
  pw : m.Pairwise fun a b => ¬ (tlB a = tlB b ∧ meet a b)

theorem Apart.perm {m l : List Bk.El} (h : Apart m) (p : l.Perm m) : Apart l := ⟨fun b hb => h.good b (p.mem_iff.1 hb), (p.pairwise_iff fun {a b} h k => h ⟨k.1.symm, k.2.2, k.2.1⟩).2 h.pw⟩

theorem getI_mem {m : List Bk.El} {i : Nat} (h : i < m.length) : getI m Bk.dflt i ∈ m := by
  have : getI m Bk.dflt i = m[i] := by simp [getI, List.getD, List.getElem?_eq_getElem h]
  rw [this]; exact List.getElem_mem h

/-- The next one of them can be made. -/
theorem Apart.next {m : List Bk.El} (h : Apart m) {i : Nat} (hi : i < m.length) {xss : List (List Bk.El)} (g : CalG xss) (hk : Kept xss (m.take i)) : freeF xss (getI m Bk.dflt i) = true := by
  rw [hk.free g, Bool.and_eq_true]
  refine ⟨?_, (validB_iff _).2 (h.good _ (getI_mem hi))⟩
  rw [Bool.not_eq_true', List.any_eq_false]
  intro c hc hcl
  obtain ⟨h1, h2⟩ := clash_iff.1 hcl
  obtain ⟨j, hj, rfl⟩ := List.getElem_of_mem hc
  rw [List.length_take] at hj
  have := List.pairwise_iff_getElem.1 h.pw j i (by omega) hi (by omega)
  rw [List.getElem_take] at h1 h2
  have e : getI m Bk.dflt i = m[i] := by simp [getI, List.getD, List.getElem?_eq_getElem hi]
  rw [e] at h1 h2
  exact this ⟨h1, h2⟩

theorem some_tool {x : List t4.El} {b : Bk.El} (h : b ∈ someF x) : tlB b < 6 := by
  unfold someF at h
  obtain ⟨e, _, rfl⟩ := List.mem_map.1 h
  exact (pick_b (c := e.1) (n := 6) (by omega)).2

/-- All bookings of a calendar, tool by tool. -/
theorem flat_apart {xss : List (List Bk.El)} (g : CalG xss) (k : Nat) (hk : k ≤ 60) : Apart (xss.take k).flatten ∧ ∀ c, (c ∈ (xss.take k).flatten ↔ 0 ≤ tlB c ∧ tlB c < k ∧ inC xss c) := by
  have hl := g.len
  have e : ∀ j (hj : j < xss.length), xss[j] = getI xss [] j := fun j hj => by simp [getI, List.getD, List.getElem?_eq_getElem hj]
  have hin : ∀ c, c ∈ (xss.take k).flatten ↔ 0 ≤ tlB c ∧ tlB c < k ∧ inC xss c := fun c => by
    rw [List.mem_flatten]
    constructor
    · rintro ⟨l, h1, h2⟩
      obtain ⟨j, hj, rfl⟩ := List.getElem_of_mem h1
      rw [List.length_take] at hj
      rw [List.getElem_take, e j (by omega)] at h2
      have ht := ((g.each j (by omega)).all c h2).2
      refine ⟨by omega, by omega, ?_⟩
      unfold inC toolL
      rw [show (tlB c).toNat = j by omega]
      exact h2
    · rintro ⟨h0, h1, h2⟩
      unfold inC toolL at h2
      refine ⟨_, ?_, h2⟩
      have hj : (tlB c).toNat < xss.length := by omega
      rw [← e _ hj]
      exact List.mem_take_iff_getElem.2 ⟨(tlB c).toNat, by omega, rfl⟩
  refine ⟨⟨fun b hb => ?_, List.pairwise_flatten.2 ⟨fun l hl' => ?_, ?_⟩⟩, hin⟩
  · obtain ⟨h0, h1, h2⟩ := (hin b).1 hb
    exact g.good h2 h0 (by omega)
  · obtain ⟨j, hj, rfl⟩ := List.getElem_of_mem hl'
    rw [List.length_take] at hj
    rw [List.getElem_take, e j (by omega)]
    refine (g.each j (by omega)).ord.imp fun {a b} h1 h2 => ?_
    have := h2.2.2
    omega
  · rw [List.pairwise_iff_getElem]
    intro i j hi hj hij a ha b hb hc
    rw [List.length_take] at hi hj
    rw [List.getElem_take, e i (by omega)] at ha
    rw [List.getElem_take, e j (by omega)] at hb
    have h1 := ((g.each i (by omega)).all a ha).2
    have h2 := ((g.each j (by omega)).all b hb).2
    omega

theorem flat_le (xss : List (List Bk.El)) (k : Nat) : (xss.take k).flatten.length ≤ lenF xss := by
  have := congrArg lenF (List.take_append_drop k xss)
  rw [flat_len]
  unfold lenF at *
  rw [List.map_append, List.sum_append] at this
  omega

def orS : Spec := plain fun
  | [.sl (.pair (.int .i64) (.pair (.int .i64) (.pair (.int .i64) (.int .i64)))) _, .sl (.int .i64) _] => outV True (.bool true)
  | _ => none

end Go.AM.Ytkacoophnfljcaa
