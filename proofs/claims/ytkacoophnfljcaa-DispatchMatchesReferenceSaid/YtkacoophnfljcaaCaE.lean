/- The calendar: Free, Clone. -/
import Derived.Test.YtkacoophnfljcaaCaC
set_option linter.all false
namespace Go.AM.Ytkacoophnfljcaa
open Go.Proofs
set_option maxRecDepth 100000
set_option maxHeartbeats 4000000

/-! ### DeleteFunc -/

theorem idxF_cases {α : Type} {p : α → Bool} {d : α} : ∀ {xs : List α}, (idxF p xs = -1 ∧ ∀ x ∈ xs, p x = false) ∨ (∃ i : Nat, idxF p xs = i ∧ i < xs.length ∧ (∀ x ∈ xs.take i, p x = false) ∧ p (getI xs d i) = true)
  | [] => .inl ⟨rfl, by simp⟩
  | x :: xs => by
    by_cases hx : p x = true
    · exact .inr ⟨0, by simp [idxF, hx], by simp, by simp, hx⟩
    · have hx : p x = false := by simpa using hx
      rcases idxF_cases (p := p) (d := d) (xs := xs) with ⟨h1, h2⟩ | ⟨i, h1, h2, h3, h4⟩
      · refine .inl ⟨by simp [idxF, hx, h1], fun y hy => ?_⟩
        rcases List.mem_cons.1 hy with rfl | hy
        · exact hx
        · exact h2 y hy
      · refine .inr ⟨i + 1, ?_, by simp; omega, fun y hy => ?_, h4⟩
        · simp only [idxF, hx, h1]
          simp
          omega
        · rw [List.take_succ_cons] at hy
          rcases List.mem_cons.1 hy with rfl | hy
          · exact hx
          · exact h3 y hy

/-- All bookings but an owner's. -/
def delF (xs : List Bk.El) (o : Int) : List Bk.El := xs.filter fun b => !ownsB o b

theorem take_set_succ {α : Type} {d : α} {L : List α} {i : Nat} {v : α} (h : i < L.length) : (L.set i v).take (i + 1) = L.take i ++ [v] := by
  rw [List.take_succ_eq_append_getElem (by simpa using h), List.take_set_of_le (by omega)]
  simp

/-! ### Free -/

def freedF (xss : List (List Bk.El)) (o : Int) : List (List Bk.El) := xss.map fun xs => delF xs o

theorem delF_len (xs : List Bk.El) (o : Int) : (delF xs o).length ≤ xs.length := List.length_filter_le _ _
theorem freed_ok {xss : List (List Bk.El)} (h : Cal xss) (o : Int) : Cal (freedF xss o) := ⟨by unfold freedF; rw [List.length_map]; exact h.len, fun xs hx => by
  unfold freedF at hx
  obtain ⟨ys, hy, rfl⟩ := List.mem_map.1 hx
  exact Nat.le_trans (delF_len ys o) (h.small ys hy)⟩

def freeS : Spec := ⟨true, fun args rows => match args, rows with
  | [.nilptr, .int .i64 o], [] => some ⟨True, .int .i64 0, [], true⟩
  | [.ptr 0 0, .int .i64 o], [.arr (.pair (.int .i64) (.pair (.int .i64) (.pair (.int .i64) (.int .i64)))) xss none] => some ⟨Cal xss, .int .i64 (lenF xss - lenF (freedF xss o)), [.arr Bk (freedF xss o) none], true⟩
  | _, _ => none⟩

theorem map_take_set {f : List Bk.El → List Bk.El} {xss : List (List Bk.El)} {i : Nat} (h : i < xss.length) : ((xss.take i).map f ++ xss.drop i).set i (f (getI xss [] i)) = (xss.take (i + 1)).map f ++ xss.drop (i + 1) := by
  have h1 : ((xss.take i).map f).length = i := by simp; omega
  rw [take_succ_getI (d := []) h, List.map_append, List.set_append_right _ _ (by omega), h1, Nat.sub_self, List.drop_eq_getElem_cons h, List.set_cons_zero]
  simp only [List.map_cons, List.map_nil, List.append_assoc, List.singleton_append]

theorem map_take_get {f : List Bk.El → List Bk.El} {xss : List (List Bk.El)} {i : Nat} (h : i < xss.length) : getI ((xss.take i).map f ++ xss.drop i) [] i = getI xss [] i := by
  have h1 : ((xss.take i).map f).length = i := by simp; omega
  unfold getI
  rw [List.getD_eq_getElem?_getD, List.getD_eq_getElem?_getD, List.getElem?_append_right (by omega), h1, Nat.sub_self, List.getElem?_drop, Nat.add_zero]

/-! ### Clone -/

theorem take_drop_set {xss yss : List (List Bk.El)} {i : Nat} (h : i < xss.length) (k : i < yss.length) : (xss.take i ++ yss.drop i).set i (getI xss [] i) = xss.take (i + 1) ++ yss.drop (i + 1) := by
  have h1 : (xss.take i).length = i := by rw [List.length_take]; omega
  rw [take_succ_getI (d := []) h, List.set_append_right _ _ (by omega), h1, Nat.sub_self, List.drop_eq_getElem_cons k, List.set_cons_zero]
  simp only [List.append_assoc, List.singleton_append]

def sigCl : List (Nat × Spec) := [(35, newS), (65, cloneS)]
theorem sigClOk : SigOk Try.prog (look sigCl) := sigCons (sigCons sigNil Try.func65 (by kernel_rfl) (c := body Try.f65) rfl cloneOk)
  Try.func35 (by kernel_rfl) (c := body Try.f35) rfl newOk

def calCloneS : Spec := plain fun
  | [.nilptr] => outV True .nilptr
  | [.ext (.cref (.pair (.int .i64) (.pair (.int .i64) (.pair (.int .i64) (.int .i64)))) xss 0)] => some ⟨Cal xss, .ptr 0 0, [.arr Bk xss none], false⟩
  | _ => none

end Go.AM.Ytkacoophnfljcaa
