/- The law CalendarFirst: her function. -/
import Derived.Test.YtkacoophnfljcaaCaU
set_option linter.all false
namespace Go.AM.Ytkacoophnfljcaa
open Go.Proofs
set_option maxRecDepth 100000
set_option maxHeartbeats 8000000

theorem tool_inC {xss : List (List Bk.El)} (g : CalG xss) {t : Int} (h0 : 0 ≤ t) (h1 : t < 60) {c : Bk.El} (hc : c ∈ toolL xss t) : tlB c = t ∧ GoodB c ∧ inC xss c := by
  obtain ⟨h2, h3⟩ := (g.tool h0 h1).all c hc
  have e : tlB c = t := by omega
  exact ⟨e, h2, by unfold inC; rw [e]; exact hc⟩

theorem in_all {c : Bk.El} (hc : 0 ≤ tlB c) : ∀ {l : List Bk.El} {xss : List (List Bk.El)}, CalG xss → inC (bookAll l xss) c → c ∈ l ∨ inC xss c
  | [], xss, _, h => .inr h
  | b :: l, xss, g, h => by
    have h : inC (bookAll l (bookF xss b)) c := h
    rcases in_all hc (l := l) (book_good g b).1 h with h | h
    · exact .inl (List.mem_cons_of_mem _ h)
    · cases hf : freeF xss b
      · rw [book_no hf] at h; exact .inr h
      · rcases ((book_yes g hf).2.1 c hc).1 h with rfl | h
        · exact .inl (by simp)
        · exact .inr h

theorem noCal_in (c : Bk.El) : ¬ inC noCal c := by
  unfold inC toolL
  have : getI noCal [] (tlB c).toNat = [] := by
    unfold getI noCal
    rw [List.getD_eq_getElem?_getD, List.getElem?_replicate]
    split <;> rfl
  rw [this]; simp

theorem some_end {x : List t4.El} {b : Bk.El} (h : b ∈ someF x) : enB b ≤ 339 := by
  unfold someF at h
  obtain ⟨e, _, rfl⟩ := List.mem_map.1 h
  have h1 := pick_b (c := e.2.1) (n := 300) (by omega)
  have h2 := pick_b (c := e.2.2.1) (n := 40) (by omega)
  show pickF e.2.1 300 + 1 + pickF e.2.2.1 40 ≤ 339
  omega

theorem some_late {x : List t4.El} {t : Int} (h0 : 0 ≤ t) (h1 : t < 60) {c : Bk.El} (g : CalG (bookAll (someF x) noCal)) (hc : c ∈ toolL (bookAll (someF x) noCal) t) : enB c ≤ 339 := by
  obtain ⟨h2, h3, h4⟩ := tool_inC g h0 h1 hc
  rcases in_all h3.t0 noCal_good h4 with h | h
  · exact some_end h
  · exact absurd h (noCal_in c)

theorem first_eq {xss : List (List Bk.El)} {t f n : Int} (h0 : 0 ≤ t) (h1 : t < 60) (hf : 0 ≤ f) (hn : 1 ≤ n) : firstF xss t f n = firstG (gapsL (toolL xss t) f) n := by
  unfold firstF
  rw [if_pos ⟨toolB_of h0 h1, hn⟩, Int.max_eq_left hf]

def fiS : Spec := plain fun
  | [.sl (.pair (.int .i64) (.pair (.int .i64) (.pair (.int .i64) (.int .i64)))) _, .int .i64 _, .int .i64 _, .int .i64 _, .bool _] => outV True (.bool true)
  | _ => none

end Go.AM.Ytkacoophnfljcaa
