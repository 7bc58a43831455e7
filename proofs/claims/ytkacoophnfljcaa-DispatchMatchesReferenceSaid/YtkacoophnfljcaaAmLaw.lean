/- Law: from a contract to what a given row asks. -/
import Derived.Test.YtkacoophnfljcaaAmOpen
set_option linter.all false
namespace Go.AM
open Go.RowKit

theorem law_walk {P : Program} {f : Nat} {s : Spec} (hs : SpecSound P f s) {args : List AV} {vals : List Value} {W : World} {out : Out} (hf : s.f args [] = some out) (hpre : out.pre) (hret : out.ret = .bool true)
    (hargs : RelL (fun _ => ⟨0, .slice none 0 0⟩) (locK []) (fun b => b < W.heap.size) W args vals) : Calls P f vals.toArray W fun e w' => e = .returned (.bool true) ∧ Below W.heap.size W w' := by
  refine (hs args [] out hf hpre (fun _ => rfl) W (fun _ => ⟨0, .slice none 0 0⟩) (fun b => b < W.heap.size) vals (fun _ h => h) (fun i o h => by simp at h) (fun i o b h => by simp at h) (fun i j o o' b h => by simp at h) hargs).mono ?_
  rintro e w' ⟨v, g', R', rfl, hh, _, _, hv, _⟩
  rw [hret] at hv
  cases hv
  exact ⟨rfl, hh.os, hh.tape, hh.output, hh.hsize, fun k hk => hh.frame k hk (fun ⟨i, o, h, _⟩ => by simp at h)⟩

theorem sl_len {g : Nat → Gh} {K R : Nat → Prop} {w : World} {t : Ty} {xs : List t.El} {v : Value} (h : RelV g K R w (.sl t xs) v) : xs.length ≤ maxLen := by
  cases h with
  | sl h => obtain ⟨_, _, _, _, _, h, _⟩ := h; exact h

theorem int_wrap {g : Nat → Gh} {K R : Nat → Prop} {w : World} {k : IntKind} {n : Int} {v : Value} (h : RelV g K R w (.int k n) v) : k.wrap n = n := by
  cases h with
  | int h => exact h
end Go.AM
