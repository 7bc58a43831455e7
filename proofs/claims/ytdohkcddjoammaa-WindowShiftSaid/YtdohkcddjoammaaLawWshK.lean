/- Proved here: the statement Rows.WindowShiftSaid (the law WindowShift returns true for every input, and leaves its arguments as they were); under no further condition. -/
import Derived.Test.YtdohkcddjoammaaRows
import Derived.Test.YtdohkcddjoammaaWnLShK
import Derived.WalkKit
import Derived.ProofKit
import Derived.OpenShut
import Derived.ShutString
import Derived.ChangeOld
import Derived.Below
namespace Go.Proofs.Ytdohkcddjoammaa.windowShift
open Go.ChangeShapes Go.WideShapes Go.ChangeAt Go.RowKit Go.AM Go.AM.Ytdohkcddjoammaa
set_option linter.all false
theorem own : ownKnob Try.prog.godebug = none := by kernel_rfl
theorem laidOut : laidOutB Try.prog = true := by kernel_rfl
theorem data0 : dataOk Try.prog 20 25 (.pair (.slice Fl.tS6) (.pair (.slice Fl.tS3) (.pair (.slice Fl.tS3) (.pair (.int .i64) (.pair (.int .i64) (.int .i64)))))) = true := by kernel_rfl
theorem agg0 : isAggOf Try.prog 25 = true := by kernel_rfl
theorem data1 : dataOk Try.prog 20 3 (.int .i64) = true := by kernel_rfl
theorem agg1 : isAggOf Try.prog 3 = false := by kernel_rfl
set_option maxRecDepth 100000 in
theorem lifted (os : Os) (started : os.Started) (H : Type) (enc : TypeId × Value → H) :
    ReturnsInHanded {} Try.checked os 3 .any (Rows.windowShiftSpec.pre6 enc Try.prog Try.f3 Rows.windowShiftRow.domain false) (Rows.windowShiftSpec.post enc Try.prog Try.f3 false true false false) := by
  refine returnsInHanded_of_change (C := Try.checked) own started (by kernel_rfl) Try.func3
    (ChangeSpec.witness6 (enc := enc) (C := Try.checked) false ⟨#[], #[.agg #[.slice none 0 0, .slice none 0 0, .slice none 0 0, .int .i64 0, .int .i64 0, .int .i64 0], .int .i64 0], []⟩ 8 (by kernel_rfl) (by kernel_rfl) (by kernel_rfl) (by kernel_rfl)) ?_
  intro W base args ds gs before hval0 hW hcnd _
  have hval : ∀ (j : Nat) t v, Try.f3.params[j]? = some t → args[j]? = some v → Value.okWide Try.prog W .any base t v := hval0
  have hW' := hW
  obtain ⟨p, q, hA0, hV, rfl, hfz, hnd⟩ := hW
  have hA : DataW.TrodAll enc Try.prog W 0 (fun _ => true) true Try.f3.params.toList args.toList ds p := hA0
  rw [Try.params3] at hA hval
  obtain ⟨v0, vs0, d0, ds0, p0, q0, hargs, rfl, rfl, h0, r0⟩ := trodAll_cons hA
  obtain ⟨v1, vs1, d1, ds1, p1, q1, rfl, rfl, rfl, h1, r1⟩ := trodAll_cons r0
  obtain ⟨rfl, rfl, rfl⟩ := trodAll_nil r1
  obtain rfl : args = #[v0, v1] := by cases args; simp_all
  obtain ⟨rfl, rfl⟩ := trodVars_none hV
  have lt0 : ∀ x ∈ p0, x.block < W.heap.size := by obtain ⟨m, hm⟩ := h0; exact DataW.trod_lt m _ _ _ hm
  obtain ⟨e0, w0⟩ := arg_rel (g := (fun _ => ⟨0, .slice none 0 0⟩)) (K := locK []) (hval 0 25 v0 rfl rfl) h0 data0 agg0
  have lt1 : ∀ x ∈ p1, x.block < W.heap.size := by obtain ⟨m, hm⟩ := h1; exact DataW.trod_lt m _ _ _ hm
  obtain ⟨e1, w1⟩ := arg_rel (g := (fun _ => ⟨0, .slice none 0 0⟩)) (K := locK []) (hval 1 3 v1 rfl rfl) h1 data1 agg1
  clear hA0 hval0
  obtain ⟨out, hf, hpre, hret⟩ : ∃ out, (Fl.shiftS).f [argOf true (.pair (.slice Fl.tS6) (.pair (.slice Fl.tS3) (.pair (.slice Fl.tS3) (.pair (.int .i64) (.pair (.int .i64) (.int .i64)))))) e0, argOf false (.int .i64) e1] [] = some out ∧ out.pre ∧ out.ret = .bool true := ⟨_, rfl, trivial, rfl⟩
  refine (law_walk Fl.shiftOk hf hpre hret (vals := [v0, v1]) (.cons w0 (.cons w1 .nil))).mono fun e W' ⟨he, bel⟩ => ?_
  subst he
  exact ⟨_, rfl, _, _, _, [], _, [], hW', trodAll_mk1 (shut_bool Try.underlying4 _), (trodAll_cons_mk (Below.trod laidOut (by kernel_rfl) (of_decide_eq_true (by kernel_rfl)) h0 bel lt0) (trodAll_cons_mk (Below.trod laidOut (by kernel_rfl) (of_decide_eq_true (by kernel_rfl)) h1 bel lt1) trodAll_mk0)), rfl, bel.frame _, fun h => by cases h⟩
theorem over : Rows.windowShiftRow.holds Try.pinned (OpenSpec.ofChange Rows.windowShiftSpec) :=
  OpenClaim.holds_of_wide 3 Try.f3 rfl rfl rfl rfl rfl rfl rfl ⟨rfl, rfl, rfl, rfl, rfl⟩ rfl rfl rfl rfl rfl (by kernel_rfl) Try.func3 (by kernel_rfl)
    (of_decide_eq_true (by kernel_rfl)) (by unfold Func.isWrapper; first | (rw [if_pos (by decide +kernel)]; kernel_rfl) | (rw [if_neg (by decide +kernel)]; exact ⟨rfl, rfl⟩))
    (fun os started H enc _ => lifted os started H enc)
theorem proved : Rows.WindowShiftSaid := over
#print axioms proved
end Go.Proofs.Ytdohkcddjoammaa.windowShift
