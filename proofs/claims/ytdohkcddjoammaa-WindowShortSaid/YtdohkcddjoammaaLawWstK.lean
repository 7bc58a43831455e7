/- Proved here: the statement Rows.WindowShortSaid (the law WindowShort returns true for every input, and leaves its arguments as they were); under no further condition. -/
import Derived.Test.YtdohkcddjoammaaRows
import Derived.Test.YtdohkcddjoammaaWnLStK
import Derived.WalkKit
import Derived.ProofKit
import Derived.OpenShut
import Derived.ShutString
import Derived.ChangeOld
import Derived.Below
namespace Go.Proofs.Ytdohkcddjoammaa.windowShort
open Go.ChangeShapes Go.WideShapes Go.ChangeAt Go.RowKit Go.AM Go.AM.Ytdohkcddjoammaa
set_option linter.all false
theorem own : ownKnob Try.prog.godebug = none := by kernel_rfl
theorem laidOut : laidOutB Try.prog = true := by kernel_rfl
theorem data0 : dataOk Try.prog 20 25 (.pair (.slice Fl.tS6) (.pair (.slice Fl.tS3) (.pair (.slice Fl.tS3) (.pair (.int .i64) (.pair (.int .i64) (.int .i64)))))) = true := by kernel_rfl
theorem agg0 : isAggOf Try.prog 25 = true := by kernel_rfl
theorem data1 : dataOk Try.prog 20 37 (.slice (.int .i64)) = true := by kernel_rfl
theorem agg1 : isAggOf Try.prog 37 = false := by kernel_rfl
theorem data2 : dataOk Try.prog 20 37 (.slice (.int .i64)) = true := by kernel_rfl
theorem agg2 : isAggOf Try.prog 37 = false := by kernel_rfl
set_option maxRecDepth 100000 in
theorem lifted (os : Os) (started : os.Started) (H : Type) (enc : TypeId × Value → H) :
    ReturnsInHanded {} Try.checked os 7 .any (Rows.windowShortSpec.pre6 enc Try.prog Try.f7 Rows.windowShortRow.domain false) (Rows.windowShortSpec.post enc Try.prog Try.f7 false true false false) := by
  refine returnsInHanded_of_change (C := Try.checked) own started (by kernel_rfl) Try.func7
    (ChangeSpec.witness6 (enc := enc) (C := Try.checked) false ⟨#[], #[.agg #[.slice none 0 0, .slice none 0 0, .slice none 0 0, .int .i64 0, .int .i64 0, .int .i64 0], .slice none 0 0, .slice none 0 0], []⟩ 8 (by kernel_rfl) (by kernel_rfl) (by kernel_rfl) (by kernel_rfl)) ?_
  intro W base args ds gs before hval0 hW hcnd _
  have hval : ∀ (j : Nat) t v, Try.f7.params[j]? = some t → args[j]? = some v → Value.okWide Try.prog W .any base t v := hval0
  have hW' := hW
  obtain ⟨p, q, hA0, hV, rfl, hfz, hnd⟩ := hW
  have hA : DataW.TrodAll enc Try.prog W 0 (fun _ => true) true Try.f7.params.toList args.toList ds p := hA0
  rw [Try.params7] at hA hval
  obtain ⟨v0, vs0, d0, ds0, p0, q0, hargs, rfl, rfl, h0, r0⟩ := trodAll_cons hA
  obtain ⟨v1, vs1, d1, ds1, p1, q1, rfl, rfl, rfl, h1, r1⟩ := trodAll_cons r0
  obtain ⟨v2, vs2, d2, ds2, p2, q2, rfl, rfl, rfl, h2, r2⟩ := trodAll_cons r1
  obtain ⟨rfl, rfl, rfl⟩ := trodAll_nil r2
  obtain rfl : args = #[v0, v1, v2] := by cases args; simp_all
  obtain ⟨rfl, rfl⟩ := trodVars_none hV
  have lt0 : ∀ x ∈ p0, x.block < W.heap.size := by obtain ⟨m, hm⟩ := h0; exact DataW.trod_lt m _ _ _ hm
  obtain ⟨e0, w0⟩ := arg_rel (g := (fun _ => ⟨0, .slice none 0 0⟩)) (K := locK []) (hval 0 25 v0 rfl rfl) h0 data0 agg0
  have lt1 : ∀ x ∈ p1, x.block < W.heap.size := by obtain ⟨m, hm⟩ := h1; exact DataW.trod_lt m _ _ _ hm
  obtain ⟨e1, w1⟩ := arg_rel (g := (fun _ => ⟨0, .slice none 0 0⟩)) (K := locK []) (hval 1 37 v1 rfl rfl) h1 data1 agg1
  have lt2 : ∀ x ∈ p2, x.block < W.heap.size := by obtain ⟨m, hm⟩ := h2; exact DataW.trod_lt m _ _ _ hm
  obtain ⟨e2, w2⟩ := arg_rel (g := (fun _ => ⟨0, .slice none 0 0⟩)) (K := locK []) (hval 2 37 v2 rfl rfl) h2 data2 agg2
  clear hA0 hval0
  obtain ⟨out, hf, hpre, hret⟩ : ∃ out, (Fl.shortS).f [argOf true (.pair (.slice Fl.tS6) (.pair (.slice Fl.tS3) (.pair (.slice Fl.tS3) (.pair (.int .i64) (.pair (.int .i64) (.int .i64)))))) e0, argOf false (.slice (.int .i64)) e1, argOf false (.slice (.int .i64)) e2] [] = some out ∧ out.pre ∧ out.ret = .bool true := ⟨_, rfl, trivial, rfl⟩
  refine (law_walk Fl.shortOk hf hpre hret (vals := [v0, v1, v2]) (.cons w0 (.cons w1 (.cons w2 .nil)))).mono fun e W' ⟨he, bel⟩ => ?_
  subst he
  exact ⟨_, rfl, _, _, _, [], _, [], hW', trodAll_mk1 (shut_bool Try.underlying4 _), (trodAll_cons_mk (Below.trod laidOut (by kernel_rfl) (of_decide_eq_true (by kernel_rfl)) h0 bel lt0) (trodAll_cons_mk (Below.trod laidOut (by kernel_rfl) (of_decide_eq_true (by kernel_rfl)) h1 bel lt1) (trodAll_cons_mk (Below.trod laidOut (by kernel_rfl) (of_decide_eq_true (by kernel_rfl)) h2 bel lt2) trodAll_mk0))), rfl, bel.frame _, fun h => by cases h⟩
theorem over : Rows.windowShortRow.holds Try.pinned (OpenSpec.ofChange Rows.windowShortSpec) :=
  OpenClaim.holds_of_wide 7 Try.f7 rfl rfl rfl rfl rfl rfl rfl ⟨rfl, rfl, rfl, rfl, rfl⟩ rfl rfl rfl rfl rfl (by kernel_rfl) Try.func7 (by kernel_rfl)
    (of_decide_eq_true (by kernel_rfl)) (by unfold Func.isWrapper; first | (rw [if_pos (by decide +kernel)]; kernel_rfl) | (rw [if_neg (by decide +kernel)]; exact ⟨rfl, rfl⟩))
    (fun os started H enc _ => lifted os started H enc)
theorem proved : Rows.WindowShortSaid := over
#print axioms proved
end Go.Proofs.Ytdohkcddjoammaa.windowShort
