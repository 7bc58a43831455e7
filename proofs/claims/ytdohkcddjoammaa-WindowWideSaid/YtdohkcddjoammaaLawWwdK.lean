/- Proved here: the statement Rows.WindowWideSaid (the law WindowWide returns true for every input, and leaves its arguments as they were); under no further condition. -/
import Derived.Test.YtdohkcddjoammaaRows
import Derived.Test.YtdohkcddjoammaaWnLWdK
import Derived.WalkKit
import Derived.ProofKit
import Derived.OpenShut
import Derived.ShutString
import Derived.ChangeOld
import Derived.Below
namespace Go.Proofs.Ytdohkcddjoammaa.windowWide
open Go.ChangeShapes Go.WideShapes Go.ChangeAt Go.RowKit Go.AM Go.AM.Ytdohkcddjoammaa
set_option linter.all false
theorem own : ownKnob Try.prog.godebug = none := by kernel_rfl
theorem laidOut : laidOutB Try.prog = true := by kernel_rfl
theorem data0 : dataOk Try.prog 20 25 (.pair (.slice Fl.tS6) (.pair (.slice Fl.tS3) (.pair (.slice Fl.tS3) (.pair (.int .i64) (.pair (.int .i64) (.int .i64)))))) = true := by kernel_rfl
theorem agg0 : isAggOf Try.prog 25 = true := by kernel_rfl
set_option maxRecDepth 100000 in
theorem lifted (os : Os) (started : os.Started) (H : Type) (enc : TypeId × Value → H) :
    ReturnsInHanded {} Try.checked os 8 .any (Rows.windowWideSpec.pre6 enc Try.prog Try.f8 Rows.windowWideRow.domain false) (Rows.windowWideSpec.post enc Try.prog Try.f8 false true false false) := by
  refine returnsInHanded_of_change (C := Try.checked) own started (by kernel_rfl) Try.func8
    (ChangeSpec.witness6 (enc := enc) (C := Try.checked) false ⟨#[], #[.agg #[.slice none 0 0, .slice none 0 0, .slice none 0 0, .int .i64 0, .int .i64 0, .int .i64 0]], []⟩ 8 (by kernel_rfl) (by kernel_rfl) (by kernel_rfl) (by kernel_rfl)) ?_
  intro W base args ds gs before hval0 hW hcnd _
  have hval : ∀ (j : Nat) t v, Try.f8.params[j]? = some t → args[j]? = some v → Value.okWide Try.prog W .any base t v := hval0
  have hW' := hW
  obtain ⟨p, q, hA0, hV, rfl, hfz, hnd⟩ := hW
  have hA : DataW.TrodAll enc Try.prog W 0 (fun _ => true) true Try.f8.params.toList args.toList ds p := hA0
  rw [Try.params8] at hA hval
  obtain ⟨v0, vs0, d0, ds0, p0, q0, hargs, rfl, rfl, h0, r0⟩ := trodAll_cons hA
  obtain ⟨rfl, rfl, rfl⟩ := trodAll_nil r0
  obtain rfl : args = #[v0] := by cases args; simp_all
  obtain ⟨rfl, rfl⟩ := trodVars_none hV
  have lt0 : ∀ x ∈ p0, x.block < W.heap.size := by obtain ⟨m, hm⟩ := h0; exact DataW.trod_lt m _ _ _ hm
  obtain ⟨e0, w0⟩ := arg_rel (g := (fun _ => ⟨0, .slice none 0 0⟩)) (K := locK []) (hval 0 25 v0 rfl rfl) h0 data0 agg0
  clear hA0 hval0
  obtain ⟨out, hf, hpre, hret⟩ : ∃ out, (Fl.wideS).f [argOf true (.pair (.slice Fl.tS6) (.pair (.slice Fl.tS3) (.pair (.slice Fl.tS3) (.pair (.int .i64) (.pair (.int .i64) (.int .i64)))))) e0] [] = some out ∧ out.pre ∧ out.ret = .bool true := ⟨_, rfl, trivial, rfl⟩
  refine (law_walk Fl.wideOk hf hpre hret (vals := [v0]) (.cons w0 .nil)).mono fun e W' ⟨he, bel⟩ => ?_
  subst he
  exact ⟨_, rfl, _, _, _, [], _, [], hW', trodAll_mk1 (shut_bool Try.underlying4 _), (trodAll_cons_mk (Below.trod laidOut (by kernel_rfl) (of_decide_eq_true (by kernel_rfl)) h0 bel lt0) trodAll_mk0), rfl, bel.frame _, fun h => by cases h⟩
theorem over : Rows.windowWideRow.holds Try.pinned (OpenSpec.ofChange Rows.windowWideSpec) :=
  OpenClaim.holds_of_wide 8 Try.f8 rfl rfl rfl rfl rfl rfl rfl ⟨rfl, rfl, rfl, rfl, rfl⟩ rfl rfl rfl rfl rfl (by kernel_rfl) Try.func8 (by kernel_rfl)
    (of_decide_eq_true (by kernel_rfl)) (by unfold Func.isWrapper; first | (rw [if_pos (by decide +kernel)]; kernel_rfl) | (rw [if_neg (by decide +kernel)]; exact ⟨rfl, rfl⟩))
    (fun os started H enc _ => lifted os started H enc)
theorem proved : Rows.WindowWideSaid := over
#print axioms proved
end Go.Proofs.Ytdohkcddjoammaa.windowWide
