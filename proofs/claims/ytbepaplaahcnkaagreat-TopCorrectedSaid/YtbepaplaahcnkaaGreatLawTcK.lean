/- Proved here: the statement Rows.TopCorrectedSaid (the law TopCorrected returns true for every input, and leaves its arguments as they were); under no further condition. -/
import Derived.Test.YtbepaplaahcnkaaGreatRows
import Derived.Test.YtbepaplaahcnkaaGreatPc45
import Derived.WalkKit
import Derived.ProofKit
import Derived.OpenShut
import Derived.ShutString
import Derived.ChangeOld
import Derived.Below
namespace Go.Proofs.YtbepaplaahcnkaaGreat.topCorrected
open Go.ChangeShapes Go.WideShapes Go.ChangeAt Go.RowKit Go.AM Go.AM.YtbepaplaahcnkaaGreat
set_option linter.all false
theorem own : ownKnob Tryz.prog.godebug = none := by kernel_rfl
theorem laidOut : laidOutB Tryz.prog = true := by kernel_rfl
theorem data0 : dataOk Tryz.prog 20 22 (.slice Tp.t6) = true := by kernel_rfl
theorem agg0 : isAggOf Tryz.prog 22 = false := by kernel_rfl
theorem data1 : dataOk Tryz.prog 20 23 (.slice Tp.t3) = true := by kernel_rfl
theorem agg1 : isAggOf Tryz.prog 23 = false := by kernel_rfl
theorem data2 : dataOk Tryz.prog 20 24 (t4) = true := by kernel_rfl
theorem agg2 : isAggOf Tryz.prog 24 = true := by kernel_rfl
theorem data3 : dataOk Tryz.prog 20 3 (.int .i64) = true := by kernel_rfl
theorem agg3 : isAggOf Tryz.prog 3 = false := by kernel_rfl
theorem data4 : dataOk Tryz.prog 20 3 (.int .i64) = true := by kernel_rfl
theorem agg4 : isAggOf Tryz.prog 3 = false := by kernel_rfl
theorem data5 : dataOk Tryz.prog 20 25 (.slice (.int .i64)) = true := by kernel_rfl
theorem agg5 : isAggOf Tryz.prog 25 = false := by kernel_rfl
set_option maxRecDepth 100000 in
theorem lifted (os : Os) (started : os.Started) (H : Type) (enc : TypeId × Value → H) :
    ReturnsInHanded {} Tryz.checked os 3 .any (Rows.topCorrectedSpec.pre6 enc Tryz.prog Tryz.f3 Rows.topCorrectedRow.domain false) (Rows.topCorrectedSpec.post enc Tryz.prog Tryz.f3 false true false false) := by
  refine returnsInHanded_of_change (C := Tryz.checked) own started (by kernel_rfl) Tryz.func3
    (ChangeSpec.witness6 (enc := enc) (C := Tryz.checked) false ⟨#[], #[.slice none 0 0, .slice none 0 0, .agg #[.int .i64 0, .int .i64 0, .int .i64 0, .int .i64 0], .int .i64 0, .int .i64 0, .slice none 0 0], []⟩ 8 (by kernel_rfl) (by kernel_rfl) (by kernel_rfl) (by kernel_rfl)) ?_
  intro W base args ds gs before hval0 hW hcnd _
  have hval : ∀ (j : Nat) t v, Tryz.f3.params[j]? = some t → args[j]? = some v → Value.okWide Tryz.prog W .any base t v := hval0
  have hW' := hW
  obtain ⟨p, q, hA0, hV, rfl, hfz, hnd⟩ := hW
  have hA : DataW.TrodAll enc Tryz.prog W 0 (fun _ => true) true Tryz.f3.params.toList args.toList ds p := hA0
  rw [Tryz.params3] at hA hval
  obtain ⟨v0, vs0, d0, ds0, p0, q0, hargs, rfl, rfl, h0, r0⟩ := trodAll_cons hA
  obtain ⟨v1, vs1, d1, ds1, p1, q1, rfl, rfl, rfl, h1, r1⟩ := trodAll_cons r0
  obtain ⟨v2, vs2, d2, ds2, p2, q2, rfl, rfl, rfl, h2, r2⟩ := trodAll_cons r1
  obtain ⟨v3, vs3, d3, ds3, p3, q3, rfl, rfl, rfl, h3, r3⟩ := trodAll_cons r2
  obtain ⟨v4, vs4, d4, ds4, p4, q4, rfl, rfl, rfl, h4, r4⟩ := trodAll_cons r3
  obtain ⟨v5, vs5, d5, ds5, p5, q5, rfl, rfl, rfl, h5, r5⟩ := trodAll_cons r4
  obtain ⟨rfl, rfl, rfl⟩ := trodAll_nil r5
  obtain rfl : args = #[v0, v1, v2, v3, v4, v5] := by cases args; simp_all
  obtain ⟨rfl, rfl⟩ := trodVars_none hV
  have lt0 : ∀ x ∈ p0, x.block < W.heap.size := by obtain ⟨m, hm⟩ := h0; exact DataW.trod_lt m _ _ _ hm
  obtain ⟨e0, w0⟩ := arg_rel (g := (fun _ => ⟨0, .slice none 0 0⟩)) (K := locK []) (hval 0 22 v0 rfl rfl) h0 data0 agg0
  have lt1 : ∀ x ∈ p1, x.block < W.heap.size := by obtain ⟨m, hm⟩ := h1; exact DataW.trod_lt m _ _ _ hm
  obtain ⟨e1, w1⟩ := arg_rel (g := (fun _ => ⟨0, .slice none 0 0⟩)) (K := locK []) (hval 1 23 v1 rfl rfl) h1 data1 agg1
  have lt2 : ∀ x ∈ p2, x.block < W.heap.size := by obtain ⟨m, hm⟩ := h2; exact DataW.trod_lt m _ _ _ hm
  obtain ⟨e2, w2⟩ := arg_rel (g := (fun _ => ⟨0, .slice none 0 0⟩)) (K := locK []) (hval 2 24 v2 rfl rfl) h2 data2 agg2
  have lt3 : ∀ x ∈ p3, x.block < W.heap.size := by obtain ⟨m, hm⟩ := h3; exact DataW.trod_lt m _ _ _ hm
  obtain ⟨e3, w3⟩ := arg_rel (g := (fun _ => ⟨0, .slice none 0 0⟩)) (K := locK []) (hval 3 3 v3 rfl rfl) h3 data3 agg3
  have lt4 : ∀ x ∈ p4, x.block < W.heap.size := by obtain ⟨m, hm⟩ := h4; exact DataW.trod_lt m _ _ _ hm
  obtain ⟨e4, w4⟩ := arg_rel (g := (fun _ => ⟨0, .slice none 0 0⟩)) (K := locK []) (hval 4 3 v4 rfl rfl) h4 data4 agg4
  have lt5 : ∀ x ∈ p5, x.block < W.heap.size := by obtain ⟨m, hm⟩ := h5; exact DataW.trod_lt m _ _ _ hm
  obtain ⟨e5, w5⟩ := arg_rel (g := (fun _ => ⟨0, .slice none 0 0⟩)) (K := locK []) (hval 5 25 v5 rfl rfl) h5 data5 agg5
  clear hA0 hval0
  obtain ⟨out, hf, hpre, hret⟩ : ∃ out, (Tp.tcS).f [argOf false (.slice Tp.t6) e0, argOf false (.slice Tp.t3) e1, argOf true (t4) e2, argOf false (.int .i64) e3, argOf false (.int .i64) e4, argOf false (.slice (.int .i64)) e5] [] = some out ∧ out.pre ∧ out.ret = .bool true := ⟨_, rfl, trivial, rfl⟩
  refine (law_walk Tp.tcOk hf hpre hret (vals := [v0, v1, v2, v3, v4, v5]) (.cons w0 (.cons w1 (.cons w2 (.cons w3 (.cons w4 (.cons w5 .nil))))))).mono fun e W' ⟨he, bel⟩ => ?_
  subst he
  exact ⟨_, rfl, _, _, _, [], _, [], hW', trodAll_mk1 (shut_bool Tryz.underlying4 _), (trodAll_cons_mk (Below.trod laidOut (by kernel_rfl) (of_decide_eq_true (by kernel_rfl)) h0 bel lt0) (trodAll_cons_mk (Below.trod laidOut (by kernel_rfl) (of_decide_eq_true (by kernel_rfl)) h1 bel lt1) (trodAll_cons_mk (Below.trod laidOut (by kernel_rfl) (of_decide_eq_true (by kernel_rfl)) h2 bel lt2) (trodAll_cons_mk (Below.trod laidOut (by kernel_rfl) (of_decide_eq_true (by kernel_rfl)) h3 bel lt3) (trodAll_cons_mk (Below.trod laidOut (by kernel_rfl) (of_decide_eq_true (by kernel_rfl)) h4 bel lt4) (trodAll_cons_mk (Below.trod laidOut (by kernel_rfl) (of_decide_eq_true (by kernel_rfl)) h5 bel lt5) trodAll_mk0)))))), rfl, bel.frame _, fun h => by cases h⟩
theorem over : Rows.topCorrectedRow.holds Tryz.pinned (OpenSpec.ofChange Rows.topCorrectedSpec) :=
  OpenClaim.holds_of_wide 3 Tryz.f3 rfl rfl rfl rfl rfl rfl rfl ⟨rfl, rfl, rfl, rfl, rfl⟩ rfl rfl rfl rfl rfl (by kernel_rfl) Tryz.func3 (by kernel_rfl)
    (of_decide_eq_true (by kernel_rfl)) (by unfold Func.isWrapper; first | (rw [if_pos (by decide +kernel)]; kernel_rfl) | (rw [if_neg (by decide +kernel)]; exact ⟨rfl, rfl⟩))
    (fun os started H enc _ => lifted os started H enc)
theorem proved : Rows.TopCorrectedSaid := over
#print axioms proved
end Go.Proofs.YtbepaplaahcnkaaGreat.topCorrected
