/- The fixed examples. -/
import Derived.Test.YtgpnkpiinmicgaaPlG
import Derived.Test.YtgpnkpiinmicgaaWkBase
set_option linter.all false
namespace Go.AM.Ytgpnkpiinmicgaa.Pl
open Go.Proofs
set_option maxRecDepth 100000
set_option maxHeartbeats 8000000

abbrev shPlan : Shp := .agg [none, none, none, some tStage, some tWin]

/-- Contracts whose answer is told ahead. -/
def validT : Spec := plain fun
  | [.agg [.int .i64 e, .int .i64 a, .int .i64 b, .sl (.pair (.int .i64) (.pair (.int .i64) (.pair (.pair (.int .i64) (.int .i64)) (.pair (.int .i64) (.int .i64))))) xs, .sl (.pair (.int .i64) (.pair (.int .i64) (.int .i64))) ws]] => outV (validF e a b xs ws = true) (.bool true)
  | _ => none
theorem validTOk : SpecSound Try.prog 26 validT := validOk.weaken rfl fun args rows out hf hpre => by
  simp only [validT, plain] at hf
  split at hf <;> try (cases hf; done)
  cases hf
  exact ⟨_, rfl, trivial, by rw [show validF _ _ _ _ _ = true from hpre], rfl, rfl⟩

def possT : Spec := plain fun
  | [.agg [.int .i64 e, .int .i64 a, .int .i64 b, .sl (.pair (.int .i64) (.pair (.int .i64) (.pair (.pair (.int .i64) (.int .i64)) (.pair (.int .i64) (.int .i64))))) xs, .sl (.pair (.int .i64) (.pair (.int .i64) (.int .i64))) ws],
      .agg [.sl (.int .i64) du, .sl (.int .i64) mo, .int .i64 de, .int .i64 tl, .int .i64 fa]] => outV (xs.length ≤ 1000000000000 ∧ possF e a b xs ws du mo de tl fa = decide (getI du 0 1 = 20)) (.bool (decide (getI du 0 1 = 20)))
  | _ => none
theorem possTOk : SpecSound Try.prog 17 possT := possOk.weaken rfl fun args rows out hf hpre => by
  simp only [possT, plain] at hf
  split at hf <;> try (cases hf; done)
  cases hf
  exact ⟨_, rfl, hpre.1, by rw [← show possF _ _ _ _ _ _ _ _ _ _ = _ from hpre.2], rfl, rfl⟩

def sameT : Spec := plain fun
  | [.agg [.int .i64 e, .int .i64 a, .int .i64 b, .sl (.pair (.int .i64) (.pair (.int .i64) (.pair (.pair (.int .i64) (.int .i64)) (.pair (.int .i64) (.int .i64))))) xs, .sl (.pair (.int .i64) (.pair (.int .i64) (.int .i64))) ws], .agg [.int .i64 e', .int .i64 a', .int .i64 b', .sl (.pair (.int .i64) (.pair (.int .i64) (.pair (.pair (.int .i64) (.int .i64)) (.pair (.int .i64) (.int .i64))))) xs', .sl (.pair (.int .i64) (.pair (.int .i64) (.int .i64))) ws']] =>
    outV ((xs.length ≤ 1000000000000 ∧ xs'.length ≤ 1000000000000 ∧ ws.length ≤ 1000000000000 ∧ ws'.length ≤ 1000000000000) ∧ sameF e a b xs ws e' a' b' xs' ws' = decide (b' = 10)) (.bool (decide (b' = 10)))
  | _ => none
theorem sameTOk : SpecSound Try.prog 19 sameT := sameOk.weaken rfl fun args rows out hf hpre => by
  simp only [sameT, plain] at hf
  split at hf <;> try (cases hf; done)
  cases hf
  exact ⟨_, rfl, hpre.1, by rw [← show sameF _ _ _ _ _ _ _ _ _ _ = _ from hpre.2], rfl, rfl⟩

def sigSane : List (Nat × Spec) := [(24, exS), (25, quickS), (14, runS), (18, bookS), (26, validT), (17, possT), (19, sameT.norm [shPlan, shPlan])]
theorem sigSaneOk : SigOk Try.prog (look sigSane) :=
  sigCons (sigCons (sigCons (sigCons (sigCons (sigCons (sigCons sigNil Try.func19 (by kernel_rfl) (c := body Try.f19) rfl (sameTOk.norm _)) Try.func17 (by kernel_rfl) (c := body Try.f17) rfl possTOk) Try.func26 (by kernel_rfl) (c := body Try.f26) rfl validTOk)
    Try.func18 (by kernel_rfl) (c := body Try.f18) rfl bookOk) Try.func14 (by kernel_rfl) (c := body Try.f14) rfl runOk) Try.func25 (by kernel_rfl) (c := body Try.f25) rfl quickOk) Try.func24 (by kernel_rfl) (c := body Try.f24) rfl exOk

theorem run1 : runF 0 5 10 exSt exWi [20, 20] [5, 5] 5 (-1) 0 = ([(0, 1, 10, 30), (1, 2, 60, 80)], (0, 0), 0) := by kernel_rfl
theorem run2 : runF 0 5 10 exSt exWi [20, 20] [5, 5] 5 1 15 = ([(0, 3, 50, 70)], (1, 1), 0) := by kernel_rfl
theorem run3 : runF 0 5 10 exSt exWi [20, 20] [5, 5] 5 2 0 = ([(0, 1, 10, 30), (1, 4, 100, 120)], (2, 0), 0) := by kernel_rfl
theorem run4 : runF 0 5 10 exSt exWi [20, 31] [5, 5] 5 (-1) 0 = ([], (0, 0), 80) := by kernel_rfl
theorem val1 : validF 0 5 10 exSt exWi = true := by kernel_rfl
theorem poss1 : possF 0 5 10 exSt exWi [20, 20] [5, 5] 5 3 0 = decide (getI [20, 20] (0 : Int) 1 = 20) := by kernel_rfl
theorem poss2 : possF 0 5 10 exSt exWi [20, 31] [5, 5] 5 (-1) 0 = decide (getI [20, 31] (0 : Int) 1 = 20) := by kernel_rfl
theorem book1 : bookF 0 5 10 exSt exWi 7 = [(1, 10, 40, 7), (3, 50, 80, 7), (2, 60, 90, 7), (4, 100, 130, 7)] := by kernel_rfl
theorem exLen2 : exWi.length ≤ 1000000000000 := by decide
theorem same1 : sameF 0 5 10 exSt exWi 0 5 10 exSt exWi = decide ((10:Int) = 10) := by kernel_rfl
theorem same2 : sameF 0 5 10 exSt exWi 0 0 0 [] [] = decide ((0:Int) = 10) := by kernel_rfl
theorem exLen : exSt.length ≤ 1000000000000 := by decide

def saneS : Spec := plain fun
  | [] => outV True (.bool true)
  | _ => none

theorem saneOk : SpecSound Try.prog 11 saneS := by
  refine soundP (envOf sigSaneOk) Try.func11 (c := body Try.f11) rfl (by kernel_rfl) rfl ?_
  intro args out hf hpre
  split at hf <;> try (cases hf; done)
  cases hf
  refine ⟨Nat.le_of_ble_eq_true rfl, initI rfl ?_⟩
  repeat' (first
    | with_reducible refine pN ?_
    | with_reducible refine cN ?_
    | with_reducible refine bN ?_
    | with_reducible refine cE ?_
    | with_reducible refine cR ?_
    | with_reducible refine bR ?_
    | with_reducible refine lE ?_
    | with_reducible refine lR ?_
    | with_reducible refine jE ?_
    | with_reducible refine jR ?_
    | refine bE rfl ?_
    | refine bP rfl ?_
    | refine pC (by first | exact True.intro | omega | (intros; first | exact True.intro | omega) | (simp only [List.length_cons, List.length_nil, Int.toNat_natCast]; omega)) ?_
    | refine seqI rfl ?_
    | refine regI rfl ?_
    | refine scopeI rfl ?_
    | refine blockI rfl ?_
    | refine exitI rfl ?_
    | refine retI rfl ?_
    | refine skipI rfl ?_)
  refine pC exLen ?_
  simp only [run1]
  repeat' (first
    | with_reducible refine pN ?_
    | with_reducible refine cN ?_
    | with_reducible refine bN ?_
    | with_reducible refine cE ?_
    | with_reducible refine cR ?_
    | with_reducible refine bR ?_
    | with_reducible refine lE ?_
    | with_reducible refine lR ?_
    | with_reducible refine jE ?_
    | with_reducible refine jR ?_
    | refine bE rfl ?_
    | refine bP rfl ?_
    | refine pC (by first | exact True.intro | omega | (intros; first | exact True.intro | omega) | (simp only [List.length_cons, List.length_nil, Int.toNat_natCast]; omega)) ?_
    | refine seqI rfl ?_
    | refine regI rfl ?_
    | refine scopeI rfl ?_
    | refine blockI rfl ?_
    | refine exitI rfl ?_
    | refine retI rfl ?_
    | refine skipI rfl ?_)
  refine pC exLen ?_
  simp only [run2]
  repeat' (first
    | with_reducible refine pN ?_
    | with_reducible refine cN ?_
    | with_reducible refine bN ?_
    | with_reducible refine cE ?_
    | with_reducible refine cR ?_
    | with_reducible refine bR ?_
    | with_reducible refine lE ?_
    | with_reducible refine lR ?_
    | with_reducible refine jE ?_
    | with_reducible refine jR ?_
    | refine bE rfl ?_
    | refine bP rfl ?_
    | refine pC (by first | exact True.intro | omega | (intros; first | exact True.intro | omega) | (simp only [List.length_cons, List.length_nil, Int.toNat_natCast]; omega)) ?_
    | refine seqI rfl ?_
    | refine regI rfl ?_
    | refine scopeI rfl ?_
    | refine blockI rfl ?_
    | refine exitI rfl ?_
    | refine retI rfl ?_
    | refine skipI rfl ?_)
  refine pC exLen ?_
  simp only [run3]
  repeat' (first
    | with_reducible refine pN ?_
    | with_reducible refine cN ?_
    | with_reducible refine bN ?_
    | with_reducible refine cE ?_
    | with_reducible refine cR ?_
    | with_reducible refine bR ?_
    | with_reducible refine lE ?_
    | with_reducible refine lR ?_
    | with_reducible refine jE ?_
    | with_reducible refine jR ?_
    | refine bE rfl ?_
    | refine bP rfl ?_
    | refine pC (by first | exact True.intro | omega | (intros; first | exact True.intro | omega) | (simp only [List.length_cons, List.length_nil, Int.toNat_natCast]; omega)) ?_
    | refine seqI rfl ?_
    | refine regI rfl ?_
    | refine scopeI rfl ?_
    | refine blockI rfl ?_
    | refine exitI rfl ?_
    | refine retI rfl ?_
    | refine skipI rfl ?_)
  refine pC exLen ?_
  simp only [run4]
  repeat' (first
    | with_reducible refine pN ?_
    | with_reducible refine cN ?_
    | with_reducible refine bN ?_
    | with_reducible refine cE ?_
    | with_reducible refine cR ?_
    | with_reducible refine bR ?_
    | with_reducible refine lE ?_
    | with_reducible refine lR ?_
    | with_reducible refine jE ?_
    | with_reducible refine jR ?_
    | refine bE rfl ?_
    | refine bP rfl ?_
    | refine pC (by first | exact True.intro | omega | (intros; first | exact True.intro | omega) | (simp only [List.length_cons, List.length_nil, Int.toNat_natCast]; omega)) ?_
    | refine seqI rfl ?_
    | refine regI rfl ?_
    | refine scopeI rfl ?_
    | refine blockI rfl ?_
    | refine exitI rfl ?_
    | refine retI rfl ?_
    | refine skipI rfl ?_)
  simp only [book1]
  refine tidyI [(70, .bool false)] [] rfl rfl ?_ ?_
  · repeat' (first | exact trivial | exact rfl | refine ⟨rfl, ?_⟩ | refine And.intro ?_ ?_)
  refine condF rfl ?_
  refine skipI rfl ?_
  refine cN ?_
  refine seqI rfl ?_
  refine regI rfl ?_
  repeat' (first | with_reducible refine pN ?_ | refine pC (by first | exact True.intro | omega | (intros; first | exact True.intro | omega) | (simp only [List.length_cons, List.length_nil, Int.toNat_natCast]; omega)) ?_)
  with_reducible refine cN ?_
  refine seqI rfl ?_
  refine regI rfl ?_
  repeat' (first | with_reducible refine pN ?_ | refine pC (by first | exact True.intro | omega | (intros; first | exact True.intro | omega) | (simp only [List.length_cons, List.length_nil, Int.toNat_natCast]; omega)) ?_)
  with_reducible refine cN ?_
  refine seqI rfl ?_
  refine regI rfl ?_
  repeat' (first | with_reducible refine pN ?_ | refine pC (by first | exact True.intro | omega | (intros; first | exact True.intro | omega) | (simp only [List.length_cons, List.length_nil, Int.toNat_natCast]; omega)) ?_)
  with_reducible refine cN ?_
  refine tidyI [(16, .bool true), (17, .bool true), (18, .bool true)] [] rfl rfl ?_ ?_
  · repeat' (first | exact trivial | exact rfl | refine ⟨rfl, ?_⟩ | refine And.intro ?_ ?_)
  repeat' (first
    | with_reducible refine pN ?_
    | with_reducible refine cN ?_
    | with_reducible refine bN ?_
    | with_reducible refine cE ?_
    | with_reducible refine cR ?_
    | with_reducible refine bR ?_
    | with_reducible refine lE ?_
    | with_reducible refine lR ?_
    | with_reducible refine jE ?_
    | with_reducible refine jR ?_
    | refine bE rfl ?_
    | refine bP rfl ?_
    | refine pC (by first | exact True.intro | omega | (intros; first | exact True.intro | omega) | (simp only [List.length_cons, List.length_nil, Int.toNat_natCast]; omega)) ?_
    | refine seqI rfl ?_
    | refine regI rfl ?_
    | refine scopeI rfl ?_
    | refine blockI rfl ?_
    | refine exitI rfl ?_
    | refine retI rfl ?_
    | refine skipI rfl ?_)
  refine pC (fun _ => val1) (pC trivial (pC (fun _ => ⟨exLen, poss1⟩) (pC (fun _ => ⟨exLen, poss2⟩) (pC (fun _ => by decide) (pC (fun _ => by decide) (pC (fun _ => by decide)
    (pC (fun _ => ⟨⟨exLen, exLen, exLen2, exLen2⟩, same1⟩) (pC (fun _ => ⟨⟨exLen, by decide, exLen2, by decide⟩, same2⟩) (pN (cN ?_))))))))))
  repeat' (first
    | with_reducible refine pN ?_
    | with_reducible refine cN ?_
    | with_reducible refine bN ?_
    | with_reducible refine cE ?_
    | with_reducible refine cR ?_
    | with_reducible refine bR ?_
    | with_reducible refine lE ?_
    | with_reducible refine lR ?_
    | with_reducible refine jE ?_
    | with_reducible refine jR ?_
    | refine bE rfl ?_
    | refine bP rfl ?_
    | refine pC (by first | exact True.intro | omega | (intros; first | exact True.intro | omega) | (simp only [List.length_cons, List.length_nil, Int.toNat_natCast]; omega)) ?_
    | refine seqI rfl ?_
    | refine regI rfl ?_
    | refine scopeI rfl ?_
    | refine blockI rfl ?_
    | refine exitI rfl ?_
    | refine retI rfl ?_
    | refine skipI rfl ?_)
  refine endR rfl ?_
  repeat' (first | exact trivial | exact rfl | refine ⟨rfl, ?_⟩ | refine And.intro ?_ ?_)
end Go.AM.Ytgpnkpiinmicgaa.Pl
