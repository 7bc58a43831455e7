/- ReA, ReF. -/
import Derived.Test.YtmjeocinfoeeeaaPk13
import Derived.Test.YtmjeocinfoeeeaaPk23
import Derived.Test.YtmjeocinfoeeeaaPk22

section
set_option linter.all false
namespace Go.AM.Ytmjeocinfoeeeaa.Re
open Go.Proofs
set_option maxRecDepth 100000
set_option maxHeartbeats 4000000
abbrev tStage : Ty := .pair (.int .i64) (.pair (.int .i64) (.pair (.pair (.int .i64) (.int .i64)) (.pair (.int .i64) (.int .i64))))
abbrev tWin : Ty := .pair (.int .i64) (.pair (.int .i64) (.int .i64))
abbrev StT := Int × Int × (Int × Int) × (Int × Int)
abbrev WiT := Int × Int × Int
def sMin (x : StT) : Int := x.1
def sMax (x : StT) : Int := x.2.1
def mTl (x : StT) : Int := x.2.2.1.1
def mSt (x : StT) : Int := x.2.2.1.2
def sTl (x : StT) : Int := x.2.2.2.1
def sSt (x : StT) : Int := x.2.2.2.2
def needS : Spec := ⟨true, fun args rows => match args, rows with
  | [.ptr 0 0, .int .i64 o, .int .i64 b], [.box [.nilsl]] => some ⟨In64 (b - o), .tup [], [.box [.own 1], .seq tInt [b - o]], true⟩
  | [.ptr 0 0, .int .i64 o, .int .i64 b], [.box [.own 1], .seq (.int .i64) xs] => some ⟨In64 (b - o) ∧ xs.length ≤ 1000000, .tup [], [.box [.own 2], .dead, .seq tInt (xs ++ [b - o])], true⟩
  | _, _ => none⟩
theorem needOk : SpecSound Try.prog 83 needS := by
  refine soundR (envOf sigNil) Try.func83 (c := body Try.f83) rfl (by kernel_rfl) rfl ?_
  intro args rows out hf hpre
  split at hf <;> try (cases hf; done)
  · rename_i o b
    cases hf
    change In64 (b - o) at hpre
    refine ⟨Nat.le_of_ble_eq_true rfl, initI (args := [.ptr 0 0, .int .i64 o, .int .i64 b]) (rows := [.box [.nilsl]]) rfl ?_⟩
    repeat' (first | with_reducible (first | apply pN | apply cN | apply bN | apply cE | apply cR | apply bR | apply lE | apply lR | apply jE | apply jR) | refine bE rfl ?_ | refine bP rfl ?_ | refine pC (by first | exact ⟨⟩ | omega | (intros; first | exact ⟨⟩ | omega) | (simp only [lcQ, lnQ, tnQ]; omega) | exact hpre) ?_ | refine seqI rfl ?_ | refine regI rfl ?_ | refine scopeI rfl ?_ | refine blockI rfl ?_ | refine exitI rfl ?_ | refine retI rfl ?_ | refine skipI rfl ?_)
    refine endN rfl ?_
    repeat' (first | exact trivial | exact rfl | refine ⟨rfl, ?_⟩ | refine And.intro ?_ ?_)
  · rename_i o b xs
    cases hf
    obtain ⟨hp1, hp2⟩ := hpre
    refine ⟨Nat.le_of_ble_eq_true rfl, initI (args := [.ptr 0 0, .int .i64 o, .int .i64 b]) (rows := [.box [.own 1], .seq tInt xs]) rfl ?_⟩
    repeat' (first | with_reducible (first | apply pN | apply cN | apply bN | apply cE | apply cR | apply bR | apply lE | apply lR | apply jE | apply jR) | refine bE rfl ?_ | refine bP rfl ?_ | refine pC (by first | exact ⟨⟩ | omega | (intros; first | exact ⟨⟩ | omega) | (simp only [lcQ, lnQ, tnQ]; omega) | first | exact hp1 | (simp only [List.length_cons, List.length_nil]; omega)) ?_ | refine seqI rfl ?_ | refine regI rfl ?_ | refine scopeI rfl ?_ | refine blockI rfl ?_ | refine exitI rfl ?_ | refine retI rfl ?_ | refine skipI rfl ?_)
    refine endN rfl ?_
    repeat' (first | exact trivial | exact rfl | refine ⟨rfl, ?_⟩ | refine And.intro ?_ ?_)
def negB (n : Int) : Bool := decide (n < 0)
def negS : Spec := plain fun
  | [.int .i64 n] => outV True (.bool (negB n))
  | _ => none
theorem negOk : SpecSound Try.prog 85 negS := by
  refine soundP (envOf sigNil) Try.func85 (c := body Try.f85) rfl (by kernel_rfl) rfl ?_
  intro args out hf hpre
  split at hf <;> try (cases hf; done)
  rename_i n
  cases hf
  refine ⟨Nat.le_of_ble_eq_true rfl, initI (args := [.int .i64 n]) rfl ?_⟩
  repeat' (first | with_reducible (first | apply pN | apply cN | apply bN | apply cE | apply cR | apply bR | apply lE | apply lR | apply jE | apply jR) | refine bE rfl ?_ | refine bP rfl ?_ | refine pC (by first | exact ⟨⟩ | omega | (intros; first | exact ⟨⟩ | omega) | (simp only [lcQ, lnQ, tnQ]; omega)) ?_ | refine seqI rfl ?_ | refine regI rfl ?_ | refine scopeI rfl ?_ | refine blockI rfl ?_ | refine exitI rfl ?_ | refine retI rfl ?_ | refine skipI rfl ?_)
  refine endR rfl ?_
  repeat' (first | exact trivial | exact rfl | refine ⟨rfl, ?_⟩ | refine And.intro ?_ ?_)
def sigNeg : List (Nat × Spec) := [(85, negS)]
theorem sigNegOk : SigOk Try.prog (look sigNeg) := sigCons sigNil Try.func85 (by kernel_rfl) (c := body Try.f85) rfl negOk
def idxNegS : Spec := plain fun
  | [.sl (.int .i64) xs, .fn 85 [] []] => outV (xs.length ≤ 1000000000000) (.int .i64 (idxF negB xs))
  | _ => none
theorem idxNegOk : SpecSound Try.prog 96 idxNegS := by
  refine soundP (envOf sigNegOk) Try.func96 (c := body Try.f96) rfl (by kernel_rfl) rfl ?_
  intro args out hf hpre
  split at hf <;> try (cases hf; done)
  rename_i xs
  cases hf
  refine ⟨Nat.le_of_ble_eq_true rfl, initI (args := [.sl tInt xs, .fn 85 [] []]) rfl ?_⟩
  change xs.length ≤ 1000000000000 at hpre
  repeat' (first | with_reducible (first | apply pN | apply cN | apply bN | apply cE | apply cR | apply bR | apply lE | apply lR | apply jE | apply jR) | refine bE rfl ?_ | refine bP rfl ?_ | refine pC (by first | exact ⟨⟩ | omega | (intros; first | exact ⟨⟩ | omega) | (simp only [lcQ, lnQ, tnQ]; omega)) ?_ | refine seqI rfl ?_ | refine regI rfl ?_ | refine scopeI rfl ?_ | refine blockI rfl ?_ | refine exitI rfl ?_ | refine retI rfl ?_ | refine skipI rfl ?_)
  refine loopI (σ := Nat) (fun i => [(8, .int .i64 i)]) (fun i => []) (fun i => i ≤ xs.length ∧ ∀ j, j < i → negB (getI xs 0 j) = false) (fun i => xs.length - i) 0 rfl (fun _ => rfl) rfl ?_ ?_ ?_
  · exact ⟨Nat.zero_le _, fun j hj => by omega⟩
  · repeat' (first | exact trivial | exact rfl | refine ⟨rfl, ?_⟩ | refine And.intro ?_ ?_)
  rintro i ⟨hi, hb⟩
  repeat' (first | with_reducible (first | apply pN | apply cN | apply bN | apply cE | apply cR | apply bR | apply lE | apply lR | apply jE | apply jR) | refine bE rfl ?_ | refine bP rfl ?_ | refine pC (by first | exact ⟨⟩ | omega | (intros; first | exact ⟨⟩ | omega) | (simp only [lcQ, lnQ, tnQ]; omega)) ?_ | refine seqI rfl ?_ | refine regI rfl ?_ | refine scopeI rfl ?_ | refine blockI rfl ?_ | refine exitI rfl ?_ | refine retI rfl ?_ | refine skipI rfl ?_)
  refine condI rfl (fun c1 => ?_) (fun c1 => ?_)
  · simp only [decide_eq_true_eq] at c1
    have hil : i < xs.length := by omega
    repeat' (first | with_reducible (first | apply pN | apply cN | apply bN | apply cE | apply cR | apply bR | apply lE | apply lR | apply jE | apply jR) | refine bE rfl ?_ | refine bP rfl ?_ | refine pC (by first | exact ⟨⟩ | omega | (intros; first | exact ⟨⟩ | omega) | (simp only [lcQ, lnQ, tnQ]; omega)) ?_ | refine seqI rfl ?_ | refine regI rfl ?_ | refine scopeI rfl ?_ | refine blockI rfl ?_ | refine exitI rfl ?_ | refine retI rfl ?_ | refine skipI rfl ?_)
    refine condI rfl (fun c2 => ?_) (fun c2 => ?_)
    · repeat' (first | with_reducible (first | apply pN | apply cN | apply bN | apply cE | apply cR | apply bR | apply lE | apply lR | apply jE | apply jR) | refine bE rfl ?_ | refine bP rfl ?_ | refine pC (by first | exact ⟨⟩ | omega | (intros; first | exact ⟨⟩ | omega) | (simp only [lcQ, lnQ, tnQ]; omega)) ?_ | refine seqI rfl ?_ | refine regI rfl ?_ | refine scopeI rfl ?_ | refine blockI rfl ?_ | refine exitI rfl ?_ | refine retI rfl ?_ | refine skipI rfl ?_)
      refine endR rfl ?_
      repeat' (first | exact trivial | exact rfl | refine ⟨rfl, ?_⟩ | refine And.intro ?_ ?_)
      exact idxF_found (d := 0) hil hb c2
    · repeat' (first | with_reducible (first | apply pN | apply cN | apply bN | apply cE | apply cR | apply bR | apply lE | apply lR | apply jE | apply jR) | refine bE rfl ?_ | refine bP rfl ?_ | refine pC (by first | exact ⟨⟩ | omega | (intros; first | exact ⟨⟩ | omega) | (simp only [lcQ, lnQ, tnQ]; omega)) ?_ | refine seqI rfl ?_ | refine regI rfl ?_ | refine scopeI rfl ?_ | refine blockI rfl ?_ | refine exitI rfl ?_ | refine retI rfl ?_ | refine skipI rfl ?_)
      refine roundI (i + 1) rfl ?_ ?_ ?_
      · refine ⟨by show i + 1 ≤ xs.length; omega, fun j hj => ?_⟩
        by_cases hji : j = i
        · subst hji; exact c2
        · exact hb j (by omega)
      · show xs.length - (i + 1) < xs.length - i
        omega
      · repeat' (first | exact trivial | with_reducible exact rfl | refine And.intro ?_ ?_)
        all_goals rfl
  · simp only [decide_eq_false_iff_not] at c1
    repeat' (first | with_reducible (first | apply pN | apply cN | apply bN | apply cE | apply cR | apply bR | apply lE | apply lR | apply jE | apply jR) | refine bE rfl ?_ | refine bP rfl ?_ | refine pC (by first | exact ⟨⟩ | omega | (intros; first | exact ⟨⟩ | omega) | (simp only [lcQ, lnQ, tnQ]; omega)) ?_ | refine seqI rfl ?_ | refine regI rfl ?_ | refine scopeI rfl ?_ | refine blockI rfl ?_ | refine exitI rfl ?_ | refine retI rfl ?_ | refine skipI rfl ?_)
    refine endR rfl ?_
    repeat' (first | exact trivial | exact rfl | refine ⟨rfl, ?_⟩ | refine And.intro ?_ ?_)
    exact idxF_none (d := 0) fun j hj => hb j (by omega)
def sigIdxNeg : List (Nat × Spec) := [(96, idxNegS)]
theorem sigIdxNegOk : SigOk Try.prog (look sigIdxNeg) := sigCons sigNil Try.func96 (by kernel_rfl) (c := body Try.f96) rfl idxNegOk
def anyNegS : Spec := plain fun
  | [.sl (.int .i64) xs, .fn 85 [] []] => outV (xs.length ≤ 1000000000000) (.bool (xs.any negB))
  | _ => none
theorem anyNegOk : SpecSound Try.prog 84 anyNegS := by
  refine soundP (envOf sigIdxNegOk) Try.func84 (c := body Try.f84) rfl (by kernel_rfl) rfl ?_
  intro args out hf hpre
  split at hf <;> try (cases hf; done)
  rename_i xs
  cases hf
  refine ⟨Nat.le_of_ble_eq_true rfl, initI (args := [.sl tInt xs, .fn 85 [] []]) rfl ?_⟩
  change xs.length ≤ 1000000000000 at hpre
  repeat' (first | with_reducible (first | apply pN | apply cN | apply bN | apply cE | apply cR | apply bR | apply lE | apply lR | apply jE | apply jR) | refine bE rfl ?_ | refine bP rfl ?_ | refine pC (by first | exact ⟨⟩ | omega | (intros; first | exact ⟨⟩ | omega) | (simp only [lcQ, lnQ, tnQ]; omega) | exact hpre) ?_ | refine seqI rfl ?_ | refine regI rfl ?_ | refine scopeI rfl ?_ | refine blockI rfl ?_ | refine exitI rfl ?_ | refine retI rfl ?_ | refine skipI rfl ?_)
  refine endR rfl ?_
  repeat' (first | exact trivial | exact rfl | refine ⟨rfl, ?_⟩ | refine And.intro ?_ ?_)
  exact idxF_any.symm
def sigAnyNeg : List (Nat × Spec) := [(84, anyNegS)]
theorem sigAnyNegOk : SigOk Try.prog (look sigAnyNeg) := sigCons sigNil Try.func84 (by kernel_rfl) (c := body Try.f84) rfl anyNegOk
def missS : Spec := plain fun
  | [.sl (.int .i64) xs] => outV (xs.length ≤ 1000000000000) (.bool (xs.any negB))
  | _ => none
theorem missOk : SpecSound Try.prog 59 missS := by
  refine soundP (envOf sigAnyNegOk) Try.func59 (c := body Try.f59) rfl (by kernel_rfl) rfl ?_
  intro args out hf hpre
  split at hf <;> try (cases hf; done)
  rename_i xs
  cases hf
  refine ⟨Nat.le_of_ble_eq_true rfl, initI (args := [.sl tInt xs]) rfl ?_⟩
  change xs.length ≤ 1000000000000 at hpre
  repeat' (first | with_reducible (first | apply pN | apply cN | apply bN | apply cE | apply cR | apply bR | apply lE | apply lR | apply jE | apply jR) | refine bE rfl ?_ | refine bP rfl ?_ | refine pC (by first | exact ⟨⟩ | omega | (intros; first | exact ⟨⟩ | omega) | (simp only [lcQ, lnQ, tnQ]; omega) | exact hpre) ?_ | refine seqI rfl ?_ | refine regI rfl ?_ | refine scopeI rfl ?_ | refine blockI rfl ?_ | refine exitI rfl ?_ | refine retI rfl ?_ | refine skipI rfl ?_)
  refine endR rfl ?_
  repeat' (first | exact trivial | exact rfl | refine ⟨rfl, ?_⟩ | refine And.intro ?_ ?_)
def slotsG (b : Int) : List StT → List Int
  | [] => []
  | [x] => [sSt x - (mSt x + sMax x - 1 + b)]
  | x :: y :: r => [sSt x - (mSt x + sMax x - 1 + b), mSt y - (mSt x + sMax x + b), (if mTl y = mTl x then sSt y else mSt y) - (sSt x + sMax x + b)] ++ slotsG b (y :: r)
def slotsF (e b : Int) (xs : List StT) : List Int := (mSt (getI xs tStage.dflt 0) - (e + b)) :: slotsG b xs
def winM (xs : List StT) (w : WiT) : Int := mSt (getI xs tStage.dflt w.1.toNat) + sMin (getI xs tStage.dflt w.1.toNat) + w.2.2 - sSt (getI xs tStage.dflt w.2.1.toNat)
def windowsF (xs : List StT) (ws : List WiT) : List Int := ws.map (winM xs)
theorem slotsG_len {b : Int} : ∀ {xs : List StT}, (slotsG b xs).length ≤ 3 * xs.length
  | [] => by simp [slotsG]
  | [x] => by simp [slotsG]
  | x :: y :: r => by
    have := slotsG_len (b := b) (xs := y :: r)
    simp only [slotsG, List.length_append, List.length_cons, List.length_nil] at *
    omega
def sigM : List (Nat × Spec) := [(83, needS)]
theorem sigMOk : SigOk Try.prog (look sigM) := sigCons sigNil Try.func83 (by kernel_rfl) (c := body Try.f83) rfl needOk
theorem drop_getI {α : Type} {d : α} {l : List α} {i : Nat} (h : i < l.length) : l.drop i = getI l d i :: l.drop (i + 1) := by
  rw [List.drop_eq_getElem_cons h]
  congr 1
  simp [getI, List.getD, List.getElem?_eq_getElem h]
def StSm (mn mx ms ss : Int) : Prop := (0 ≤ mn ∧ mn ≤ 1000000) ∧ (0 ≤ mx ∧ mx ≤ 1000000) ∧ (0 ≤ ms ∧ ms ≤ 2000000) ∧ 0 ≤ ss ∧ ss ≤ 2000000
def SlotsP (e b : Int) (xs : List tStage.El) : Prop := (0 ≤ e ∧ e ≤ 1000000) ∧ (0 ≤ b ∧ b ≤ 1000000) ∧ (1 ≤ xs.length ∧ xs.length ≤ 1000) ∧ ∀ x ∈ xs, StSm x.1 x.2.1 x.2.2.1.2 x.2.2.2.2
def slotsS : Spec := plain fun
  | [.agg [.int .i64 e, .int .i64 a, .int .i64 b, .sl (.pair (.int .i64) (.pair (.int .i64) (.pair (.pair (.int .i64) (.int .i64)) (.pair (.int .i64) (.int .i64))))) xs, .sl (.pair (.int .i64) (.pair (.int .i64) (.int .i64))) ws]] =>
    some ⟨SlotsP e b xs, .own 0, [.seq tInt (slotsF e b xs)], false⟩
  | _ => none
theorem slotsG_cons {b : Int} {x y : StT} {r : List StT} : slotsG b (x :: y :: r) = [sSt x - (mSt x + sMax x - 1 + b), mSt y - (mSt x + sMax x + b), (if mTl y = mTl x then sSt y else mSt y) - (sSt x + sMax x + b)] ++ slotsG b (y :: r) := rfl
theorem slotsOk : SpecSound Try.prog 58 slotsS := by
  refine soundP (envOf sigMOk) Try.func58 (c := body Try.f58) rfl (by kernel_rfl) rfl ?_
  intro args out hf hpre
  split at hf <;> try (cases hf; done)
  rename_i e a b xs ws
  cases hf
  refine ⟨Nat.le_of_ble_eq_true rfl, initI (args := [.agg [.int .i64 e, .int .i64 a, .int .i64 b, .sl tStage xs, .sl tWin ws]]) rfl ?_⟩
  obtain ⟨he, hb, hn, hsm⟩ := hpre
  have hn0 : 0 < xs.length := hn.1
  have hS : ∀ i, i < xs.length → StSm (getI xs tStage.dflt i).1 (getI xs tStage.dflt i).2.1 (getI xs tStage.dflt i).2.2.1.2 (getI xs tStage.dflt i).2.2.2.2 := fun i hi => hsm _ (Pl.getI_mem hi)
  have hS0 := hS 0 hn0
  unfold StSm at hS0
  repeat' (first | with_reducible (first | apply pN | apply cN | apply bN | apply cE | apply cR | apply bR | apply lE | apply lR | apply jE | apply jR) | refine bE rfl ?_ | refine bP rfl ?_ | refine pC (by first | exact ⟨⟩ | omega | (intros; first | exact ⟨⟩ | omega) | (simp only [lcQ, lnQ, tnQ]; omega) | (show In64 _; simp only [Int.toNat_zero]; unfold In64; omega)) ?_ | refine seqI rfl ?_ | refine regI rfl ?_ | refine scopeI rfl ?_ | refine blockI rfl ?_ | refine exitI rfl ?_ | refine retI rfl ?_ | refine skipI rfl ?_)
  refine loopI (σ := Nat × List Int) (fun s => [(22, .int .i64 s.1)]) (fun s => [(2, .box [.own 3000]), (3000, .seq tInt s.2)]) (fun s => s.1 < xs.length ∧ s.2.length ≤ 3 * s.1 + 1 ∧ s.2 ++ slotsG b (xs.drop s.1) = slotsF e b xs) (fun s => xs.length - s.1) (0, [mSt (getI xs tStage.dflt 0) - (e + b)]) rfl (fun _ => rfl) rfl ?_ ?_ ?_
  · exact ⟨hn0, by simp, rfl⟩
  · repeat' (first | exact trivial | exact rfl | refine ⟨rfl, ?_⟩ | refine And.intro ?_ ?_)
  rintro ⟨i, acc⟩ ⟨hi, hl, hinv⟩
  dsimp only at hi hl hinv ⊢
  have hSi := hS i hi
  unfold StSm at hSi
  repeat' (first | with_reducible (first | apply pN | apply cN | apply bN | apply cE | apply cR | apply bR | apply lE | apply lR | apply jE | apply jR) | refine bE rfl ?_ | refine bP rfl ?_ | refine pC (by first | exact ⟨⟩ | omega | (intros; first | exact ⟨⟩ | omega) | (simp only [lcQ, lnQ, tnQ]; omega)) ?_ | refine seqI rfl ?_ | refine regI rfl ?_ | refine scopeI rfl ?_ | refine blockI rfl ?_ | refine exitI rfl ?_ | refine retI rfl ?_ | refine skipI rfl ?_)
  refine condI rfl (fun c1 => ?_) (fun c1 => ?_)
  · have hin : ((i : Int)).toNat = i := by omega
    repeat' (first | with_reducible (first | apply pN | apply cN | apply bN | apply cE | apply cR | apply bR | apply lE | apply lR | apply jE | apply jR) | refine bE rfl ?_ | refine bP rfl ?_ | refine seqI rfl ?_ | refine scopeI rfl ?_ | refine blockI rfl ?_ | refine exitI rfl ?_ | refine retI rfl ?_ | refine skipI rfl ?_)
    refine regI rfl ?_
    repeat' (first | with_reducible refine pN ?_ | refine pC (by first | exact ⟨⟩ | omega | (intros; first | exact ⟨⟩ | omega) | (simp only [lcQ, lnQ, tnQ]; omega) | (show In64 _ ∧ _; refine ⟨?_, ?_⟩; (unfold In64; omega); (show acc.length ≤ _; omega))) ?_)
    repeat with_reducible refine cN ?_
    repeat' (first | with_reducible (first | apply pN | apply cN | apply bN | apply cE | apply cR | apply bR | apply lE | apply lR | apply jE | apply jR) | refine bE rfl ?_ | refine bP rfl ?_ | refine seqI rfl ?_ | refine scopeI rfl ?_ | refine blockI rfl ?_ | refine exitI rfl ?_ | refine retI rfl ?_ | refine skipI rfl ?_)
    refine regI rfl ?_
    repeat' (first | with_reducible refine pN ?_ | refine pC (by first | exact ⟨⟩ | omega | (intros; first | exact ⟨⟩ | omega) | (simp only [lcQ, lnQ, tnQ]; omega) | (show In64 _ ∧ _; refine ⟨?_, ?_⟩; (unfold In64; omega); (show acc.length ≤ _; omega))) ?_)
    repeat with_reducible refine cN ?_
    repeat' (first | with_reducible (first | apply pN | apply cN | apply bN | apply cE | apply cR | apply bR | apply lE | apply lR | apply jE | apply jR) | refine bE rfl ?_ | refine bP rfl ?_ | refine seqI rfl ?_ | refine scopeI rfl ?_ | refine blockI rfl ?_ | refine exitI rfl ?_ | refine retI rfl ?_ | refine skipI rfl ?_)
    refine regI rfl ?_
    repeat' (first | with_reducible refine pN ?_ | refine pC (by first | exact ⟨⟩ | omega | (intros; first | exact ⟨⟩ | omega) | (simp only [lcQ, lnQ, tnQ]; omega) | (show In64 _ ∧ _; refine ⟨?_, ?_⟩; (unfold In64; omega); (show acc.length ≤ _; omega))) ?_)
    repeat with_reducible refine cN ?_
    refine condI rfl (fun c2 => ?_) (fun c2 => ?_)
    · simp only [decide_eq_true_eq] at c2
      have hlen : i + 1 = xs.length := by omega
      repeat' (first | with_reducible (first | apply pN | apply cN | apply bN | apply cE | apply cR | apply bR | apply lE | apply lR | apply jE | apply jR) | refine bE rfl ?_ | refine bP rfl ?_ | refine pC (by first | exact ⟨⟩ | omega | (intros; first | exact ⟨⟩ | omega) | (simp only [lcQ, lnQ, tnQ]; omega)) ?_ | refine seqI rfl ?_ | refine regI rfl ?_ | refine scopeI rfl ?_ | refine blockI rfl ?_ | refine exitI rfl ?_ | refine retI rfl ?_ | refine skipI rfl ?_)
      refine endR rfl ?_
      repeat' (first | exact trivial | exact rfl | refine ⟨rfl, ?_⟩ | refine And.intro ?_ ?_)
      rw [hin, ← hinv, drop_getI (d := tStage.dflt) hi, List.drop_eq_nil_of_le (by omega)]
      rfl
    · simp only [decide_eq_false_iff_not] at c2
      have hi1 : i + 1 < xs.length := by omega
      have hin1 : ((i : Int) + 1).toNat = i + 1 := by omega
      have hSj := hS (i + 1) hi1
      unfold StSm at hSj
      have hgo : slotsG b (xs.drop i) = [sSt (getI xs tStage.dflt i) - (mSt (getI xs tStage.dflt i) + sMax (getI xs tStage.dflt i) - 1 + b), mSt (getI xs tStage.dflt (i + 1)) - (mSt (getI xs tStage.dflt i) + sMax (getI xs tStage.dflt i) + b), (if mTl (getI xs tStage.dflt (i + 1)) = mTl (getI xs tStage.dflt i) then sSt (getI xs tStage.dflt (i + 1)) else mSt (getI xs tStage.dflt (i + 1))) - (sSt (getI xs tStage.dflt i) + sMax (getI xs tStage.dflt i) + b)] ++ slotsG b (xs.drop (i + 1)) := by
        rw [drop_getI (d := tStage.dflt) hi, drop_getI (d := tStage.dflt) hi1]
        exact slotsG_cons
      repeat' (first | with_reducible (first | apply pN | apply cN | apply bN | apply cE | apply cR | apply bR | apply lE | apply lR | apply jE | apply jR) | refine bE rfl ?_ | refine bP rfl ?_ | refine seqI rfl ?_ | refine scopeI rfl ?_ | refine blockI rfl ?_ | refine exitI rfl ?_ | refine retI rfl ?_ | refine skipI rfl ?_)
      refine regI rfl ?_
      repeat' (first | with_reducible refine pN ?_ | refine pC (by first | exact ⟨⟩ | omega | (intros; first | exact ⟨⟩ | omega) | (simp only [lcQ, lnQ, tnQ]; omega) | (show In64 _ ∧ _; refine ⟨?_, ?_⟩; (simp only [hin, hin1]; unfold In64; omega); (simp only [List.length_append, List.length_cons, List.length_nil]; omega))) ?_)
      repeat with_reducible refine cN ?_
      repeat' (first | with_reducible (first | apply pN | apply cN | apply bN | apply cE | apply cR | apply bR | apply lE | apply lR | apply jE | apply jR) | refine bE rfl ?_ | refine bP rfl ?_ | refine seqI rfl ?_ | refine scopeI rfl ?_ | refine blockI rfl ?_ | refine exitI rfl ?_ | refine retI rfl ?_ | refine skipI rfl ?_)
      refine regI rfl ?_
      repeat' (first | with_reducible refine pN ?_ | refine pC (by first | exact ⟨⟩ | omega | (intros; first | exact ⟨⟩ | omega) | (simp only [lcQ, lnQ, tnQ]; omega) | (show In64 _ ∧ _; refine ⟨?_, ?_⟩; (simp only [hin, hin1]; unfold In64; omega); (simp only [List.length_append, List.length_cons, List.length_nil]; omega))) ?_)
      repeat with_reducible refine cN ?_
      repeat' (first | with_reducible (first | apply pN | apply cN | apply bN | apply cE | apply cR | apply bR | apply lE | apply lR | apply jE | apply jR) | refine bE rfl ?_ | refine bP rfl ?_ | refine seqI rfl ?_ | refine scopeI rfl ?_ | refine blockI rfl ?_ | refine exitI rfl ?_ | refine retI rfl ?_ | refine skipI rfl ?_)
      refine regI rfl ?_
      repeat' (first | with_reducible refine pN ?_ | refine pC (by first | exact ⟨⟩ | omega | (intros; first | exact ⟨⟩ | omega) | (simp only [lcQ, lnQ, tnQ]; omega) | (show In64 _ ∧ _; refine ⟨?_, ?_⟩; (simp only [hin, hin1]; unfold In64; omega); (simp only [List.length_append, List.length_cons, List.length_nil]; omega))) ?_)
      repeat with_reducible refine cN ?_
      repeat' (first | with_reducible (first | apply pN | apply cN | apply bN | apply cE | apply cR | apply bR | apply lE | apply lR | apply jE | apply jR) | refine bE rfl ?_ | refine bP rfl ?_ | refine seqI rfl ?_ | refine scopeI rfl ?_ | refine blockI rfl ?_ | refine exitI rfl ?_ | refine retI rfl ?_ | refine skipI rfl ?_)
      refine regI rfl ?_
      repeat' (first | with_reducible refine pN ?_ | refine pC (by first | exact ⟨⟩ | omega | (intros; first | exact ⟨⟩ | omega) | (simp only [lcQ, lnQ, tnQ]; omega) | (show In64 _ ∧ _; refine ⟨?_, ?_⟩; (simp only [hin, hin1]; unfold In64; omega); (simp only [List.length_append, List.length_cons, List.length_nil]; omega))) ?_)
      repeat with_reducible refine cN ?_
      refine condI rfl (fun c3 => ?_) (fun c3 => ?_)
      · have c3' : mTl (getI xs tStage.dflt (i + 1)) = mTl (getI xs tStage.dflt i) := by
          simp only [decide_eq_true_eq, hin, hin1] at c3
          exact c3
        rw [if_pos c3'] at hgo
        repeat' (first | with_reducible (first | apply pN | apply cN | apply bN | apply cE | apply cR | apply bR | apply lE | apply lR | apply jE | apply jR) | refine bE rfl ?_ | refine bP rfl ?_ | refine pC (by first | exact ⟨⟩ | omega | (intros; first | exact ⟨⟩ | omega) | (simp only [lcQ, lnQ, tnQ]; omega) | (show In64 _ ∧ _; refine ⟨?_, ?_⟩; (simp only [hin, hin1]; unfold In64; omega); (simp only [List.length_append, List.length_cons, List.length_nil]; omega))) ?_ | refine seqI rfl ?_ | refine regI rfl ?_ | refine scopeI rfl ?_ | refine blockI rfl ?_ | refine exitI rfl ?_ | refine retI rfl ?_ | refine skipI rfl ?_)
        refine roundI (i + 1, acc ++ [sSt (getI xs tStage.dflt i) - (mSt (getI xs tStage.dflt i) + sMax (getI xs tStage.dflt i) - 1 + b), mSt (getI xs tStage.dflt (i + 1)) - (mSt (getI xs tStage.dflt i) + sMax (getI xs tStage.dflt i) + b), sSt (getI xs tStage.dflt (i + 1)) - (sSt (getI xs tStage.dflt i) + sMax (getI xs tStage.dflt i) + b)]) rfl ?_ ?_ ?_
        · refine ⟨hi1, by simp only [List.length_append, List.length_cons, List.length_nil]; omega, ?_⟩
          rw [hgo, ← List.append_assoc] at hinv
          exact hinv
        · show xs.length - (i + 1) < xs.length - i
          omega
        · repeat' (first | exact trivial | with_reducible exact rfl | refine And.intro ?_ ?_)
          all_goals (simp only [hin, hin1, List.append_assoc]; rfl)
      · have c3' : ¬ mTl (getI xs tStage.dflt (i + 1)) = mTl (getI xs tStage.dflt i) := by
          simp only [decide_eq_false_iff_not, hin, hin1] at c3
          exact c3
        rw [if_neg c3'] at hgo
        repeat' (first | with_reducible (first | apply pN | apply cN | apply bN | apply cE | apply cR | apply bR | apply lE | apply lR | apply jE | apply jR) | refine bE rfl ?_ | refine bP rfl ?_ | refine pC (by first | exact ⟨⟩ | omega | (intros; first | exact ⟨⟩ | omega) | (simp only [lcQ, lnQ, tnQ]; omega) | (show In64 _ ∧ _; refine ⟨?_, ?_⟩; (simp only [hin, hin1]; unfold In64; omega); (simp only [List.length_append, List.length_cons, List.length_nil]; omega))) ?_ | refine seqI rfl ?_ | refine regI rfl ?_ | refine scopeI rfl ?_ | refine blockI rfl ?_ | refine exitI rfl ?_ | refine retI rfl ?_ | refine skipI rfl ?_)
        refine roundI (i + 1, acc ++ [sSt (getI xs tStage.dflt i) - (mSt (getI xs tStage.dflt i) + sMax (getI xs tStage.dflt i) - 1 + b), mSt (getI xs tStage.dflt (i + 1)) - (mSt (getI xs tStage.dflt i) + sMax (getI xs tStage.dflt i) + b), mSt (getI xs tStage.dflt (i + 1)) - (sSt (getI xs tStage.dflt i) + sMax (getI xs tStage.dflt i) + b)]) rfl ?_ ?_ ?_
        · refine ⟨hi1, by simp only [List.length_append, List.length_cons, List.length_nil]; omega, ?_⟩
          rw [hgo, ← List.append_assoc] at hinv
          exact hinv
        · show xs.length - (i + 1) < xs.length - i
          omega
        · repeat' (first | exact trivial | with_reducible exact rfl | refine And.intro ?_ ?_)
          all_goals (simp only [hin, hin1, List.append_assoc]; rfl)
  · simp only [decide_eq_false_iff_not] at c1
    omega
def WiSm (n : Nat) (f t l : Int) : Prop := 0 ≤ f ∧ f < (n : Int) ∧ 0 ≤ t ∧ t < (n : Int) ∧ 0 ≤ l ∧ l ≤ 1000000
def WinP (xs : List tStage.El) (ws : List tWin.El) : Prop := ws.length ≤ 1000 ∧ (∀ x ∈ xs, StSm x.1 x.2.1 x.2.2.1.2 x.2.2.2.2) ∧ ∀ w ∈ ws, WiSm xs.length w.1 w.2.1 w.2.2
def windowsS : Spec := plain fun
  | [.agg [.int .i64 e, .int .i64 a, .int .i64 b, .sl (.pair (.int .i64) (.pair (.int .i64) (.pair (.pair (.int .i64) (.int .i64)) (.pair (.int .i64) (.int .i64))))) xs, .sl (.pair (.int .i64) (.pair (.int .i64) (.int .i64))) ws]] =>
    some ⟨WinP xs ws, .own 0, [.seq tInt (windowsF xs ws)], false⟩
  | _ => none
theorem take_getI {α : Type} {d : α} {l : List α} {i : Nat} (h : i < l.length) : l.take (i + 1) = l.take i ++ [getI l d i] := by
  rw [List.take_succ_eq_append_getElem h]
  simp [getI, List.getD, List.getElem?_eq_getElem h]
theorem windowsOk : SpecSound Try.prog 60 windowsS := by
  refine soundP (envOf sigMOk) Try.func60 (c := body Try.f60) rfl (by kernel_rfl) rfl ?_
  intro args out hf hpre
  split at hf <;> try (cases hf; done)
  rename_i e a b xs ws
  cases hf
  refine ⟨Nat.le_of_ble_eq_true rfl, initI (args := [.agg [.int .i64 e, .int .i64 a, .int .i64 b, .sl tStage xs, .sl tWin ws]]) rfl ?_⟩
  obtain ⟨hl, hsm, hws⟩ := hpre
  have hS : ∀ i, i < xs.length → StSm (getI xs tStage.dflt i).1 (getI xs tStage.dflt i).2.1 (getI xs tStage.dflt i).2.2.1.2 (getI xs tStage.dflt i).2.2.2.2 := fun i hi => hsm _ (Pl.getI_mem hi)
  have hW : ∀ i, i < ws.length → WiSm xs.length (getI ws tWin.dflt i).1 (getI ws tWin.dflt i).2.1 (getI ws tWin.dflt i).2.2 := fun i hi => hws _ (Pl.getI_mem hi)
  repeat' (first | with_reducible (first | apply pN | apply cN | apply bN | apply cE | apply cR | apply bR | apply lE | apply lR | apply jE | apply jR) | refine bE rfl ?_ | refine bP rfl ?_ | refine pC (by first | exact ⟨⟩ | omega | (intros; first | exact ⟨⟩ | omega) | (simp only [lcQ, lnQ, tnQ]; omega)) ?_ | refine seqI rfl ?_ | refine regI rfl ?_ | refine scopeI rfl ?_ | refine blockI rfl ?_ | refine exitI rfl ?_ | refine retI rfl ?_ | refine skipI rfl ?_)
  refine loopI (σ := Nat) (fun i => [(9, .int .i64 i)]) (fun i => [(2, .box [.own 3000]), (3000, .seq tInt (windowsF xs (ws.take i)))]) (fun i => i ≤ ws.length) (fun i => ws.length - i) 0 rfl (fun _ => rfl) rfl ?_ ?_ ?_
  · exact Nat.zero_le _
  · repeat' (first | exact trivial | exact rfl | refine ⟨rfl, ?_⟩ | refine And.intro ?_ ?_)
  intro i hi
  repeat' (first | with_reducible (first | apply pN | apply cN | apply bN | apply cE | apply cR | apply bR | apply lE | apply lR | apply jE | apply jR) | refine bE rfl ?_ | refine bP rfl ?_ | refine pC (by first | exact ⟨⟩ | omega | (intros; first | exact ⟨⟩ | omega) | (simp only [lcQ, lnQ, tnQ]; omega)) ?_ | refine seqI rfl ?_ | refine regI rfl ?_ | refine scopeI rfl ?_ | refine blockI rfl ?_ | refine exitI rfl ?_ | refine retI rfl ?_ | refine skipI rfl ?_)
  refine condI rfl (fun c1 => ?_) (fun c1 => ?_)
  · simp only [decide_eq_true_eq] at c1
    have hil : i < ws.length := by omega
    have hin : ((i : Int)).toNat = i := by omega
    have hWi := hW i hil
    have hlt : (windowsF xs (ws.take i)).length = i := by unfold windowsF; rw [List.length_map, List.length_take]; omega
    unfold WiSm at hWi
    have hf1 := hS (getI ws tWin.dflt i).1.toNat (by omega)
    have hf2 := hS (getI ws tWin.dflt i).2.1.toNat (by omega)
    unfold StSm at hf1 hf2
    repeat' (first | with_reducible (first | apply pN | apply cN | apply bN | apply cE | apply cR | apply bR | apply lE | apply lR | apply jE | apply jR) | refine bE rfl ?_ | refine bP rfl ?_ | refine pC (by first | exact ⟨⟩ | omega | (intros; first | exact ⟨⟩ | omega) | (simp only [lcQ, lnQ, tnQ]; omega) | first | (simp only [hin]; omega) | (show In64 _ ∧ _; refine ⟨?_, ?_⟩; (simp only [hin]; unfold In64; omega); (rw [hlt]; omega))) ?_ | refine seqI rfl ?_ | refine regI rfl ?_ | refine scopeI rfl ?_ | refine blockI rfl ?_ | refine exitI rfl ?_ | refine retI rfl ?_ | refine skipI rfl ?_)
    refine roundI (i + 1) rfl ?_ ?_ ?_
    · show i + 1 ≤ ws.length
      omega
    · show ws.length - (i + 1) < ws.length - i
      omega
    · repeat' (first | exact trivial | with_reducible exact rfl | refine And.intro ?_ ?_)
      all_goals (first | rfl | (unfold windowsF; rw [take_getI (d := tWin.dflt) hil, List.map_append]; simp only [hin]; rfl) | (unfold windowsF; rw [take_getI (d := tWin.dflt) hil, List.map_append]; rfl))
  · simp only [decide_eq_false_iff_not] at c1
    repeat' (first | with_reducible (first | apply pN | apply cN | apply bN | apply cE | apply cR | apply bR | apply lE | apply lR | apply jE | apply jR) | refine bE rfl ?_ | refine bP rfl ?_ | refine pC (by first | exact ⟨⟩ | omega | (intros; first | exact ⟨⟩ | omega) | (simp only [lcQ, lnQ, tnQ]; omega)) ?_ | refine seqI rfl ?_ | refine regI rfl ?_ | refine scopeI rfl ?_ | refine blockI rfl ?_ | refine exitI rfl ?_ | refine retI rfl ?_ | refine skipI rfl ?_)
    refine endR rfl ?_
    repeat' (first | exact trivial | exact rfl | refine ⟨rfl, ?_⟩ | refine And.intro ?_ ?_)
    rw [List.take_of_length_le (by omega)]
def safeF (e a b : Int) (xs : List tStage.El) (ws : List tWin.El) : Bool := Pl.validF e a b xs ws && !(slotsF e b xs).any negB && !(windowsF xs ws).any negB
def sigSafe : List (Nat × Spec) := [(35, Pl.validS), (58, slotsS), (60, windowsS), (59, missS)]
theorem sigSafeOk : SigOk Try.prog (look sigSafe) := sigCons (sigCons (sigCons (sigCons sigNil
  Try.func59 (by kernel_rfl) (c := body Try.f59) rfl missOk)
  Try.func60 (by kernel_rfl) (c := body Try.f60) rfl windowsOk)
  Try.func58 (by kernel_rfl) (c := body Try.f58) rfl slotsOk)
  Try.func35 (by kernel_rfl) (c := body Try.f35) rfl Pl.validOk
def isSafeS : Spec := plain fun
  | [.agg [.int .i64 e, .int .i64 a, .int .i64 b, .sl (.pair (.int .i64) (.pair (.int .i64) (.pair (.pair (.int .i64) (.int .i64)) (.pair (.int .i64) (.int .i64))))) xs, .sl (.pair (.int .i64) (.pair (.int .i64) (.int .i64))) ws]] =>
    outV True (.bool (safeF e a b xs ws))
  | _ => none
theorem facts_slots {e a b : Int} {xs : List tStage.El} {ws : List tWin.El} (F : Pl.Facts e a b xs ws) : SlotsP e b xs ∧ WinP xs ws := by
  have hsm : ∀ x ∈ xs, StSm x.1 x.2.1 x.2.2.1.2 x.2.2.2.2 := fun x hx => by
    obtain ⟨i, hi, rfl⟩ := List.getElem_of_mem hx
    have := F.st i hi
    have e : getI xs tStage.dflt i = xs[i] := by simp [getI, List.getD, List.getElem?_eq_getElem hi]
    rw [e] at this
    unfold Pl.StOk at this
    unfold StSm
    omega
  have h1 := F.e
  have h2 := F.ab
  have h3 := F.n
  refine ⟨⟨h1, by omega, by omega, hsm⟩, by have := F.w; omega, hsm, fun w hw => ?_⟩
  obtain ⟨i, hi, rfl⟩ := List.getElem_of_mem hw
  have := F.ws i hi
  have e : getI ws tWin.dflt i = ws[i] := by simp [getI, List.getD, List.getElem?_eq_getElem hi]
  rw [e] at this
  unfold Pl.WiOk at this
  unfold WiSm
  omega
theorem isSafeOk : SpecSound Try.prog 34 isSafeS := by
  refine soundP (envOf sigSafeOk) Try.func34 (c := body Try.f34) rfl (by kernel_rfl) rfl ?_
  intro args out hf hpre
  split at hf <;> try (cases hf; done)
  rename_i e a b xs ws
  cases hf
  refine ⟨Nat.le_of_ble_eq_true rfl, initI (args := [.agg [.int .i64 e, .int .i64 a, .int .i64 b, .sl tStage xs, .sl tWin ws]]) rfl ?_⟩
  refine seqI rfl ?_
  refine regI rfl ?_
  repeat' (first | with_reducible refine pN ?_ | refine pC (by first | exact ⟨⟩ | omega | (intros; first | exact ⟨⟩ | omega) | (simp only [lcQ, lnQ, tnQ]; omega)) ?_)
  with_reducible refine cN ?_
  cases hv : Pl.validF e a b xs ws with
  | false =>
    refine seqI rfl ?_
    refine regH [(5, false), (11, false)] rfl ?_
    repeat' (first | with_reducible refine pN ?_ | refine pC (by first | exact hv | rfl | trivial) ?_)
    repeat' (first | with_reducible (first | apply pN | apply cN | apply bN | apply cE | apply cR | apply bR | apply lE | apply lR | apply jE | apply jR) | refine bE rfl ?_ | refine bP rfl ?_ | refine pC (by first | exact ⟨⟩ | omega | (intros; first | exact ⟨⟩ | omega) | (simp only [lcQ, lnQ, tnQ]; omega)) ?_ | refine seqI rfl ?_ | refine regI rfl ?_ | refine scopeI rfl ?_ | refine blockI rfl ?_ | refine exitI rfl ?_ | refine retI rfl ?_ | refine skipI rfl ?_)
    refine endR rfl ?_
    repeat' (first | exact trivial | exact rfl | refine ⟨rfl, ?_⟩ | refine And.intro ?_ ?_)
    unfold safeF
    rw [hv]
    rfl
  | true =>
    have F := Pl.valid_facts hv
    obtain ⟨h1, h2⟩ := facts_slots F
    have hl1 : (slotsF e b xs).length ≤ 1000000000000 := by
      have := slotsG_len (b := b) (xs := xs)
      have h3 := h1.2.2.1.2
      show (slotsG b xs).length + 1 ≤ _
      omega
    have hl2 : (windowsF xs ws).length ≤ 1000000000000 := by
      have := h2.1
      unfold windowsF
      rw [List.length_map]
      omega
    cases hm : (slotsF e b xs).any negB with
    | true =>
      refine seqI rfl ?_
      refine regH [(5, true), (11, false)] rfl ?_
      repeat' (first | with_reducible refine pN ?_ | refine pC (by first | exact hv | exact h1 | exact hl1 | (rw [hm]; rfl) | rfl | trivial) ?_)
      repeat' (first | with_reducible (first | apply pN | apply cN | apply bN | apply cE | apply cR | apply bR | apply lE | apply lR | apply jE | apply jR) | refine bE rfl ?_ | refine bP rfl ?_ | refine pC (by first | exact ⟨⟩ | omega | (intros; first | exact ⟨⟩ | omega) | (simp only [lcQ, lnQ, tnQ]; omega)) ?_ | refine seqI rfl ?_ | refine regI rfl ?_ | refine scopeI rfl ?_ | refine blockI rfl ?_ | refine exitI rfl ?_ | refine retI rfl ?_ | refine skipI rfl ?_)
      refine endR rfl ?_
      repeat' (first | exact trivial | exact rfl | refine ⟨rfl, ?_⟩ | refine And.intro ?_ ?_)
      unfold safeF
      rw [hv, hm]
      rfl
    | false =>
      refine seqI rfl ?_
      refine regH [(5, true), (11, true)] rfl ?_
      repeat' (first | with_reducible refine pN ?_ | refine pC (by first | exact hv | exact h1 | exact h2 | exact hl1 | exact hl2 | (rw [hm]; rfl) | rfl | trivial) ?_)
      repeat' (first | with_reducible (first | apply pN | apply cN | apply bN | apply cE | apply cR | apply bR | apply lE | apply lR | apply jE | apply jR) | refine bE rfl ?_ | refine bP rfl ?_ | refine pC (by first | exact ⟨⟩ | omega | (intros; first | exact ⟨⟩ | omega) | (simp only [lcQ, lnQ, tnQ]; omega)) ?_ | refine seqI rfl ?_ | refine regI rfl ?_ | refine scopeI rfl ?_ | refine blockI rfl ?_ | refine exitI rfl ?_ | refine retI rfl ?_ | refine skipI rfl ?_)
      refine endR rfl ?_
      repeat' (first | exact trivial | exact rfl | refine ⟨rfl, ?_⟩ | refine And.intro ?_ ?_)
      unfold safeF
      rw [hv, hm]
      rfl
end Go.AM.Ytmjeocinfoeeeaa.Re
end

section
set_option linter.all false
namespace Go.AM.Ytmjeocinfoeeeaa.Re
open Go.Proofs
set_option maxRecDepth 100000
set_option maxHeartbeats 4000000
abbrev CalT := List (List Bk.El)
def bookG (xss : CalT) (tl fr ln : Int) : CalT := bif (firstF xss tl fr ln).2 then bookF xss (tl, (firstF xss tl fr ln).1, (firstF xss tl fr ln).1 + ln, 1) else xss
theorem first_facts {xss : CalT} (h : CalG xss) {tl fr ln : Int} (hf : (firstF xss tl fr ln).2 = true) :
    (0 ≤ tl ∧ tl < 60 ∧ 1 ≤ ln) ∧ (max fr 0 ≤ (firstF xss tl fr ln).1 ∧ (firstF xss tl fr ln).1 + ln ≤ 1000000) ∧ freeF xss (tl, (firstF xss tl fr ln).1, (firstF xss tl fr ln).1 + ln, 1) = true := by
  unfold firstF at hf ⊢
  split at hf
  · rename_i hc
    rw [if_pos hc]
    obtain ⟨ht, hl⟩ := hc
    obtain ⟨h0, h1⟩ := toolB_true ht
    obtain ⟨a, r⟩ : ∃ x, x = firstG (gapsL (toolL xss tl) (max fr 0)) ln := ⟨_, rfl⟩
    obtain ⟨a, b⟩ := a
    rw [← r] at hf ⊢
    obtain rfl : b = true := hf
    obtain ⟨k1, k2, k3, _⟩ := first_yes (h.tool h0 h1) (by omega) hl r.symm
    refine ⟨⟨h0, h1, hl⟩, ⟨k1, k2⟩, free_iff.2 ⟨⟨h0, h1, by show 0 ≤ a; omega, by show a < a + ln; omega, by show a + ln ≤ 1000000; omega, by show (1 : Int) ≤ 1; omega, by show (1 : Int) ≤ 1000000; omega⟩, fun c hc hm => k3 c hc hm⟩⟩
  · cases hf
theorem bookG_good {xss : CalT} (h : CalG xss) (tl fr ln : Int) : CalG (bookG xss tl fr ln) ∧ lenF (bookG xss tl fr ln) ≤ lenF xss + 1 := by
  unfold bookG
  cases (firstF xss tl fr ln).2
  · exact ⟨h, by simp⟩
  · exact book_good h _
def rbookS : Spec := ⟨true, fun args rows => match args, rows with
  | [.ptr 0 0, .int .i64 tl, .int .i64 fr, .int .i64 ln], [.arr (.pair (.int .i64) (.pair (.int .i64) (.pair (.int .i64) (.int .i64)))) xss none] =>
    some ⟨CalG xss ∧ lenF xss ≤ 900000, .tup [.agg [.int .i64 tl, .int .i64 (firstF xss tl fr ln).1], .bool (firstF xss tl fr ln).2], [.arr Bk (bookG xss tl fr ln) none], true⟩
  | _, _ => none⟩
def sigRb : List (Nat × Spec) := [(95, firstS), (17, bookS)]
theorem sigRbOk : SigOk Try.prog (look sigRb) := sigCons (sigCons sigNil
  Try.func17 (by kernel_rfl) (c := body Try.f17) rfl bookOk)
  Try.func95 (by kernel_rfl) (c := body Try.f95) rfl firstOk
theorem rbookOk : SpecSound Try.prog 82 rbookS := by
  refine soundR (envOf sigRbOk) Try.func82 (c := body Try.f82) rfl (by kernel_rfl) rfl ?_
  intro args rows out hf hpre
  split at hf <;> try (cases hf; done)
  rename_i tl fr ln xss
  cases hf
  refine ⟨Nat.le_of_ble_eq_true rfl, initI (args := [.ptr 0 0, .int .i64 tl, .int .i64 fr, .int .i64 ln]) (rows := [.arr Bk xss none]) rfl ?_⟩
  obtain ⟨hg, hl⟩ := hpre
  have hcal := hg.cal (by omega)
  have hso := hg.sorted
  obtain ⟨bg, hbg⟩ : ∃ bg, bg = bookG xss tl fr ln := ⟨_, rfl⟩
  rw [← hbg]
  repeat' (first | with_reducible (first | apply pN | apply cN | apply bN | apply cE | apply cR | apply bR | apply lE | apply lR | apply jE | apply jR) | refine bE rfl ?_ | refine bP rfl ?_ | refine pC (by first | exact ⟨⟩ | omega | (intros; first | exact ⟨⟩ | omega) | (simp only [lcQ, lnQ, tnQ]; omega) | exact hcal) ?_ | refine seqI rfl ?_ | refine regI rfl ?_ | refine scopeI rfl ?_ | refine blockI rfl ?_ | refine exitI rfl ?_ | refine retI rfl ?_ | refine skipI rfl ?_)
  refine condI rfl (fun c1 => ?_) (fun c1 => ?_)
  · obtain ⟨⟨h0, h1, h2⟩, ⟨h3, h4⟩, _⟩ := first_facts hg c1
    unfold bookG at hbg
    rw [c1] at hbg
    repeat' (first | with_reducible (first | apply pN | apply cN | apply bN | apply cE | apply cR | apply bR | apply lE | apply lR | apply jE | apply jR) | refine bE rfl ?_ | refine bP rfl ?_ | refine pC (by first | exact ⟨⟩ | omega | (intros; first | exact ⟨⟩ | omega) | (simp only [lcQ, lnQ, tnQ]; omega) | first | exact ⟨hcal, hso⟩ | (unfold In64; omega)) ?_ | refine seqI rfl ?_ | refine regI rfl ?_ | refine scopeI rfl ?_ | refine blockI rfl ?_ | refine exitI rfl ?_ | refine retI rfl ?_ | refine skipI rfl ?_)
    refine endR rfl ?_
    repeat' (first | exact trivial | exact rfl | refine ⟨rfl, ?_⟩ | refine And.intro ?_ ?_)
    exact hbg
  · unfold bookG at hbg
    rw [c1] at hbg
    repeat' (first | with_reducible (first | apply pN | apply cN | apply bN | apply cE | apply cR | apply bR | apply lE | apply lR | apply jE | apply jR) | refine bE rfl ?_ | refine bP rfl ?_ | refine pC (by first | exact ⟨⟩ | omega | (intros; first | exact ⟨⟩ | omega) | (simp only [lcQ, lnQ, tnQ]; omega)) ?_ | refine seqI rfl ?_ | refine regI rfl ?_ | refine scopeI rfl ?_ | refine blockI rfl ?_ | refine exitI rfl ?_ | refine retI rfl ?_ | refine skipI rfl ?_)
    refine endR rfl ?_
    repeat' (first | exact trivial | exact rfl | refine ⟨rfl, ?_⟩ | refine And.intro ?_ ?_)
    exact hbg
def endS : Spec := plain fun
  | [.agg [.int .i64 mn, .int .i64 mx, .int .i64 mt, .int .i64 ms, .int .i64 st, .int .i64 ss]] => outV (In64 (max ms ss + mx)) (.int .i64 (max ms ss + mx))
  | _ => none
theorem endOk : SpecSound Try.prog 57 endS := by
  refine soundP (envOf sigNil) Try.func57 (c := body Try.f57) rfl (by kernel_rfl) rfl ?_
  intro args out hf hpre
  split at hf <;> try (cases hf; done)
  rename_i mn mx mt ms st ss
  cases hf
  refine ⟨Nat.le_of_ble_eq_true rfl, initI (args := [.agg [.int .i64 mn, .int .i64 mx, .int .i64 mt, .int .i64 ms, .int .i64 st, .int .i64 ss]]) rfl ?_⟩
  repeat' (first | with_reducible (first | apply pN | apply cN | apply bN | apply cE | apply cR | apply bR | apply lE | apply lR | apply jE | apply jR) | refine bE rfl ?_ | refine bP rfl ?_ | refine pC (by first | exact ⟨⟩ | omega | (intros; first | exact ⟨⟩ | omega) | (simp only [lcQ, lnQ, tnQ]; omega) | exact hpre) ?_ | refine seqI rfl ?_ | refine regI rfl ?_ | refine scopeI rfl ?_ | refine blockI rfl ?_ | refine exitI rfl ?_ | refine retI rfl ?_ | refine skipI rfl ?_)
  refine endR rfl ?_
  repeat' (first | exact trivial | exact rfl | refine ⟨rfl, ?_⟩ | refine And.intro ?_ ?_)
def cloneWN : Spec := plain fun
  | [.ext (.nl (.pair (.int .i64) (.pair (.int .i64) (.int .i64))))] => some ⟨True, .own 0, [.seq tWin []], false⟩
  | _ => none
theorem cloneWNOk : SpecSound Try.prog 81 cloneWN := by
  refine soundP (envOf sigNil) Try.func81 (c := body Try.f81) rfl (by kernel_rfl) rfl ?_
  intro args out hf hpre
  split at hf <;> try (cases hf; done)
  cases hf
  refine ⟨Nat.le_of_ble_eq_true rfl, initI rfl ?_⟩
  repeat' (first | with_reducible (first | apply pN | apply cN | apply bN | apply cE | apply cR | apply bR | apply lE | apply lR | apply jE | apply jR) | refine bE rfl ?_ | refine bP rfl ?_ | refine pC (by first | exact ⟨⟩ | omega | (intros; first | exact ⟨⟩ | omega) | (simp only [lcQ, lnQ, tnQ]; omega)) ?_ | refine seqI rfl ?_ | refine regI rfl ?_ | refine scopeI rfl ?_ | refine blockI rfl ?_ | refine exitI rfl ?_ | refine retI rfl ?_ | refine skipI rfl ?_)
  refine condT rfl ?_
  repeat' (first | with_reducible (first | apply pN | apply cN | apply bN | apply cE | apply cR | apply bR | apply lE | apply lR | apply jE | apply jR) | refine bE rfl ?_ | refine bP rfl ?_ | refine pC (by first | exact ⟨⟩ | omega | (intros; first | exact ⟨⟩ | omega) | (simp only [lcQ, lnQ, tnQ]; omega)) ?_ | refine seqI rfl ?_ | refine regI rfl ?_ | refine scopeI rfl ?_ | refine blockI rfl ?_ | refine exitI rfl ?_ | refine retI rfl ?_ | refine skipI rfl ?_)
  refine endR rfl ?_
  repeat' (first | exact trivial | exact rfl | refine ⟨rfl, ?_⟩ | refine And.intro ?_ ?_)
def cloneWM : Spec := plain fun
  | [.ext (.nn (.pair (.int .i64) (.pair (.int .i64) (.int .i64))) xs)] => some ⟨xs.length * 24 ≤ 140737488355328, .own 0, [.seq tWin xs], false⟩
  | _ => none
theorem cloneWMOk : SpecSound Try.prog 81 cloneWM := by
  refine soundP (envOf sigNil) Try.func81 (c := body Try.f81) rfl (by kernel_rfl) rfl ?_
  intro args out hf hpre
  split at hf <;> try (cases hf; done)
  rename_i xs
  cases hf
  refine ⟨Nat.le_of_ble_eq_true rfl, initI (args := [.ext (.nn tWin xs)]) rfl ?_⟩
  change xs.length * 24 ≤ 140737488355328 at hpre
  repeat' (first | with_reducible (first | apply pN | apply cN | apply bN | apply cE | apply cR | apply bR | apply lE | apply lR | apply jE | apply jR) | refine bE rfl ?_ | refine bP rfl ?_ | refine pC (by first | exact ⟨⟩ | omega | (intros; first | exact ⟨⟩ | omega) | (simp only [lcQ, lnQ, tnQ]; omega)) ?_ | refine seqI rfl ?_ | refine regI rfl ?_ | refine scopeI rfl ?_ | refine blockI rfl ?_ | refine exitI rfl ?_ | refine retI rfl ?_ | refine skipI rfl ?_)
  refine condF rfl ?_
  repeat' (first | with_reducible (first | apply pN | apply cN | apply bN | apply cE | apply cR | apply bR | apply lE | apply lR | apply jE | apply jR) | refine bE rfl ?_ | refine bP rfl ?_ | refine pC (by first | exact ⟨⟩ | omega | (intros; first | exact ⟨⟩ | omega) | (simp only [lcQ, lnQ, tnQ]; omega) | first | exact hpre | (simp; omega)) ?_ | refine seqI rfl ?_ | refine regI rfl ?_ | refine scopeI rfl ?_ | refine blockI rfl ?_ | refine exitI rfl ?_ | refine retI rfl ?_ | refine skipI rfl ?_)
  refine endR rfl ?_
  repeat' (first | exact trivial | exact rfl | refine ⟨rfl, ?_⟩ | refine And.intro ?_ ?_)
def cloneWS : Spec := plain fun
  | [.sl (.pair (.int .i64) (.pair (.int .i64) (.int .i64))) xs] => some ⟨xs.length * 24 ≤ 140737488355328, .own 0, [.seq tWin xs], false⟩
  | _ => none
theorem cloneWOk : SpecSound Try.prog 81 cloneWS := by
  intro args rows out hf hpre hr w0 g0 R0 vals h1 h2 h3 h4 h5
  unfold cloneWS plain at hf
  dsimp only at hf
  split at hf <;> try (cases hf; done)
  rename_i xs
  cases hf
  cases h5 with
  | cons h5 h6 =>
  cases h6
  cases h5 with
  | sl hrd =>
  obtain ⟨a, cap, rfl, hc1, hc2, hc3, hc4⟩ := hrd
  cases a with
  | none =>
    obtain rfl : xs = [] := by
      cases xs with
      | nil => rfl
      | cons x r => obtain ⟨_, _, h, _⟩ := hc4 (by simp); cases h
    exact cloneWNOk [.ext (.nl tWin)] rows _ rfl trivial (fun _ => hr rfl) w0 g0 R0 _ h1 h2 h3 h4 (.cons (.ext ⟨cap, rfl, hc2⟩) .nil)
  | some a =>
    exact cloneWMOk [.ext (.nn tWin xs)] rows _ rfl hpre (fun _ => hr rfl) w0 g0 R0 _ h1 h2 h3 h4 (.cons (.ext ⟨⟨some a, cap, rfl, hc1, hc2, hc3, hc4⟩, a, _, _, rfl⟩) .nil)
end Go.AM.Ytmjeocinfoeeeaa.Re
end
