/- The law PlanRefuses: her function. -/
import Derived.Test.YtgpnkpiinmicgaaWkFail
set_option linter.all false
namespace Go.AM.Ytgpnkpiinmicgaa
open Go.Proofs
set_option maxRecDepth 100000
set_option maxHeartbeats 8000000

def sigLaw3 : List (Nat × Spec) := (17, possS) :: (18, bookS) :: sigLaw2
theorem sigLaw3Ok : SigOk Try.prog (look sigLaw3) :=
  sigCons (sigCons sigLaw2Ok Try.func18 (by kernel_rfl) (c := body Try.f18) rfl bookOk) Try.func17 (by kernel_rfl) (c := body Try.f17) rfl possOk

theorem run_not {e a b : Int} {xs : List StT} {ws : List WiT} {du mo : List Int} {de tl fa : Int} (h : possF e a b xs ws du mo de tl fa = false) : runF e a b xs ws du mo de tl fa = ([], (0, 0), 80) := by
  unfold runF; rw [h]; rfl

theorem book0 {e a b : Int} {xs : List StT} {ws : List WiT} {ow : Int} (h : ow < 1 ∨ 1000000 < ow) : bookF e a b xs ws ow = [] := by
  unfold bookF
  have : withinF ow 1 1000000 = false := by
    unfold withinF
    rcases h with h | h
    · rw [decide_eq_false (by omega)]; rfl
    · rw [decide_eq_false (show ¬ ow ≤ 1000000 by omega)]; simp
  rw [this]; simp

/-- What makes a scenario impossible. -/
theorem poss_not {e a b : Int} {xs : List StT} {ws : List WiT} {du mo : List Int} {de tl fa : Int}
    (h : (∃ i, i < xs.length ∧ ¬ (sMn xs i ≤ getI du 0 i ∧ getI du 0 i ≤ sMx xs i)) ∨ (∃ i, i < xs.length ∧ ¬ (a ≤ getI mo 0 i ∧ getI mo 0 i ≤ b)) ∨ ¬ (a ≤ de ∧ de ≤ b) ∨ mo.length ≠ xs.length ∨ (tl = -1 ∧ fa ≠ 0) ∨ ∃ i, i < xs.length ∧ sMt xs i = sSt xs i) : possF e a b xs ws du mo de tl fa = false := by
  cases hp : possF e a b xs ws du mo de tl fa with
  | false => rfl
  | true =>
    exfalso
    have C := poss_facts hp
    rcases h with ⟨i, hi, h⟩ | ⟨i, hi, h⟩ | h | h | h | ⟨i, hi, h⟩
    · have := C.at' i hi
      unfold AtOk at this
      exact h this.1
    · have := C.at' i hi
      unfold AtOk at this
      exact h this.2
    · exact h C.deb
    · exact h C.mol
    · rcases C.tlb with h2 | h2
      · exact h.2 h2.2
      · omega
    · have := C.st i hi
      unfold StOk at this
      exact this.2.2.2 h

/-- Contracts whose answer is told ahead: nothing is possible, nothing is booked. -/
def possN : Spec := plain fun
  | [.agg [.int .i64 e, .int .i64 a, .int .i64 b, .sl (.pair (.int .i64) (.pair (.int .i64) (.pair (.pair (.int .i64) (.int .i64)) (.pair (.int .i64) (.int .i64))))) xs, .sl (.pair (.int .i64) (.pair (.int .i64) (.int .i64))) ws],
      .agg [.sl (.int .i64) du, .sl (.int .i64) mo, .int .i64 de, .int .i64 tl, .int .i64 fa]] => outV (xs.length ≤ 1000000000000 ∧ possF e a b xs ws du mo de tl fa = false) (.bool false)
  | _ => none
theorem possNOk : SpecSound Try.prog 17 possN := possOk.weaken rfl fun args rows out hf hpre => by
  simp only [possN, plain] at hf
  split at hf <;> try (cases hf; done)
  cases hf
  exact ⟨_, rfl, hpre.1, by rw [show possF _ _ _ _ _ _ _ _ _ _ = _ from hpre.2], rfl, rfl⟩

def bookN : Spec := plain fun
  | [.agg [.int .i64 e, .int .i64 a, .int .i64 b, .sl (.pair (.int .i64) (.pair (.int .i64) (.pair (.pair (.int .i64) (.int .i64)) (.pair (.int .i64) (.int .i64))))) xs, .sl (.pair (.int .i64) (.pair (.int .i64) (.int .i64))) ws], .int .i64 ow] =>
    some ⟨bookF e a b xs ws ow = [], .own 0, [.seq tBook []], false⟩
  | _ => none
theorem bookNOk : SpecSound Try.prog 18 bookN := bookOk.weaken rfl fun args rows out hf hpre => by
  simp only [bookN, plain] at hf
  split at hf <;> try (cases hf; done)
  cases hf
  exact ⟨_, rfl, trivial, rfl, by rw [show bookF _ _ _ _ _ _ = _ from hpre], rfl⟩
def sigNo : List (Nat × Spec) := [(17, possN), (18, bookN)]
theorem sigNoOk : SigOk Try.prog (look sigNo) :=
  sigCons (sigCons sigNil Try.func18 (by kernel_rfl) (c := body Try.f18) rfl bookNOk) Try.func17 (by kernel_rfl) (c := body Try.f17) rfl possNOk

/-- The same walk with other contracts. -/
theorem switchI {P : Program} {tt : TT} {S S2 : Nat → Option Spec} {E : Env P tt S} (E2 : Env P tt S2) {K : List Nat} {c : Code} {st : St} {Q : AExit → St → Prop} (k : WP E2 K c st Q) : WP E K c st Q := k

theorem getI_setR {α : Type} {xs : List α} {i : Nat} {v d : α} (h : i < xs.length) : getI (xs.set i v) d i = v := by
  simp [getI, List.getD, h]

theorem refusesOk : SpecSound Try.prog 8 planS := by
  refine soundP (envOf sigLaw3Ok) Try.func8 (c := body Try.f8) rfl (by kernel_rfl) rfl ?_
  intro args out hf hpre
  split at hf <;> try (cases hf; done)
  rename_i x y what which
  cases hf
  refine ⟨Nat.le_of_ble_eq_true rfl, initI (args := [.sl tSix x, .sl tTwo y, .int .i64 what, .int .i64 which]) rfl ?_⟩
  have hlen := made_len x
  have hposs := chosen_poss (made_valid x) (made_late x) y 0 0
  have hnb := mXs_b x
  have hnn := nst_b x
  rw [cTl0, cFa0] at hposs
  have hix := @pick_b which ((mXs x).length : Int) (by omega)
  have hwh := @pick_b what 8 (by decide)
  repeat' (first
    | with_reducible refine pN ?_
    | with_reducible refine cN ?_
    | with_reducible refine bN ?_
    | with_reducible refine cE ?_
    | with_reducible refine cR ?_
    | with_reducible refine bR ?_
    | with_reducible refine lE ?_
    | with_reducible refine lR ?_
    | with_reducible refine jE ?_
    | with_reducible refine jR ?_
    | refine bE rfl ?_
    | refine bP rfl ?_
    | refine pC (by first | exact True.intro | omega | (intros; first | exact True.intro | omega) | (simp only [List.length_cons, List.length_nil, Int.toNat_natCast]; omega) | first | exact made_valid _ | exact hlen) ?_
    | refine seqI rfl ?_
    | refine regI rfl ?_
    | refine scopeI rfl ?_
    | refine exitI rfl ?_
    | refine retI rfl ?_
    | refine skipI rfl ?_)
  rw [cTl0, cFa0]
  simp only [hposs]
  generalize cDu (mXs x) y (mXs x).length = du at *
  generalize cMo (mA x) (mB x) y (mXs x).length = mo at *
  generalize cDe (mA x) (mB x) y = de at *
  generalize mE x = e at *
  generalize mA x = a at *
  generalize mB x = b at *
  generalize mXs x = xs at *
  generalize mWs x = ws at *
  have C := poss_facts hposs
  have hdl := C.dul
  have hml := C.mol
  have hab := C.ab
  have hde := C.deb
  have hn := C.n
  obtain ⟨j, hj⟩ : ∃ j : Int, j = pickF which (xs.length : Int) := ⟨_, rfl⟩
  rw [← hj] at hix ⊢
  obtain ⟨i, rfl⟩ : ∃ i : Nat, j = (i : Int) := ⟨j.toNat, by omega⟩
  have hi : i < xs.length := by omega
  obtain ⟨w, hw⟩ : ∃ w : Int, w = pickF what 8 := ⟨_, rfl⟩
  rw [← hw] at hwh ⊢
  have S := C.st i hi
  have A := C.at' i hi
  unfold StOk at S
  unfold AtOk at A
  refine joinC (fun _ : List StT × List Int × List Int × Int × Int => []) (fun s => [(11, .box [.own (key 22 0), .own (key 22 1), .int .i64 s.2.2.2.1, .int .i64 (-1), .int .i64 s.2.2.2.2]), (key 22 0, .seq tInt s.2.1), (key 22 1, .seq tInt s.2.2.1), (key 19 0, .seq tStage s.1)])
    (fun s => s.1.length ≤ 1000000000000 ∧ possF e a b s.1 ws s.2.1 s.2.2.1 s.2.2.2.1 (-1) s.2.2.2.2 = false) (fun _ => rfl) ?_ (fun s hs => ?_)
  · repeat' (first
      | with_reducible refine pN ?_
      | with_reducible refine cN ?_
      | with_reducible refine bN ?_
      | with_reducible refine cE ?_
      | with_reducible refine cR ?_
      | with_reducible refine bR ?_
      | with_reducible refine lE ?_
      | with_reducible refine lR ?_
      | with_reducible refine jE ?_
      | with_reducible refine jR ?_
      | refine bE rfl ?_
      | refine bP rfl ?_
      | refine pC (by first | exact True.intro | omega | (intros; first | exact True.intro | omega) | (simp only [List.length_cons, List.length_nil, Int.toNat_natCast]; omega)) ?_
      | refine seqI rfl ?_
      | refine regI rfl ?_
      | refine scopeI rfl ?_
      | refine blockI rfl ?_
      | refine exitI rfl ?_
      | refine retI rfl ?_
      | refine skipI rfl ?_)
    refine condI rfl (fun c0 => ?_) (fun c0 => ?_)
    · repeat' (first
        | with_reducible refine pN ?_
        | with_reducible refine cN ?_
        | with_reducible refine bN ?_
        | with_reducible refine cE ?_
        | with_reducible refine cR ?_
        | with_reducible refine bR ?_
        | with_reducible refine lE ?_
        | with_reducible refine lR ?_
        | with_reducible refine jE ?_
        | with_reducible refine jR ?_
        | refine bE rfl ?_
        | refine bP rfl ?_
        | refine pC (by first | exact True.intro | omega | (intros; first | exact True.intro | omega) | (simp only [List.length_cons, List.length_nil, Int.toNat_natCast]; omega) | (simp only [Int.toNat_natCast]; omega)) ?_
        | refine seqI rfl ?_
        | refine regI rfl ?_
        | refine scopeI rfl ?_
        | refine blockI rfl ?_
        | refine exitI rfl ?_
        | refine retI rfl ?_
        | refine skipI rfl ?_)
      refine meetI (xs, du.set i ((getI xs tStage.dflt i).2.1 + 1), mo, de, 0) rfl ⟨hlen, poss_not (.inl ⟨i, hi, ?_⟩)⟩ ?_
      · dsimp only; rw [getI_setR (by omega)]; unfold sMx; omega
      · repeat' (first | exact trivial | exact rfl | refine ⟨rfl, ?_⟩ | refine And.intro ?_ ?_)
    · repeat' (first
        | with_reducible refine pN ?_
        | with_reducible refine cN ?_
        | with_reducible refine bN ?_
        | with_reducible refine cE ?_
        | with_reducible refine cR ?_
        | with_reducible refine bR ?_
        | with_reducible refine lE ?_
        | with_reducible refine lR ?_
        | with_reducible refine jE ?_
        | with_reducible refine jR ?_
        | refine bE rfl ?_
        | refine bP rfl ?_
        | refine pC (by first | exact True.intro | omega | (intros; first | exact True.intro | omega) | (simp only [List.length_cons, List.length_nil, Int.toNat_natCast]; omega)) ?_
        | refine seqI rfl ?_
        | refine regI rfl ?_
        | refine scopeI rfl ?_
        | refine blockI rfl ?_
        | refine exitI rfl ?_
        | refine retI rfl ?_
        | refine skipI rfl ?_)
      refine condI rfl (fun c1 => ?_) (fun c1 => ?_)
      · repeat' (first
          | with_reducible refine pN ?_
          | with_reducible refine cN ?_
          | with_reducible refine bN ?_
          | with_reducible refine cE ?_
          | with_reducible refine cR ?_
          | with_reducible refine bR ?_
          | with_reducible refine lE ?_
          | with_reducible refine lR ?_
          | with_reducible refine jE ?_
          | with_reducible refine jR ?_
          | refine bE rfl ?_
          | refine bP rfl ?_
          | refine pC (by first | exact True.intro | omega | (intros; first | exact True.intro | omega) | (simp only [List.length_cons, List.length_nil, Int.toNat_natCast]; omega) | (simp only [Int.toNat_natCast]; omega)) ?_
          | refine seqI rfl ?_
          | refine regI rfl ?_
          | refine scopeI rfl ?_
          | refine blockI rfl ?_
          | refine exitI rfl ?_
          | refine retI rfl ?_
          | refine skipI rfl ?_)
        refine meetI (xs, du.set i ((getI xs tStage.dflt i).1 - 1), mo, de, 0) rfl ⟨hlen, poss_not (.inl ⟨i, hi, ?_⟩)⟩ ?_
        · dsimp only; rw [getI_setR (by omega)]; unfold sMn; omega
        · repeat' (first | exact trivial | exact rfl | refine ⟨rfl, ?_⟩ | refine And.intro ?_ ?_)
      · repeat' (first
          | with_reducible refine pN ?_
          | with_reducible refine cN ?_
          | with_reducible refine bN ?_
          | with_reducible refine cE ?_
          | with_reducible refine cR ?_
          | with_reducible refine bR ?_
          | with_reducible refine lE ?_
          | with_reducible refine lR ?_
          | with_reducible refine jE ?_
          | with_reducible refine jR ?_
          | refine bE rfl ?_
          | refine bP rfl ?_
          | refine pC (by first | exact True.intro | omega | (intros; first | exact True.intro | omega) | (simp only [List.length_cons, List.length_nil, Int.toNat_natCast]; omega)) ?_
          | refine seqI rfl ?_
          | refine regI rfl ?_
          | refine scopeI rfl ?_
          | refine blockI rfl ?_
          | refine exitI rfl ?_
          | refine retI rfl ?_
          | refine skipI rfl ?_)
        refine condI rfl (fun c2 => ?_) (fun c2 => ?_)
        · repeat' (first
            | with_reducible refine pN ?_
            | with_reducible refine cN ?_
            | with_reducible refine bN ?_
            | with_reducible refine cE ?_
            | with_reducible refine cR ?_
            | with_reducible refine bR ?_
            | with_reducible refine lE ?_
            | with_reducible refine lR ?_
            | with_reducible refine jE ?_
            | with_reducible refine jR ?_
            | refine bE rfl ?_
            | refine bP rfl ?_
            | refine pC (by first | exact True.intro | omega | (intros; first | exact True.intro | omega) | (simp only [List.length_cons, List.length_nil, Int.toNat_natCast]; omega) | (simp only [Int.toNat_natCast]; omega)) ?_
            | refine seqI rfl ?_
            | refine regI rfl ?_
            | refine scopeI rfl ?_
            | refine blockI rfl ?_
            | refine exitI rfl ?_
            | refine retI rfl ?_
            | refine skipI rfl ?_)
          refine meetI (xs, du, mo.set i (b + 1), de, 0) rfl ⟨hlen, poss_not (.inr (.inl ⟨i, hi, ?_⟩))⟩ ?_
          · dsimp only; rw [getI_setR (by omega)]; omega
          · repeat' (first | exact trivial | exact rfl | refine ⟨rfl, ?_⟩ | refine And.intro ?_ ?_)
        · repeat' (first
            | with_reducible refine pN ?_
            | with_reducible refine cN ?_
            | with_reducible refine bN ?_
            | with_reducible refine cE ?_
            | with_reducible refine cR ?_
            | with_reducible refine bR ?_
            | with_reducible refine lE ?_
            | with_reducible refine lR ?_
            | with_reducible refine jE ?_
            | with_reducible refine jR ?_
            | refine bE rfl ?_
            | refine bP rfl ?_
            | refine pC (by first | exact True.intro | omega | (intros; first | exact True.intro | omega) | (simp only [List.length_cons, List.length_nil, Int.toNat_natCast]; omega)) ?_
            | refine seqI rfl ?_
            | refine regI rfl ?_
            | refine scopeI rfl ?_
            | refine blockI rfl ?_
            | refine exitI rfl ?_
            | refine retI rfl ?_
            | refine skipI rfl ?_)
          refine condI rfl (fun c3 => ?_) (fun c3 => ?_)
          · repeat' (first
              | with_reducible refine pN ?_
              | with_reducible refine cN ?_
              | with_reducible refine bN ?_
              | with_reducible refine cE ?_
              | with_reducible refine cR ?_
              | with_reducible refine bR ?_
              | with_reducible refine lE ?_
              | with_reducible refine lR ?_
              | with_reducible refine jE ?_
              | with_reducible refine jR ?_
              | refine bE rfl ?_
              | refine bP rfl ?_
              | refine pC (by first | exact True.intro | omega | (intros; first | exact True.intro | omega) | (simp only [List.length_cons, List.length_nil, Int.toNat_natCast]; omega) | (simp only [Int.toNat_natCast]; omega)) ?_
              | refine seqI rfl ?_
              | refine regI rfl ?_
              | refine scopeI rfl ?_
              | refine blockI rfl ?_
              | refine exitI rfl ?_
              | refine retI rfl ?_
              | refine skipI rfl ?_)
            refine meetI (xs, du, mo.set i (a - 1), de, 0) rfl ⟨hlen, poss_not (.inr (.inl ⟨i, hi, ?_⟩))⟩ ?_
            · dsimp only; rw [getI_setR (by omega)]; omega
            · repeat' (first | exact trivial | exact rfl | refine ⟨rfl, ?_⟩ | refine And.intro ?_ ?_)
          · repeat' (first
              | with_reducible refine pN ?_
              | with_reducible refine cN ?_
              | with_reducible refine bN ?_
              | with_reducible refine cE ?_
              | with_reducible refine cR ?_
              | with_reducible refine bR ?_
              | with_reducible refine lE ?_
              | with_reducible refine lR ?_
              | with_reducible refine jE ?_
              | with_reducible refine jR ?_
              | refine bE rfl ?_
              | refine bP rfl ?_
              | refine pC (by first | exact True.intro | omega | (intros; first | exact True.intro | omega) | (simp only [List.length_cons, List.length_nil, Int.toNat_natCast]; omega)) ?_
              | refine seqI rfl ?_
              | refine regI rfl ?_
              | refine scopeI rfl ?_
              | refine blockI rfl ?_
              | refine exitI rfl ?_
              | refine retI rfl ?_
              | refine skipI rfl ?_)
            refine condI rfl (fun c4 => ?_) (fun c4 => ?_)
            · repeat' (first
                | with_reducible refine pN ?_
                | with_reducible refine cN ?_
                | with_reducible refine bN ?_
                | with_reducible refine cE ?_
                | with_reducible refine cR ?_
                | with_reducible refine bR ?_
                | with_reducible refine lE ?_
                | with_reducible refine lR ?_
                | with_reducible refine jE ?_
                | with_reducible refine jR ?_
                | refine bE rfl ?_
                | refine bP rfl ?_
                | refine pC (by first | exact True.intro | omega | (intros; first | exact True.intro | omega) | (simp only [List.length_cons, List.length_nil, Int.toNat_natCast]; omega)) ?_
                | refine seqI rfl ?_
                | refine regI rfl ?_
                | refine scopeI rfl ?_
                | refine blockI rfl ?_
                | refine exitI rfl ?_
                | refine retI rfl ?_
                | refine skipI rfl ?_)
              refine meetI (xs, du, mo, b + 1, 0) rfl ⟨hlen, poss_not (.inr (.inr (.inl (by dsimp only; omega))))⟩ ?_
              repeat' (first | exact trivial | exact rfl | refine ⟨rfl, ?_⟩ | refine And.intro ?_ ?_)
            · repeat' (first
                | with_reducible refine pN ?_
                | with_reducible refine cN ?_
                | with_reducible refine bN ?_
                | with_reducible refine cE ?_
                | with_reducible refine cR ?_
                | with_reducible refine bR ?_
                | with_reducible refine lE ?_
                | with_reducible refine lR ?_
                | with_reducible refine jE ?_
                | with_reducible refine jR ?_
                | refine bE rfl ?_
                | refine bP rfl ?_
                | refine pC (by first | exact True.intro | omega | (intros; first | exact True.intro | omega) | (simp only [List.length_cons, List.length_nil, Int.toNat_natCast]; omega)) ?_
                | refine seqI rfl ?_
                | refine regI rfl ?_
                | refine scopeI rfl ?_
                | refine blockI rfl ?_
                | refine exitI rfl ?_
                | refine retI rfl ?_
                | refine skipI rfl ?_)
              refine condI rfl (fun c5 => ?_) (fun c5 => ?_)
              · repeat' (first
                  | with_reducible refine pN ?_
                  | with_reducible refine cN ?_
                  | with_reducible refine bN ?_
                  | with_reducible refine cE ?_
                  | with_reducible refine cR ?_
                  | with_reducible refine bR ?_
                  | with_reducible refine lE ?_
                  | with_reducible refine lR ?_
                  | with_reducible refine jE ?_
                  | with_reducible refine jR ?_
                  | refine bE rfl ?_
                  | refine bP rfl ?_
                  | refine pC (by first | exact True.intro | omega | (intros; first | exact True.intro | omega) | (simp only [List.length_cons, List.length_nil, Int.toNat_natCast]; omega)) ?_
                  | refine seqI rfl ?_
                  | refine regI rfl ?_
                  | refine scopeI rfl ?_
                  | refine blockI rfl ?_
                  | refine exitI rfl ?_
                  | refine retI rfl ?_
                  | refine skipI rfl ?_)
                refine meetI (xs, du, mo.take (mo.length - 1), de, 0) rfl ⟨hlen, poss_not (.inr (.inr (.inr (.inl ?_))))⟩ ?_
                · dsimp only; rw [List.length_take]; omega
                · repeat' (first | exact trivial | with_reducible exact rfl | refine And.intro ?_ ?_)
                  all_goals first | rfl | (rw [show ((mo.length : Int) - 1).toNat = mo.length - 1 by omega])
              · repeat' (first
                  | with_reducible refine pN ?_
                  | with_reducible refine cN ?_
                  | with_reducible refine bN ?_
                  | with_reducible refine cE ?_
                  | with_reducible refine cR ?_
                  | with_reducible refine bR ?_
                  | with_reducible refine lE ?_
                  | with_reducible refine lR ?_
                  | with_reducible refine jE ?_
                  | with_reducible refine jR ?_
                  | refine bE rfl ?_
                  | refine bP rfl ?_
                  | refine pC (by first | exact True.intro | omega | (intros; first | exact True.intro | omega) | (simp only [List.length_cons, List.length_nil, Int.toNat_natCast]; omega)) ?_
                  | refine seqI rfl ?_
                  | refine regI rfl ?_
                  | refine scopeI rfl ?_
                  | refine blockI rfl ?_
                  | refine exitI rfl ?_
                  | refine retI rfl ?_
                  | refine skipI rfl ?_)
                refine condI rfl (fun c6 => ?_) (fun c6 => ?_)
                · repeat' (first
                    | with_reducible refine pN ?_
                    | with_reducible refine cN ?_
                    | with_reducible refine bN ?_
                    | with_reducible refine cE ?_
                    | with_reducible refine cR ?_
                    | with_reducible refine bR ?_
                    | with_reducible refine lE ?_
                    | with_reducible refine lR ?_
                    | with_reducible refine jE ?_
                    | with_reducible refine jR ?_
                    | refine bE rfl ?_
                    | refine bP rfl ?_
                    | refine pC (by first | exact True.intro | omega | (intros; first | exact True.intro | omega) | (simp only [List.length_cons, List.length_nil, Int.toNat_natCast]; omega)) ?_
                    | refine seqI rfl ?_
                    | refine regI rfl ?_
                    | refine scopeI rfl ?_
                    | refine blockI rfl ?_
                    | refine exitI rfl ?_
                    | refine retI rfl ?_
                    | refine skipI rfl ?_)
                  refine meetI (xs, du, mo, de, 1) rfl ⟨hlen, poss_not (.inr (.inr (.inr (.inr (.inl ⟨rfl, by show (1 : Int) ≠ 0; decide⟩)))))⟩ ?_
                  repeat' (first | exact trivial | exact rfl | refine ⟨rfl, ?_⟩ | refine And.intro ?_ ?_)
                · repeat' (first
                    | with_reducible refine pN ?_
                    | with_reducible refine cN ?_
                    | with_reducible refine bN ?_
                    | with_reducible refine cE ?_
                    | with_reducible refine cR ?_
                    | with_reducible refine bR ?_
                    | with_reducible refine lE ?_
                    | with_reducible refine lR ?_
                    | with_reducible refine jE ?_
                    | with_reducible refine jR ?_
                    | refine bE rfl ?_
                    | refine bP rfl ?_
                    | refine pC (by first | exact True.intro | omega | (intros; first | exact True.intro | omega) | (simp only [List.length_cons, List.length_nil, Int.toNat_natCast]; omega) | (simp only [Int.toNat_natCast]; omega)) ?_
                    | refine seqI rfl ?_
                    | refine regI rfl ?_
                    | refine scopeI rfl ?_
                    | refine blockI rfl ?_
                    | refine exitI rfl ?_
                    | refine retI rfl ?_
                    | refine skipI rfl ?_)
                  refine meetI (xs.set i ((getI xs tStage.dflt i).1, (getI xs tStage.dflt i).2.1, ((getI xs tStage.dflt i).2.2.1.1, (getI xs tStage.dflt i).2.2.1.2), (getI xs tStage.dflt i).2.2.1.1, (getI xs tStage.dflt i).2.2.2.2), du, mo, de, 0) rfl ⟨?_, poss_not (.inr (.inr (.inr (.inr (.inr ⟨i, ?_, ?_⟩)))))⟩ ?_
                  · show (xs.set i _).length ≤ _; rw [List.length_set]; exact hlen
                  · dsimp only; rw [List.length_set]; exact hi
                  · dsimp only; unfold sMt sSt; rw [getI_setR hi]
                  · repeat' (first | exact trivial | exact rfl | refine ⟨rfl, ?_⟩ | refine And.intro ?_ ?_)
  · obtain ⟨xs', du', mo', de', fa'⟩ := s
    obtain ⟨hl', hno⟩ := hs
    dsimp only at hl' hno ⊢
    refine seqI rfl ?_
    refine regI rfl ?_
    refine pC hl' (pN (cN ?_))
    simp only [run_not hno]
    refine switchI (envOf sigNoOk) ?_
    refine seqI rfl ?_
    refine regI rfl ?_
    repeat' (first | with_reducible refine pN ?_ | refine pC (by intros; first | exact ⟨hl', hno⟩ | exact book0 (by omega)) ?_)
    refine cN ?_
    repeat' (first
      | with_reducible refine pN ?_
      | with_reducible refine cN ?_
      | with_reducible refine bN ?_
      | with_reducible refine cE ?_
      | with_reducible refine cR ?_
      | with_reducible refine bR ?_
      | with_reducible refine lE ?_
      | with_reducible refine lR ?_
      | with_reducible refine jE ?_
      | with_reducible refine jR ?_
      | refine bE rfl ?_
      | refine bP rfl ?_
      | refine pC (by first | exact True.intro | omega | (intros; first | exact True.intro | omega) | (simp only [List.length_cons, List.length_nil, Int.toNat_natCast]; omega)) ?_
      | refine seqI rfl ?_
      | refine regI rfl ?_
      | refine scopeI rfl ?_
      | refine blockI rfl ?_
      | refine exitI rfl ?_
      | refine retI rfl ?_
      | refine skipI rfl ?_)
    refine endR rfl ?_
    repeat' (first | exact trivial | exact rfl | refine ⟨rfl, ?_⟩ | refine And.intro ?_ ?_)
end Go.AM.Ytgpnkpiinmicgaa
