/- The law PlanKept: her function. -/
import Derived.Test.YtgpnkpiinmicgaaWkRun
import Derived.Test.YtgpnkpiinmicgaaPlH
set_option linter.all false
namespace Go.AM.Ytgpnkpiinmicgaa
open Go.Proofs
set_option maxRecDepth 100000
set_option maxHeartbeats 8000000

def sigLaw : List (Nat × Spec) := [(11, saneS), (12, madeS), (13, chosenS), (14, runS), (15, pickP)]
theorem sigLawOk : SigOk Try.prog (look sigLaw) :=
  sigCons (sigCons (sigCons (sigCons (sigCons sigNil Try.func15 (by kernel_rfl) (c := body Try.f15) rfl pickLOk) Try.func14 (by kernel_rfl) (c := body Try.f14) rfl runOk)
    Try.func13 (by kernel_rfl) (c := body Try.f13) rfl chosenOk) Try.func12 (by kernel_rfl) (c := body Try.f12) rfl madeOk)
    Try.func11 (by kernel_rfl) (c := body Try.f11) rfl saneOk

theorem dflt0 : Ty.dflt (.int .i64) = (0 : Int) := rfl

theorem made_len (x : List Six) : (mXs x).length ≤ 1000000000000 := by
  obtain ⟨h1, _⟩ := mXs_b x
  have := nst_b x
  omega

def planS : Spec := plain fun
  | [.sl (.pair (.int .i64) (.pair (.int .i64) (.pair (.int .i64) (.pair (.int .i64) (.pair (.int .i64) (.int .i64)))))) _, .sl (.pair (.int .i64) (.int .i64)) _, .int .i64 _, .int .i64 _] => outV True (.bool true)
  | _ => none

def keptBad (j v0 v1 v2 v3 mt ms st ss du pe a : Int) : Bool :=
  decide (v0 ≠ j) || (!(decide (v1 = mt) && decide (v2 = ms)) && !(decide (v1 = st) && decide (v2 = ss))) || decide (v3 ≠ v2 + du) || decide (v2 < pe + a)
def keptBad2 (v1 v2 v3 mt ms tl fa : Int) : Bool := decide (tl = v1) && (decide (v1 = mt) && decide (v2 = ms)) && decide (fa < v3)

theorem keptOk : SpecSound Try.prog 3 planS := by
  refine soundP (envOf sigLawOk) Try.func3 (c := body Try.f3) rfl (by kernel_rfl) rfl ?_
  intro args out hf hpre
  split at hf <;> try (cases hf; done)
  rename_i x y tool at'
  cases hf
  refine ⟨Nat.le_of_ble_eq_true rfl, initI (args := [.sl tSix x, .sl tTwo y, .int .i64 tool, .int .i64 at']) rfl ?_⟩
  have hlen := made_len x
  have hposs := chosen_poss (made_valid x) (made_late x) y tool at'
  repeat' (first
    | with_reducible refine pN ?_
    | with_reducible refine cN ?_
    | with_reducible refine bN ?_
    | with_reducible refine cE ?_
    | with_reducible refine cR ?_
    | with_reducible refine bR ?_
    | with_reducible refine lE ?_
    | with_reducible refine lR ?_
    | with_reducible refine jE ?_
    | with_reducible refine jR ?_
    | refine bE rfl ?_
    | refine bP rfl ?_
    | refine pC (by first | exact True.intro | omega | (intros; first | exact True.intro | omega) | (simp only [List.length_cons, List.length_nil, Int.toNat_natCast]; omega) | first | exact made_valid _ | exact hlen) ?_
    | refine seqI rfl ?_
    | refine regI rfl ?_
    | refine scopeI rfl ?_
    | refine blockI rfl ?_
    | refine exitI rfl ?_
    | refine retI rfl ?_
    | refine skipI rfl ?_)
  generalize cDu (mXs x) y (mXs x).length = du at *
  generalize cMo (mA x) (mB x) y (mXs x).length = mo at *
  generalize cDe (mA x) (mB x) y = de at *
  generalize cTl (mXs x) tool = tl at *
  generalize cFa (mXs x) tool at' = fa at *
  generalize mE x = e at *
  generalize mA x = a at *
  generalize mB x = b at *
  generalize mXs x = xs at *
  generalize mWs x = ws at *
  obtain ⟨hr0, hR⟩ := run_spec hposs
  obtain ⟨r, hr⟩ : ∃ r, r = (runF e a b xs ws du mo de tl fa).1 := ⟨_, rfl⟩
  obtain ⟨kd, hkd⟩ : ∃ r, r = (runF e a b xs ws du mo de tl fa).2.1.1 := ⟨_, rfl⟩
  obtain ⟨nu, hnu⟩ : ∃ r, r = (runF e a b xs ws du mo de tl fa).2.1.2 := ⟨_, rfl⟩
  rw [← hr, ← hkd, ← hnu] at hR
  simp only [hr0, ← hr, ← hkd, ← hnu]
  refine condF rfl ?_
  repeat' (first
    | with_reducible refine pN ?_
    | with_reducible refine cN ?_
    | with_reducible refine bN ?_
    | with_reducible refine cE ?_
    | with_reducible refine cR ?_
    | with_reducible refine bR ?_
    | with_reducible refine lE ?_
    | with_reducible refine lR ?_
    | with_reducible refine jE ?_
    | with_reducible refine jR ?_
    | refine bE rfl ?_
    | refine bP rfl ?_
    | refine pC (by first | exact True.intro | omega | (intros; first | exact True.intro | omega) | (simp only [List.length_cons, List.length_nil, Int.toNat_natCast]; omega)) ?_
    | refine seqI rfl ?_
    | refine regI rfl ?_
    | refine scopeI rfl ?_
    | refine blockI rfl ?_
    | refine exitI rfl ?_
    | refine retI rfl ?_
    | refine skipI rfl ?_)
  have C := poss_facts hposs
  refine condI rfl (fun c1 => ?_) (fun c1 => ?_)
  · repeat' (first
      | with_reducible refine pN ?_
      | with_reducible refine cN ?_
      | with_reducible refine bN ?_
      | with_reducible refine cE ?_
      | with_reducible refine cR ?_
      | with_reducible refine bR ?_
      | with_reducible refine lE ?_
      | with_reducible refine lR ?_
      | with_reducible refine jE ?_
      | with_reducible refine jR ?_
      | refine bE rfl ?_
      | refine bP rfl ?_
      | refine pC (by first | exact True.intro | omega | (intros; first | exact True.intro | omega) | (simp only [List.length_cons, List.length_nil, Int.toNat_natCast]; omega)) ?_
      | refine seqI rfl ?_
      | refine regI rfl ?_
      | refine scopeI rfl ?_
      | refine blockI rfl ?_
      | refine exitI rfl ?_
      | refine retI rfl ?_
      | refine skipI rfl ?_)
    refine endR rfl ?_
    repeat' (first | exact trivial | exact rfl | refine ⟨rfl, ?_⟩ | refine And.intro ?_ ?_)
  · simp only [decide_eq_false_iff_not, Decidable.not_not] at c1
    obtain ⟨hnu0, hrl⟩ : nu = 0 ∧ r.length = xs.length := by
      rcases hR.ends with h | h | h
      · exact ⟨h.2.1, h.2.2⟩
      · omega
      · omega
    repeat' (first
      | with_reducible refine pN ?_
      | with_reducible refine cN ?_
      | with_reducible refine bN ?_
      | with_reducible refine cE ?_
      | with_reducible refine cR ?_
      | with_reducible refine bR ?_
      | with_reducible refine lE ?_
      | with_reducible refine lR ?_
      | with_reducible refine jE ?_
      | with_reducible refine jR ?_
      | refine bE rfl ?_
      | refine bP rfl ?_
      | refine pC (by first | exact True.intro | omega | (intros; first | exact True.intro | omega) | (simp only [List.length_cons, List.length_nil, Int.toNat_natCast]; omega)) ?_
      | refine seqI rfl ?_
      | refine regI rfl ?_
      | refine scopeI rfl ?_
      | refine blockI rfl ?_
      | refine exitI rfl ?_
      | refine retI rfl ?_
      | refine skipI rfl ?_)
    refine condI rfl (fun c2 => ?_) (fun c2 => ?_)
    · exfalso
      have c2' : (decide ((r.length : Int) ≠ xs.length) || decide (nu ≠ 0)) = true := c2
      simp only [Bool.or_eq_true, decide_eq_true_eq] at c2'
      omega
    · repeat' (first
        | with_reducible refine pN ?_
        | with_reducible refine cN ?_
        | with_reducible refine bN ?_
        | with_reducible refine cE ?_
        | with_reducible refine cR ?_
        | with_reducible refine bR ?_
        | with_reducible refine lE ?_
        | with_reducible refine lR ?_
        | with_reducible refine jE ?_
        | with_reducible refine jR ?_
        | refine bE rfl ?_
        | refine bP rfl ?_
        | refine pC (by first | exact True.intro | omega | (intros; first | exact True.intro | omega) | (simp only [List.length_cons, List.length_nil, Int.toNat_natCast]; omega)) ?_
        | refine seqI rfl ?_
        | refine regI rfl ?_
        | refine scopeI rfl ?_
        | refine blockI rfl ?_
        | refine exitI rfl ?_
        | refine retI rfl ?_
        | refine skipI rfl ?_)
      refine loopI (σ := Nat) (fun i => [(15, .int .i64 (prevE e r i)), (16, .int .i64 i)]) (fun i => []) (fun i => i ≤ r.length) (fun i => r.length - i) 0 rfl (fun _ => rfl) rfl ?_ ?_ ?_
      · exact Nat.zero_le _
      · repeat' (first | exact trivial | exact rfl | refine ⟨rfl, ?_⟩ | refine And.intro ?_ ?_)
      · intro i hi
        repeat' (first
          | with_reducible refine pN ?_
          | with_reducible refine cN ?_
          | with_reducible refine bN ?_
          | with_reducible refine cE ?_
          | with_reducible refine cR ?_
          | with_reducible refine bR ?_
          | with_reducible refine lE ?_
          | with_reducible refine lR ?_
          | with_reducible refine jE ?_
          | with_reducible refine jR ?_
          | refine bE rfl ?_
          | refine bP rfl ?_
          | refine pC (by first | exact True.intro | omega | (intros; first | exact True.intro | omega) | (simp only [List.length_cons, List.length_nil, Int.toNat_natCast]; omega)) ?_
          | refine seqI rfl ?_
          | refine regI rfl ?_
          | refine scopeI rfl ?_
          | refine blockI rfl ?_
          | refine exitI rfl ?_
          | refine retI rfl ?_
          | refine skipI rfl ?_)
        refine condI rfl (fun c3 => ?_) (fun c3 => ?_)
        · simp only [decide_eq_true_eq] at c3
          have hilt : i < xs.length := by omega
          have V := visN C (hR.vis i (by omega)) hilt
          have hdl := C.dul
          have V0 := V
          unfold VisN at V
          have hpe : 0 ≤ prevE e r i ∧ prevE e r i ≤ 2000000 := by
            cases i with
            | zero => have := C.e; simp only [prevE]; omega
            | succ i =>
              have V := visN C (hR.vis i (by omega)) (by omega)
              unfold VisN at V
              simp only [prevE]; omega
          have hab := C.ab
          unfold vis sMt sMs sSt sSs at V
          repeat' (first
            | with_reducible refine pN ?_
            | with_reducible refine cN ?_
            | with_reducible refine bN ?_
            | with_reducible refine cE ?_
            | with_reducible refine cR ?_
            | with_reducible refine bR ?_
            | with_reducible refine lE ?_
            | with_reducible refine lR ?_
            | with_reducible refine jE ?_
            | with_reducible refine jR ?_
            | refine bE rfl ?_
            | refine bP rfl ?_
            | refine pC (by first | exact True.intro | omega | (intros; first | exact True.intro | omega) | (simp only [List.length_cons, List.length_nil, Int.toNat_natCast]; omega) | (intros; simp only [Int.toNat_natCast, dflt0]; omega)) ?_
            | refine seqI rfl ?_
            | refine regI rfl ?_
            | refine scopeI rfl ?_
            | refine blockI rfl ?_
            | refine exitI rfl ?_
            | refine retI rfl ?_
            | refine skipI rfl ?_)
          refine condI rfl (fun c4 => ?_) (fun c4 => ?_)
          · exfalso
            have c4' : keptBad i (vis r i).1 (vis r i).2.1 (vis r i).2.2.1 (vis r i).2.2.2 (sMt xs i) (sMs xs i) (sSt xs i) (sSs xs i) (getI du 0 i) (prevE e r i) a = true := c4
            unfold keptBad at c4'
            unfold VisN at V0
            simp only [Bool.or_eq_true, Bool.and_eq_true, Bool.not_eq_true', Bool.and_eq_false_iff, decide_eq_true_eq, decide_eq_false_iff_not] at c4'
            omega
          · repeat' (first
              | with_reducible refine pN ?_
              | with_reducible refine cN ?_
              | with_reducible refine bN ?_
              | with_reducible refine cE ?_
              | with_reducible refine cR ?_
              | with_reducible refine bR ?_
              | with_reducible refine lE ?_
              | with_reducible refine lR ?_
              | with_reducible refine jE ?_
              | with_reducible refine jR ?_
              | refine bE rfl ?_
              | refine bP rfl ?_
              | refine pC (by first | exact True.intro | omega | (intros; first | exact True.intro | omega) | (simp only [List.length_cons, List.length_nil, Int.toNat_natCast]; omega) | (intros; simp only [Int.toNat_natCast, dflt0]; omega)) ?_
              | refine seqI rfl ?_
              | refine regI rfl ?_
              | refine scopeI rfl ?_
              | refine blockI rfl ?_
              | refine exitI rfl ?_
              | refine retI rfl ?_
              | refine skipI rfl ?_)
            refine condI rfl (fun c5 => ?_) (fun c5 => ?_)
            · exfalso
              have c5' : keptBad2 (vis r i).2.1 (vis r i).2.2.1 (vis r i).2.2.2 (sMt xs i) (sMs xs i) tl fa = true := c5
              unfold keptBad2 at c5'
              unfold VisN at V0
              simp only [Bool.and_eq_true, decide_eq_true_eq] at c5'
              omega
            · repeat' (first
                | with_reducible refine pN ?_
                | with_reducible refine cN ?_
                | with_reducible refine bN ?_
                | with_reducible refine cE ?_
                | with_reducible refine cR ?_
                | with_reducible refine bR ?_
                | with_reducible refine lE ?_
                | with_reducible refine lR ?_
                | with_reducible refine jE ?_
                | with_reducible refine jR ?_
                | refine bE rfl ?_
                | refine bP rfl ?_
                | refine pC (by first | exact True.intro | omega | (intros; first | exact True.intro | omega) | (simp only [List.length_cons, List.length_nil, Int.toNat_natCast]; omega)) ?_
                | refine seqI rfl ?_
                | refine regI rfl ?_
                | refine scopeI rfl ?_
                | refine blockI rfl ?_
                | refine exitI rfl ?_
                | refine retI rfl ?_
                | refine skipI rfl ?_)
              refine roundI (i + 1) rfl ?_ ?_ ?_
              · omega
              · show r.length - (i + 1) < r.length - i; omega
              · repeat' (first | exact trivial | exact rfl | refine ⟨rfl, ?_⟩ | refine And.intro ?_ ?_)
        · simp only [decide_eq_false_iff_not] at c3
          repeat' (first
            | with_reducible refine pN ?_
            | with_reducible refine cN ?_
            | with_reducible refine bN ?_
            | with_reducible refine cE ?_
            | with_reducible refine cR ?_
            | with_reducible refine bR ?_
            | with_reducible refine lE ?_
            | with_reducible refine lR ?_
            | with_reducible refine jE ?_
            | with_reducible refine jR ?_
            | refine bE rfl ?_
            | refine bP rfl ?_
            | refine pC (by first | exact True.intro | omega | (intros; first | exact True.intro | omega) | (simp only [List.length_cons, List.length_nil, Int.toNat_natCast]; omega)) ?_
            | refine seqI rfl ?_
            | refine regI rfl ?_
            | refine scopeI rfl ?_
            | refine blockI rfl ?_
            | refine exitI rfl ?_
            | refine retI rfl ?_
            | refine skipI rfl ?_)
          refine loopI (σ := Nat) (fun k => [(18, .int .i64 k)]) (fun k => []) (fun k => k ≤ ws.length) (fun k => ws.length - k) 0 rfl (fun _ => rfl) rfl ?_ ?_ ?_
          · exact Nat.zero_le _
          · repeat' (first | exact trivial | exact rfl | refine ⟨rfl, ?_⟩ | refine And.intro ?_ ?_)
          · intro k hk
            repeat' (first
              | with_reducible refine pN ?_
              | with_reducible refine cN ?_
              | with_reducible refine bN ?_
              | with_reducible refine cE ?_
              | with_reducible refine cR ?_
              | with_reducible refine bR ?_
              | with_reducible refine lE ?_
              | with_reducible refine lR ?_
              | with_reducible refine jE ?_
              | with_reducible refine jR ?_
              | refine bE rfl ?_
              | refine bP rfl ?_
              | refine pC (by first | exact True.intro | omega | (intros; first | exact True.intro | omega) | (simp only [List.length_cons, List.length_nil, Int.toNat_natCast]; omega)) ?_
              | refine seqI rfl ?_
              | refine regI rfl ?_
              | refine scopeI rfl ?_
              | refine blockI rfl ?_
              | refine exitI rfl ?_
              | refine retI rfl ?_
              | refine skipI rfl ?_)
            refine condI rfl (fun c6 => ?_) (fun c6 => ?_)
            · simp only [decide_eq_true_eq] at c6
              have W := wi_ok C.toFacts k (by omega)
              have hw := C.w
              have Vt := visN C (hR.vis (wTo ws k).toNat (by omega)) (by omega)
              have Vf := visN C (hR.vis (wFr ws k).toNat (by omega)) (by omega)
              have hkept := hR.kept k (by omega) (by omega)
              unfold LateAt at hkept
              unfold VisN at Vt Vf
              unfold vis wTo wFr wLi at *
              repeat' (first
                | with_reducible refine pN ?_
                | with_reducible refine cN ?_
                | with_reducible refine bN ?_
                | with_reducible refine cE ?_
                | with_reducible refine cR ?_
                | with_reducible refine bR ?_
                | with_reducible refine lE ?_
                | with_reducible refine lR ?_
                | with_reducible refine jE ?_
                | with_reducible refine jR ?_
                | refine bE rfl ?_
                | refine bP rfl ?_
                | refine pC (by first | exact True.intro | omega | (intros; first | exact True.intro | omega) | (simp only [List.length_cons, List.length_nil, Int.toNat_natCast]; omega)) ?_
                | refine seqI rfl ?_
                | refine regI rfl ?_
                | refine scopeI rfl ?_
                | refine blockI rfl ?_
                | refine exitI rfl ?_
                | refine retI rfl ?_
                | refine skipI rfl ?_)
              refine condI rfl (fun c7 => ?_) (fun c7 => ?_)
              · exfalso
                simp only [decide_eq_true_eq] at c7
                have := hkept c7
                omega
              · repeat' (first
                  | with_reducible refine pN ?_
                  | with_reducible refine cN ?_
                  | with_reducible refine bN ?_
                  | with_reducible refine cE ?_
                  | with_reducible refine cR ?_
                  | with_reducible refine bR ?_
                  | with_reducible refine lE ?_
                  | with_reducible refine lR ?_
                  | with_reducible refine jE ?_
                  | with_reducible refine jR ?_
                  | refine bE rfl ?_
                  | refine bP rfl ?_
                  | refine pC (by first | exact True.intro | omega | (intros; first | exact True.intro | omega) | (simp only [List.length_cons, List.length_nil, Int.toNat_natCast]; omega)) ?_
                  | refine seqI rfl ?_
                  | refine regI rfl ?_
                  | refine scopeI rfl ?_
                  | refine blockI rfl ?_
                  | refine exitI rfl ?_
                  | refine retI rfl ?_
                  | refine skipI rfl ?_)
                refine roundI (k + 1) rfl ?_ ?_ ?_
                · omega
                · show ws.length - (k + 1) < ws.length - k; omega
                · repeat' (first | exact trivial | exact rfl | refine ⟨rfl, ?_⟩ | refine And.intro ?_ ?_)
            · repeat' (first
                | with_reducible refine pN ?_
                | with_reducible refine cN ?_
                | with_reducible refine bN ?_
                | with_reducible refine cE ?_
                | with_reducible refine cR ?_
                | with_reducible refine bR ?_
                | with_reducible refine lE ?_
                | with_reducible refine lR ?_
                | with_reducible refine jE ?_
                | with_reducible refine jR ?_
                | refine bE rfl ?_
                | refine bP rfl ?_
                | refine pC (by first | exact True.intro | omega | (intros; first | exact True.intro | omega) | (simp only [List.length_cons, List.length_nil, Int.toNat_natCast]; omega)) ?_
                | refine seqI rfl ?_
                | refine regI rfl ?_
                | refine scopeI rfl ?_
                | refine blockI rfl ?_
                | refine exitI rfl ?_
                | refine retI rfl ?_
                | refine skipI rfl ?_)
              refine endR rfl ?_
              repeat' (first | exact trivial | exact rfl | refine ⟨rfl, ?_⟩ | refine And.intro ?_ ?_)
end Go.AM.Ytgpnkpiinmicgaa
