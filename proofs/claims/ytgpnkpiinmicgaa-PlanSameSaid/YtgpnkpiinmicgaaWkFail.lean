/- The law PlanFailures: her function. -/
import Derived.Test.YtgpnkpiinmicgaaWkKept
import Derived.Test.YtgpnkpiinmicgaaWkRun2
set_option linter.all false
namespace Go.AM.Ytgpnkpiinmicgaa
open Go.Proofs
set_option maxRecDepth 100000
set_option maxHeartbeats 8000000

def sigLaw2 : List (Nat × Spec) := (16, eqViS) :: sigLaw
theorem sigLaw2Ok : SigOk Try.prog (look sigLaw2) := sigCons sigLawOk Try.func16 (by kernel_rfl) (c := body Try.f16) rfl eqViOk

theorem cTl0 (xs : List StT) : cTl xs 0 = -1 := by unfold cTl; rw [if_neg (by decide)]
theorem cFa0 (xs : List StT) (n : Int) : cFa xs 0 n = 0 := by unfold cFa; rw [if_neg (by decide)]

theorem made_small (x : List Six) : ∀ i, i < (mXs x).length → 0 ≤ sMs (mXs x) i ∧ sMs (mXs x) i ≤ 700 ∧ 0 ≤ sSs (mXs x) i ∧ sSs (mXs x) i ≤ 700 ∧ sMx (mXs x) i ≤ 31 := fun i hi => by
  obtain ⟨h1, h2⟩ := mXs_b x
  have g := h2 i (by omega)
  unfold SGood FGood at g
  unfold sMs sSs sMx
  omega

/-- What a second scenario's failure must be, so that it makes no difference. -/
def Past (xs : List StT) (du : List Int) (tl fa : Int) (n : Nat) : Prop := ∀ j, j < n → sMt xs j = tl → sMs xs j + getI du 0 j ≤ fa

def plan5S : Spec := plain fun
  | [.sl (.pair (.int .i64) (.pair (.int .i64) (.pair (.int .i64) (.pair (.int .i64) (.pair (.int .i64) (.int .i64)))))) _, .sl (.pair (.int .i64) (.int .i64)) _, .int .i64 _, .int .i64 _, .int .i64 _] => outV True (.bool true)
  | _ => none

theorem failOk : SpecSound Try.prog 6 plan5S := by
  refine soundP (envOf sigLaw2Ok) Try.func6 (c := body Try.f6) rfl (by kernel_rfl) rfl ?_
  intro args out hf hpre
  split at hf <;> try (cases hf; done)
  rename_i x y tool at' more
  cases hf
  refine ⟨Nat.le_of_ble_eq_true rfl, initI (args := [.sl tSix x, .sl tTwo y, .int .i64 tool, .int .i64 at', .int .i64 more]) rfl ?_⟩
  have hlen := made_len x
  have hposs := chosen_poss (made_valid x) (made_late x) y 0 0
  have hsm := made_small x
  rw [cTl0, cFa0] at hposs
  have hch : ∀ i, i < (mXs x).length → AtOk (getI (mXs x) tStage.dflt i).1 (getI (mXs x) tStage.dflt i).2.1 (mA x) (mB x) (getI (cDu (mXs x) y (mXs x).length) 0 i) (getI (cMo (mA x) (mB x) y (mXs x).length) 0 i) := chosen_at (valid_facts (made_valid x)) y
  repeat' (first
    | with_reducible refine pN ?_
    | with_reducible refine cN ?_
    | with_reducible refine bN ?_
    | with_reducible refine cE ?_
    | with_reducible refine cR ?_
    | with_reducible refine bR ?_
    | with_reducible refine lE ?_
    | with_reducible refine lR ?_
    | with_reducible refine jE ?_
    | with_reducible refine jR ?_
    | refine bE rfl ?_
    | refine bP rfl ?_
    | refine pC (by first | exact True.intro | omega | (intros; first | exact True.intro | omega) | (simp only [List.length_cons, List.length_nil, Int.toNat_natCast]; omega) | first | exact made_valid _ | exact hlen) ?_
    | refine seqI rfl ?_
    | refine regI rfl ?_
    | refine scopeI rfl ?_
    | refine blockI rfl ?_
    | refine exitI rfl ?_
    | refine retI rfl ?_
    | refine skipI rfl ?_)
  simp only [cTl0, cFa0]
  generalize cDu (mXs x) y (mXs x).length = du at *
  generalize cMo (mA x) (mB x) y (mXs x).length = mo at *
  generalize cDe (mA x) (mB x) y = de at *
  generalize mE x = e at *
  generalize mA x = a at *
  generalize mB x = b at *
  generalize mXs x = xs at *
  generalize mWs x = ws at *
  have C := poss_facts hposs
  have hn := C.n
  have hdl := C.dul
  obtain ⟨tl, htl⟩ : ∃ tl, tl = pickF tool 8 := ⟨_, rfl⟩
  obtain ⟨f0, hf0⟩ : ∃ f0, f0 = pickF at' 400 := ⟨_, rfl⟩
  rw [← htl, ← hf0]
  have htb := @pick_b tool 8 (by decide)
  have hfb := @pick_b at' 400 (by decide)
  have hmb := @pick_b more 5 (by decide)
  rw [← htl] at htb
  rw [← hf0] at hfb
  refine loopI (σ := Nat × Int) (fun s => [(15, .int .i64 s.2), (16, .int .i64 s.1)]) (fun s => []) (fun s => s.1 ≤ xs.length ∧ 0 ≤ s.2 ∧ s.2 ≤ 800 ∧ Past xs du tl s.2 s.1) (fun s => xs.length - s.1) (0, 0) rfl (fun _ => rfl) rfl ?_ ?_ ?_
  · exact ⟨Nat.zero_le _, Int.le_refl _, by decide, fun j hj => absurd hj (Nat.not_lt_zero _)⟩
  · repeat' (first | exact trivial | exact rfl | refine ⟨rfl, ?_⟩ | refine And.intro ?_ ?_)
  · rintro ⟨i, en⟩ ⟨hi, he0, he1, hp⟩
    dsimp only at hi he0 he1 hp ⊢
    repeat' (first
      | with_reducible refine pN ?_
      | with_reducible refine cN ?_
      | with_reducible refine bN ?_
      | with_reducible refine cE ?_
      | with_reducible refine cR ?_
      | with_reducible refine bR ?_
      | with_reducible refine lE ?_
      | with_reducible refine lR ?_
      | with_reducible refine jE ?_
      | with_reducible refine jR ?_
      | refine bE rfl ?_
      | refine bP rfl ?_
      | refine pC (by first | exact True.intro | omega | (intros; first | exact True.intro | omega) | (simp only [List.length_cons, List.length_nil, Int.toNat_natCast]; omega)) ?_
      | refine seqI rfl ?_
      | refine regI rfl ?_
      | refine scopeI rfl ?_
      | refine blockI rfl ?_
      | refine exitI rfl ?_
      | refine retI rfl ?_
      | refine skipI rfl ?_)
    refine condI rfl (fun c1 => ?_) (fun c1 => ?_)
    · simp only [decide_eq_true_eq] at c1
      have hilt : i < xs.length := by omega
      have hm := hsm i hilt
      have hat := hch i hilt
      have hs := C.st i hilt
      unfold AtOk at hat
      unfold StOk at hs
      unfold sMs sSs sMx at hm
      repeat' (first
        | with_reducible refine pN ?_
        | with_reducible refine cN ?_
        | with_reducible refine bN ?_
        | with_reducible refine cE ?_
        | with_reducible refine cR ?_
        | with_reducible refine bR ?_
        | with_reducible refine lE ?_
        | with_reducible refine lR ?_
        | with_reducible refine jE ?_
        | with_reducible refine jR ?_
        | refine bE rfl ?_
        | refine bP rfl ?_
        | refine pC (by first | exact True.intro | omega | (intros; first | exact True.intro | omega) | (simp only [List.length_cons, List.length_nil, Int.toNat_natCast]; omega)) ?_
        | refine seqI rfl ?_
        | refine regI rfl ?_
        | refine scopeI rfl ?_
        | refine blockI rfl ?_
        | refine exitI rfl ?_
        | refine retI rfl ?_
        | refine skipI rfl ?_)
      have hnext : ∀ en', en ≤ en' → (sMt xs i = tl → sMs xs i + getI du 0 i ≤ en') → Past xs du tl en' (i + 1) := fun en' h1 h2 j hj h3 => by
        by_cases hji : j < i
        · have := hp j hji h3
          omega
        · obtain rfl : j = i := by omega
          exact h2 h3
      refine condI rfl (fun c2 => ?_) (fun c2 => ?_)
      · repeat' (first
          | with_reducible refine pN ?_
          | with_reducible refine cN ?_
          | with_reducible refine bN ?_
          | with_reducible refine cE ?_
          | with_reducible refine cR ?_
          | with_reducible refine bR ?_
          | with_reducible refine lE ?_
          | with_reducible refine lR ?_
          | with_reducible refine jE ?_
          | with_reducible refine jR ?_
          | refine bE rfl ?_
          | refine bP rfl ?_
          | refine pC (by first | exact True.intro | omega | (intros; first | exact True.intro | omega) | (simp only [List.length_cons, List.length_nil, Int.toNat_natCast]; omega) | (simp only [Int.toNat_natCast, dflt0]; omega)) ?_
          | refine seqI rfl ?_
          | refine regI rfl ?_
          | refine scopeI rfl ?_
          | refine blockI rfl ?_
          | refine exitI rfl ?_
          | refine retI rfl ?_
          | refine skipI rfl ?_)
        refine roundI (i + 1, max en (sMs xs i + getI du 0 i)) rfl ⟨by show i + 1 ≤ _; omega, by show 0 ≤ max _ _; omega, by show max _ _ ≤ 800; unfold sMs; omega, hnext _ (by omega) (fun _ => by omega)⟩ (by show xs.length - (i + 1) < xs.length - i; omega) ?_
        repeat' (first | exact trivial | exact rfl | refine ⟨rfl, ?_⟩ | refine And.intro ?_ ?_)
      · repeat' (first
          | with_reducible refine pN ?_
          | with_reducible refine cN ?_
          | with_reducible refine bN ?_
          | with_reducible refine cE ?_
          | with_reducible refine cR ?_
          | with_reducible refine bR ?_
          | with_reducible refine lE ?_
          | with_reducible refine lR ?_
          | with_reducible refine jE ?_
          | with_reducible refine jR ?_
          | refine bE rfl ?_
          | refine bP rfl ?_
          | refine pC (by first | exact True.intro | omega | (intros; first | exact True.intro | omega) | (simp only [List.length_cons, List.length_nil, Int.toNat_natCast]; omega)) ?_
          | refine seqI rfl ?_
          | refine regI rfl ?_
          | refine scopeI rfl ?_
          | refine blockI rfl ?_
          | refine exitI rfl ?_
          | refine retI rfl ?_
          | refine skipI rfl ?_)
        refine roundI (i + 1, en) rfl ⟨by show i + 1 ≤ _; omega, he0, he1, hnext _ (by omega) (fun h => ?_)⟩ (by show xs.length - (i + 1) < xs.length - i; omega) ?_
        · have c2' : decide (sMt xs i = tl) = false := c2
          rw [decide_eq_false_iff_not] at c2'
          exact absurd h c2'
        · repeat' (first | exact trivial | exact rfl | refine ⟨rfl, ?_⟩ | refine And.intro ?_ ?_)
    · simp only [decide_eq_false_iff_not] at c1
      obtain rfl : i = xs.length := by omega
      obtain ⟨fa, hfa⟩ : ∃ fa, fa = max f0 (en + pickF more 5) := ⟨_, rfl⟩
      have hposs2 : possF e a b xs ws du mo de tl fa = true := by
        have hv : validF e a b xs ws = true := by
          unfold possF at hposs
          simp only [Bool.and_eq_true] at hposs
          exact hposs.1.1.1.1.1
        exact poss_of hv C.dul C.mol C.deb C.at' (.inr ⟨htb.1, by omega, by omega, by omega⟩)
      obtain ⟨hr0, hR⟩ := run_spec hposs
      have hrl := hR.len
      have hsame : runF e a b xs ws du mo de tl fa = runF e a b xs ws du mo de (-1) 0 := by
        have e1 : runG xs ws du mo de tl fa xs.length 0 [] e = runG xs ws du mo de (-1) 0 xs.length 0 [] e := by
          refine runG_congr (fun i t hi => ?_) xs.length 0 [] e (by omega)
          have hs := C.st i hi
          unfold StOk at hs
          have hpi := hp i hi
          unfold reachedAt
          rw [reachedF_no, reachedF_no]
          · omega
          · rintro ⟨h1, h2⟩
            have h3 : sMs xs i + getI du 0 i ≤ en := hpi h1.symm
            unfold sMs at h3
            omega
        unfold runF
        rw [hposs, hposs2, e1]
      repeat' (first
        | with_reducible refine pN ?_
        | with_reducible refine cN ?_
        | with_reducible refine bN ?_
        | with_reducible refine cE ?_
        | with_reducible refine cR ?_
        | with_reducible refine bR ?_
        | with_reducible refine lE ?_
        | with_reducible refine lR ?_
        | with_reducible refine jE ?_
        | with_reducible refine jR ?_
        | refine bE rfl ?_
        | refine bP rfl ?_
        | refine pC (by first | exact True.intro | omega | (intros; first | exact True.intro | omega) | (simp only [List.length_cons, List.length_nil, Int.toNat_natCast]; omega) | first | exact hlen | (simp only [Int.toNat_natCast, dflt0]; omega)) ?_
        | refine seqI rfl ?_
        | refine regI rfl ?_
        | refine scopeI rfl ?_
        | refine blockI rfl ?_
        | refine exitI rfl ?_
        | refine retI rfl ?_
        | refine skipI rfl ?_)
      rw [← hfa, hsame]
      refine pC (fun _ => ⟨by omega, by omega⟩) (pN (cN ?_))
      repeat' (first
        | with_reducible refine pN ?_
        | with_reducible refine cN ?_
        | with_reducible refine bN ?_
        | with_reducible refine cE ?_
        | with_reducible refine cR ?_
        | with_reducible refine bR ?_
        | with_reducible refine lE ?_
        | with_reducible refine lR ?_
        | with_reducible refine jE ?_
        | with_reducible refine jR ?_
        | refine bE rfl ?_
        | refine bP rfl ?_
        | refine pC (by first | exact True.intro | omega | (intros; first | exact True.intro | omega) | (simp only [List.length_cons, List.length_nil, Int.toNat_natCast]; omega)) ?_
        | refine seqI rfl ?_
        | refine regI rfl ?_
        | refine scopeI rfl ?_
        | refine blockI rfl ?_
        | refine exitI rfl ?_
        | refine retI rfl ?_
        | refine skipI rfl ?_)
      refine endR rfl ?_
      repeat' (first | exact trivial | exact rfl | refine ⟨rfl, ?_⟩ | refine And.intro ?_ ?_)
      simp [hr0, eqViF]
end Go.AM.Ytgpnkpiinmicgaa
