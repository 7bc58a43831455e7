/- The reference's Made: a plan that integers determine. -/
import Derived.Test.YtkacoophnfljcaaPlF
import Derived.Test.YtkacoophnfljcaaWkPick
set_option linter.all false
namespace Go.AM.Ytkacoophnfljcaa.Pl
open Go.Proofs
set_option maxRecDepth 100000
set_option maxHeartbeats 8000000

abbrev StT := Int × Int × (Int × Int) × Int × Int
abbrev WiT := Int × Int × Int
abbrev Six := Int × Int × Int × Int × Int × Int
def six (x : List Six) (i : Nat) : Six := getI x tSix.dflt i

def mE (x : List Six) : Int := if 0 < (x.length : Int) then pickF (six x 0).2.2.2.2.2 50 else 100
def mA (x : List Six) : Int := if 0 < (x.length : Int) then pickF (six x 0).2.2.2.2.1 5 else 2
def mB (x : List Six) : Int := if 0 < (x.length : Int) then pickF (six x 0).2.2.2.2.1 5 + pickF ((six x 0).2.2.2.2.1.tdiv 5) 8 else 6

def stMn (y : Six) : Int := 1 + pickF y.1 20
def stMx (y : Six) : Int := stMn y + pickF (y.1.tdiv 20) 12
def stMt (y : Six) : Int := pickF y.2.1 6
def stSt (y : Six) : Int := (stMt y + 1 + pickF (y.2.1.tdiv 6) 5).tmod 6
def stMs (b t late : Int) (y : Six) : Int := if 0 < pickF (y.2.2.1.tdiv 12) 4 then late + b + pickF (y.2.2.1.tdiv 48) 3 else t + b + pickF y.2.2.1 12
def stSs (b ms mx : Int) (y : Six) : Int := if pickF (y.2.2.2.1.tdiv 45) 5 = 0 then ms + pickF (y.2.2.2.1.tdiv 225) 6 else ms + mx + pickF y.2.2.2.1 3 * b + pickF (y.2.2.2.1.tdiv 3) 15

def stageAt (x : List Six) (b : Int) (i : Nat) (t late : Int) : StT :=
  if (i : Int) < x.length then (stMn (six x i), stMx (six x i), (stMt (six x i), stMs b t late (six x i)), stSt (six x i), stSs b (stMs b t late (six x i)) (stMx (six x i)) (six x i))
  else (10, 10, ((i : Int), t + 10), (i : Int) + 1, t + 40)

/-- The stages, the end of the last one's main slot, and of its later slot, behind i stages. -/
def mst (x : List Six) : Nat → List StT × Int × Int
  | 0 => ([], mE x, mE x)
  | i + 1 =>
    let p := mst x i
    let s := stageAt x (mB x) i p.2.1 p.2.2
    (p.1 ++ [s], s.2.2.1.2 + s.2.1, max s.2.2.1.2 s.2.2.2.2 + s.2.1)

def nst (x : List Six) : Nat := max 1 (min x.length 5)

theorem mE_b (x : List Six) : 0 ≤ mE x ∧ mE x ≤ 100 := by unfold mE; (repeat' split) <;> (try simp only [pick_mod]) <;> omega
theorem mA_b (x : List Six) : 0 ≤ mA x ∧ mA x ≤ 4 := by unfold mA; (repeat' split) <;> (try simp only [pick_mod]) <;> omega
theorem mB_b (x : List Six) : mA x ≤ mB x ∧ mB x ≤ 11 := by unfold mA mB; (repeat' split) <;> (try simp only [pick_mod]) <;> omega


def FGood (mn mx mt ms st ss M : Int) : Prop := (1 ≤ mn ∧ mn ≤ mx ∧ mx ≤ 31) ∧ (0 ≤ mt ∧ mt ≤ 5) ∧ (0 ≤ st ∧ st ≤ 5) ∧ mt ≠ st ∧ (0 ≤ ms ∧ ms ≤ M + 22) ∧ (0 ≤ ss ∧ ss ≤ M + 89)
def SGood (s : StT) (M : Int) : Prop := FGood s.1 s.2.1 s.2.2.1.1 s.2.2.1.2 s.2.2.2.1 s.2.2.2.2 M

theorem ms_b {b t late M : Int} (y : Six) (hb : 0 ≤ b ∧ b ≤ 11) (ht : 0 ≤ t ∧ t ≤ M) (hl : 0 ≤ late ∧ late ≤ M) : 0 ≤ stMs b t late y ∧ stMs b t late y ≤ M + 22 := by
  have h4 := @pick_b (y.2.2.1.tdiv 48) 3 (by decide)
  have h5 := @pick_b y.2.2.1 12 (by decide)
  unfold stMs; split <;> omega
theorem mx_b (y : Six) : 1 ≤ stMn y ∧ stMn y ≤ stMx y ∧ stMx y ≤ 31 := by
  have h0 := @pick_b y.1 20 (by decide)
  have h1 := @pick_b (y.1.tdiv 20) 12 (by decide)
  unfold stMx stMn; omega
theorem prod_b {b : Int} (c : Int) (hb : 0 ≤ b ∧ b ≤ 11) : 0 ≤ pickF c 3 * b ∧ pickF c 3 * b ≤ 22 := by
  have h7 := @pick_b c 3 (by decide)
  refine ⟨Int.mul_nonneg h7.1 hb.1, ?_⟩
  exact Int.le_trans (Int.mul_le_mul (show pickF c 3 ≤ 2 by omega) hb.2 hb.1 (by decide)) (by decide)

theorem stage_b {x : List Six} {b t late M : Int} {i : Nat} (hb : 0 ≤ b ∧ b ≤ 11) (hi : i ≤ 4) (ht : 0 ≤ t ∧ t ≤ M) (hl : 0 ≤ late ∧ late ≤ M) : SGood (stageAt x b i t late) M := by
  unfold stageAt
  split
  · generalize six x i = y
    have h0 := @pick_b y.1 20 (by decide)
    have h1 := @pick_b (y.1.tdiv 20) 12 (by decide)
    have h2 := @pick_b y.2.1 6 (by decide)
    have h3 := @pick_b (y.2.1.tdiv 6) 5 (by decide)
    have h4 := @pick_b (y.2.2.1.tdiv 48) 3 (by decide)
    have h5 := @pick_b y.2.2.1 12 (by decide)
    have h6 := @pick_b (y.2.2.2.1.tdiv 225) 6 (by decide)
    have h7 := @pick_b y.2.2.2.1 3 (by decide)
    have h8 := @pick_b (y.2.2.2.1.tdiv 3) 15 (by decide)
    have hms : 0 ≤ stMs b t late y ∧ stMs b t late y ≤ M + 22 := by unfold stMs; split <;> omega
    have hmx : 1 ≤ stMn y ∧ stMn y ≤ stMx y ∧ stMx y ≤ 31 := by unfold stMx stMn; omega
    have hp : 0 ≤ pickF y.2.2.2.1 3 * b ∧ pickF y.2.2.2.1 3 * b ≤ 22 := by
      refine ⟨Int.mul_nonneg h7.1 hb.1, ?_⟩
      exact Int.le_trans (Int.mul_le_mul (show pickF y.2.2.2.1 3 ≤ 2 by omega) hb.2 hb.1 (by decide)) (by decide)
    have hss : 0 ≤ stSs b (stMs b t late y) (stMx y) y ∧ stSs b (stMs b t late y) (stMx y) y ≤ M + 89 := by unfold stSs; split <;> omega
    have hst : 0 ≤ stSt y ∧ stSt y ≤ 5 ∧ stMt y ≠ stSt y := by
      unfold stSt stMt
      rw [Int.tmod_eq_emod_of_nonneg (by omega)]
      omega
    refine ⟨hmx, (by show 0 ≤ stMt y ∧ stMt y ≤ 5; unfold stMt; omega), ⟨hst.1, hst.2.1⟩, hst.2.2, hms, hss⟩
  · refine ⟨?_, ?_, ?_, ?_, ?_, ?_⟩ <;> dsimp only <;> omega

theorem getI_append_lt {α : Type} {xs ys : List α} {d : α} {j : Nat} (h : j < xs.length) : getI (xs ++ ys) d j = getI xs d j := by
  simp [getI, List.getD, List.getElem?_append_left h]
theorem getI_append_eq {α : Type} {xs : List α} {y d : α} : getI (xs ++ [y]) d xs.length = y := by
  simp [getI, List.getD]

theorem mst_b (x : List Six) : ∀ i : Nat, i ≤ 5 → (mst x i).1.length = i ∧ (0 ≤ (mst x i).2.1 ∧ (mst x i).2.1 ≤ 100 + 120 * (i : Int)) ∧ (0 ≤ (mst x i).2.2 ∧ (mst x i).2.2 ≤ 100 + 120 * (i : Int)) ∧ ∀ j, j < i → SGood (getI (mst x i).1 tStage.dflt j) 600
  | 0, _ => by
    have := mE_b x
    exact ⟨rfl, (by show 0 ≤ mE x ∧ mE x ≤ _; omega), (by show 0 ≤ mE x ∧ mE x ≤ _; omega), fun j hj => by omega⟩
  | i + 1, hi => by
    obtain ⟨h1, h2, h3, h4⟩ := mst_b x i (by omega)
    have hA := mA_b x
    have hB := mB_b x
    have hs := stage_b (x := x) (b := mB x) (i := i) (by omega) (by omega) h2 h3
    have hs0 := hs
    unfold SGood FGood at hs
    refine ⟨by simp [mst, h1], ?_, ?_, fun j hj => ?_⟩
    · show 0 ≤ (stageAt x (mB x) i (mst x i).2.1 (mst x i).2.2).2.2.1.2 + (stageAt x (mB x) i (mst x i).2.1 (mst x i).2.2).2.1 ∧ (stageAt x (mB x) i (mst x i).2.1 (mst x i).2.2).2.2.1.2 + (stageAt x (mB x) i (mst x i).2.1 (mst x i).2.2).2.1 ≤ _
      omega
    · show 0 ≤ max (stageAt x (mB x) i (mst x i).2.1 (mst x i).2.2).2.2.1.2 (stageAt x (mB x) i (mst x i).2.1 (mst x i).2.2).2.2.2.2 + (stageAt x (mB x) i (mst x i).2.1 (mst x i).2.2).2.1 ∧ max (stageAt x (mB x) i (mst x i).2.1 (mst x i).2.2).2.2.1.2 (stageAt x (mB x) i (mst x i).2.1 (mst x i).2.2).2.2.2.2 + (stageAt x (mB x) i (mst x i).2.1 (mst x i).2.2).2.1 ≤ _
      omega
    · show SGood (getI ((mst x i).1 ++ [stageAt x (mB x) i (mst x i).2.1 (mst x i).2.2]) tStage.dflt j) 600
      by_cases hj2 : j < i
      · rw [getI_append_lt (by omega)]; exact h4 j hj2
      · obtain rfl : j = i := by omega
        rw [show getI ((mst x j).1 ++ [stageAt x (mB x) j (mst x j).2.1 (mst x j).2.2]) tStage.dflt j = stageAt x (mB x) j (mst x j).2.1 (mst x j).2.2 by
          have := getI_append_eq (xs := (mst x j).1) (y := stageAt x (mB x) j (mst x j).2.1 (mst x j).2.2) (d := tStage.dflt)
          rwa [h1] at this]
        unfold SGood FGood
        omega

def mXs (x : List Six) : List StT := (mst x (nst x)).1

def wN (x : List Six) (i k : Nat) : Int := if (k : Int) < x.length then pickF ((six x i).2.2.2.2.1.fdiv (2 ^ (min k 64))) 3 else 0
def wL (x : List Six) (xs : List StT) (i k : Nat) : Int :=
  if 1 < wN x i k then max (getI xs tStage.dflt k).2.2.2.2 (getI xs tStage.dflt k).2.2.1.2 - (getI xs tStage.dflt i).2.2.1.2 - (getI xs tStage.dflt i).1 + pickF (six x k).2.2.2.2.2 3 - 1
  else pickF (six x k).2.2.2.2.2 150
def wAt (x : List Six) (xs : List StT) (i k : Nat) : List WiT := if 0 < wN x i k then [((i : Int), (k : Int), max 0 (wL x xs i k))] else []
def wK (x : List Six) (xs : List StT) (i : Nat) : Nat → List WiT
  | 0 => []
  | j + 1 => wK x xs i j ++ wAt x xs i (i + 1 + j)
def wO (x : List Six) (xs : List StT) (n : Nat) : Nat → List WiT
  | 0 => []
  | i + 1 => wO x xs n i ++ wK x xs i (n - (i + 1))
def mWs (x : List Six) : List WiT := wO x (mXs x) (nst x) (nst x)

theorem wK_len {x : List Six} {xs : List StT} {i : Nat} : ∀ j : Nat, (wK x xs i j).length ≤ j
  | 0 => Nat.le_refl _
  | j + 1 => by
    have := wK_len (x := x) (xs := xs) (i := i) j
    have h2 : (wAt x xs i (i + 1 + j)).length ≤ 1 := by unfold wAt; split <;> simp
    simp only [wK, List.length_append]; omega
theorem wO_len {x : List Six} {xs : List StT} {n : Nat} : ∀ i : Nat, (wO x xs n i).length ≤ i * n
  | 0 => by simp [wO]
  | i + 1 => by
    have := wO_len (x := x) (xs := xs) (n := n) i
    have h2 := wK_len (x := x) (xs := xs) (i := i) (n - (i + 1))
    simp only [wO, List.length_append, Nat.succ_mul]; omega

def madeS : Spec := plain fun
  | [.sl (.pair (.int .i64) (.pair (.int .i64) (.pair (.int .i64) (.pair (.int .i64) (.pair (.int .i64) (.int .i64)))))) x] => some ⟨True, .agg [.int .i64 (mE x), .int .i64 (mA x), .int .i64 (mB x), .own 0, .own 1], [.seq tStage (mXs x), .seq tWin (mWs x)], false⟩
  | _ => none

theorem madeOk : SpecSound Try.prog 38 madeS := by
  refine soundP (envOf sigPickOk) Try.func38 (c := body Try.f38) rfl (by kernel_rfl) rfl ?_
  intro args out hf hpre
  split at hf <;> try (cases hf; done)
  rename_i x'
  cases hf
  refine ⟨Nat.le_of_ble_eq_true rfl, initI rfl ?_⟩
  obtain ⟨x, hx⟩ : ∃ x : List Six, x = x' := ⟨x', rfl⟩
  subst hx
  repeat' (first
    | with_reducible refine pN ?_
    | with_reducible refine cN ?_
    | with_reducible refine bN ?_
    | with_reducible refine cE ?_
    | with_reducible refine cR ?_
    | with_reducible refine bR ?_
    | with_reducible refine lE ?_
    | with_reducible refine lR ?_
    | with_reducible refine jE ?_
    | with_reducible refine jR ?_
    | refine bE rfl ?_
    | refine bP rfl ?_
    | refine pC (by first | exact True.intro | omega | (intros; first | exact True.intro | omega) | (simp only [List.length_cons, List.length_nil, Int.toNat_natCast]; omega)) ?_
    | refine seqI rfl ?_
    | refine regI rfl ?_
    | refine scopeI rfl ?_
    | refine blockI rfl ?_
    | refine exitI rfl ?_
    | refine retI rfl ?_
    | refine skipI rfl ?_)
  refine joinC (fun _ : Unit => []) (fun _ => [(3, .box [.int .i64 (mE x), .int .i64 (mA x), .int .i64 (mB x), .nilsl, .nilsl])]) (fun _ => True) (fun _ => rfl) ?_ (fun _ _ => ?_)
  · refine condI rfl (fun c1 => ?_) (fun c1 => ?_)
    · simp only [decide_eq_true_eq] at c1
      repeat' (first
        | with_reducible refine pN ?_
        | with_reducible refine cN ?_
        | with_reducible refine bN ?_
        | with_reducible refine cE ?_
        | with_reducible refine cR ?_
        | with_reducible refine bR ?_
        | with_reducible refine lE ?_
        | with_reducible refine lR ?_
        | with_reducible refine jE ?_
        | with_reducible refine jR ?_
        | refine bE rfl ?_
        | refine bP rfl ?_
        | refine pC (by first | exact True.intro | omega | (intros; first | exact True.intro | omega) | (simp only [List.length_cons, List.length_nil, Int.toNat_natCast]; omega) | (simp only [pick_mod]; omega)) ?_
        | refine seqI rfl ?_
        | refine regI rfl ?_
        | refine scopeI rfl ?_
        | refine blockI rfl ?_
        | refine exitI rfl ?_
        | refine retI rfl ?_
        | refine skipI rfl ?_)
      refine meetI () rfl trivial ?_
      repeat' (first | exact trivial | exact rfl | refine ⟨rfl, ?_⟩ | refine And.intro ?_ ?_)
      · unfold mE; rw [if_pos c1]; rfl
      · unfold mA; rw [if_pos c1]; rfl
      · unfold mB; rw [if_pos c1]; rfl
    · simp only [decide_eq_false_iff_not] at c1
      repeat' (first
        | with_reducible refine pN ?_
        | with_reducible refine cN ?_
        | with_reducible refine bN ?_
        | with_reducible refine cE ?_
        | with_reducible refine cR ?_
        | with_reducible refine bR ?_
        | with_reducible refine lE ?_
        | with_reducible refine lR ?_
        | with_reducible refine jE ?_
        | with_reducible refine jR ?_
        | refine bE rfl ?_
        | refine bP rfl ?_
        | refine pC (by first | exact True.intro | omega | (intros; first | exact True.intro | omega) | (simp only [List.length_cons, List.length_nil, Int.toNat_natCast]; omega)) ?_
        | refine seqI rfl ?_
        | refine regI rfl ?_
        | refine scopeI rfl ?_
        | refine blockI rfl ?_
        | refine exitI rfl ?_
        | refine retI rfl ?_
        | refine skipI rfl ?_)
      refine meetI () rfl trivial ?_
      repeat' (first | exact trivial | exact rfl | refine ⟨rfl, ?_⟩ | refine And.intro ?_ ?_)
      · unfold mE; rw [if_neg c1]
      · unfold mA; rw [if_neg c1]
      · unfold mB; rw [if_neg c1]
  · repeat' (first
      | with_reducible refine pN ?_
      | with_reducible refine cN ?_
      | with_reducible refine bN ?_
      | with_reducible refine cE ?_
      | with_reducible refine cR ?_
      | with_reducible refine bR ?_
      | with_reducible refine lE ?_
      | with_reducible refine lR ?_
      | with_reducible refine jE ?_
      | with_reducible refine jR ?_
      | refine bE rfl ?_
      | refine bP rfl ?_
      | refine pC (by first | exact True.intro | omega | (intros; first | exact True.intro | omega) | (simp only [List.length_cons, List.length_nil, Int.toNat_natCast]; omega)) ?_
      | refine seqI rfl ?_
      | refine regI rfl ?_
      | refine scopeI rfl ?_
      | refine blockI rfl ?_
      | refine exitI rfl ?_
      | refine retI rfl ?_
      | refine skipI rfl ?_)
    have hE := mE_b x
    have hA := mA_b x
    have hB := mB_b x
    have hn : nst x ≤ 5 := by unfold nst; omega
    refine loopI (σ := Nat) (fun i => [(4, .int .i64 (mst x i).2.1), (5, .int .i64 (mst x i).2.2), (6, .int .i64 i)]) (fun i => [(3, .box [.int .i64 (mE x), .int .i64 (mA x), .int .i64 (mB x), .own 3000, .nilsl]), (3000, .seq tStage (mst x i).1)]) (fun i => i ≤ nst x) (fun i => nst x - i) 0 rfl (fun _ => rfl) rfl ?_ ?_ ?_
    · exact Nat.zero_le _
    · repeat' (first | exact trivial | exact rfl | refine ⟨rfl, ?_⟩ | refine And.intro ?_ ?_)
    · intro i hi
      obtain ⟨hl, ht, hla, hg⟩ := mst_b x i (by omega)
      repeat' (first
        | with_reducible refine pN ?_
        | with_reducible refine cN ?_
        | with_reducible refine bN ?_
        | with_reducible refine cE ?_
        | with_reducible refine cR ?_
        | with_reducible refine bR ?_
        | with_reducible refine lE ?_
        | with_reducible refine lR ?_
        | with_reducible refine jE ?_
        | with_reducible refine jR ?_
        | refine bE rfl ?_
        | refine bP rfl ?_
        | refine pC (by first | exact True.intro | omega | (intros; first | exact True.intro | omega) | (simp only [List.length_cons, List.length_nil, Int.toNat_natCast]; omega)) ?_
        | refine seqI rfl ?_
        | refine regI rfl ?_
        | refine scopeI rfl ?_
        | refine blockI rfl ?_
        | refine exitI rfl ?_
        | refine retI rfl ?_
        | refine skipI rfl ?_)
      refine condI rfl (fun c2 => ?_) (fun c2 => ?_)
      · simp only [decide_eq_true_eq] at c2
        have hin : i < nst x := by unfold nst; omega
        have hs := stage_b (x := x) (b := mB x) (i := i) (by omega) (by omega) ht hla
        unfold SGood FGood at hs
        repeat' (first
          | with_reducible refine pN ?_
          | with_reducible refine cN ?_
          | with_reducible refine bN ?_
          | with_reducible refine cE ?_
          | with_reducible refine cR ?_
          | with_reducible refine bR ?_
          | with_reducible refine lE ?_
          | with_reducible refine lR ?_
          | with_reducible refine jE ?_
          | with_reducible refine jR ?_
          | refine bE rfl ?_
          | refine bP rfl ?_
          | refine pC (by first | exact True.intro | omega | (intros; first | exact True.intro | omega) | (simp only [List.length_cons, List.length_nil, Int.toNat_natCast]; omega)) ?_
          | refine seqI rfl ?_
          | refine regI rfl ?_
          | refine scopeI rfl ?_
          | refine blockI rfl ?_
          | refine exitI rfl ?_
          | refine retI rfl ?_
          | refine skipI rfl ?_)
        refine joinC (fun _ : Unit => []) (fun _ => [(7, .box (enc tStage (stageAt x (mB x) i (mst x i).2.1 (mst x i).2.2)))]) (fun _ => True) (fun _ => rfl) ?_ (fun _ _ => ?_)
        · refine condI rfl (fun c3 => ?_) (fun c3 => ?_)
          · simp only [decide_eq_true_eq] at c3
            have e : stageAt x (mB x) i (mst x i).2.1 (mst x i).2.2 = (stMn (six x i), stMx (six x i), (stMt (six x i), stMs (mB x) (mst x i).2.1 (mst x i).2.2 (six x i)), stSt (six x i), stSs (mB x) (stMs (mB x) (mst x i).2.1 (mst x i).2.2 (six x i)) (stMx (six x i)) (six x i)) := by
              unfold stageAt; rw [if_pos c3]
            refine seqI rfl ?_
            refine regI rfl ?_
            repeat' (first | with_reducible refine pN ?_ | refine pC (by first | exact True.intro | omega | (intros; first | exact True.intro | omega) | (simp only [List.length_cons, List.length_nil, Int.toNat_natCast]; omega)) ?_)
            with_reducible refine cN ?_
            refine tidyI [] [(8, .box (enc tSix (six x i)))] rfl rfl ?_ ?_
            · repeat' (first | exact trivial | exact rfl | refine ⟨rfl, ?_⟩ | refine And.intro ?_ ?_)
            obtain ⟨y, hy⟩ : ∃ y, y = six x i := ⟨_, rfl⟩
            rw [← hy] at e ⊢
            have b1 := ms_b y (show 0 ≤ mB x ∧ mB x ≤ 11 by omega) ht hla
            have b2 := mx_b y
            have b3 := prod_b y.2.2.2.1 (show 0 ≤ mB x ∧ mB x ≤ 11 by omega)
            repeat' (first
              | with_reducible refine pN ?_
              | with_reducible refine cN ?_
              | with_reducible refine bN ?_
              | with_reducible refine cE ?_
              | with_reducible refine cR ?_
              | with_reducible refine bR ?_
              | with_reducible refine lE ?_
              | with_reducible refine lR ?_
              | with_reducible refine jE ?_
              | with_reducible refine jR ?_
              | refine bE rfl ?_
              | refine bP rfl ?_
              | refine pC (by first | exact True.intro | omega | (intros; first | exact True.intro | omega) | (simp only [List.length_cons, List.length_nil, Int.toNat_natCast]; omega) | (simp only [pick_mod]; omega)) ?_
              | refine seqI rfl ?_
              | refine regI rfl ?_
              | refine scopeI rfl ?_
              | refine blockI rfl ?_
              | refine exitI rfl ?_
              | refine retI rfl ?_
              | refine skipI rfl ?_)
            refine joinC (fun _ : Unit => []) (fun _ => [(7, .box [.int .i64 (stMn y), .int .i64 (stMx y), .int .i64 (stMt y), .int .i64 (stMs (mB x) (mst x i).2.1 (mst x i).2.2 y), .int .i64 (stSt y), .int .i64 ((mst x i).2.1 + 40)])]) (fun _ => True) (fun _ => rfl) ?_ (fun _ _ => ?_)
            · refine condI rfl (fun c4 => ?_) (fun c4 => ?_)
              · simp only [decide_eq_true_eq] at c4
                repeat' (first
                  | with_reducible refine pN ?_
                  | with_reducible refine cN ?_
                  | with_reducible refine bN ?_
                  | with_reducible refine cE ?_
                  | with_reducible refine cR ?_
                  | with_reducible refine bR ?_
                  | with_reducible refine lE ?_
                  | with_reducible refine lR ?_
                  | with_reducible refine jE ?_
                  | with_reducible refine jR ?_
                  | refine bE rfl ?_
                  | refine bP rfl ?_
                  | refine pC (by first | exact True.intro | omega | (intros; first | exact True.intro | omega) | (simp only [List.length_cons, List.length_nil, Int.toNat_natCast]; omega) | (simp only [pick_mod]; omega)) ?_
                  | refine seqI rfl ?_
                  | refine regI rfl ?_
                  | refine scopeI rfl ?_
                  | refine blockI rfl ?_
                  | refine exitI rfl ?_
                  | refine retI rfl ?_
                  | refine skipI rfl ?_)
                refine meetI () rfl trivial ?_
                repeat' (first | exact trivial | exact rfl | refine ⟨rfl, ?_⟩ | refine And.intro ?_ ?_)
                unfold stMs; rw [if_pos c4]
              · simp only [decide_eq_false_iff_not] at c4
                repeat' (first
                  | with_reducible refine pN ?_
                  | with_reducible refine cN ?_
                  | with_reducible refine bN ?_
                  | with_reducible refine cE ?_
                  | with_reducible refine cR ?_
                  | with_reducible refine bR ?_
                  | with_reducible refine lE ?_
                  | with_reducible refine lR ?_
                  | with_reducible refine jE ?_
                  | with_reducible refine jR ?_
                  | refine bE rfl ?_
                  | refine bP rfl ?_
                  | refine pC (by first | exact True.intro | omega | (intros; first | exact True.intro | omega) | (simp only [List.length_cons, List.length_nil, Int.toNat_natCast]; omega)) ?_
                  | refine seqI rfl ?_
                  | refine regI rfl ?_
                  | refine scopeI rfl ?_
                  | refine blockI rfl ?_
                  | refine exitI rfl ?_
                  | refine retI rfl ?_
                  | refine skipI rfl ?_)
                refine meetI () rfl trivial ?_
                repeat' (first | exact trivial | exact rfl | refine ⟨rfl, ?_⟩ | refine And.intro ?_ ?_)
                unfold stMs; rw [if_neg c4]
            · have b4 := @pick_b (y.2.2.2.1.tdiv 3) 15 (by decide)
              have b5 := @pick_b (y.2.2.2.1.tdiv 225) 6 (by decide)
              repeat' (first
                | with_reducible refine pN ?_
                | with_reducible refine cN ?_
                | with_reducible refine bN ?_
                | with_reducible refine cE ?_
                | with_reducible refine cR ?_
                | with_reducible refine bR ?_
                | with_reducible refine lE ?_
                | with_reducible refine lR ?_
                | with_reducible refine jE ?_
                | with_reducible refine jR ?_
                | refine bE rfl ?_
                | refine bP rfl ?_
                | refine pC (by first | exact True.intro | omega | (intros; first | exact True.intro | omega) | (simp only [List.length_cons, List.length_nil, Int.toNat_natCast]; omega)) ?_
                | refine seqI rfl ?_
                | refine regI rfl ?_
                | refine scopeI rfl ?_
                | refine blockI rfl ?_
                | refine exitI rfl ?_
                | refine retI rfl ?_
                | refine skipI rfl ?_)
              refine condI rfl (fun c4 => ?_) (fun c4 => ?_)
              · simp only [decide_eq_true_eq] at c4
                repeat' (first
                  | with_reducible refine pN ?_
                  | with_reducible refine cN ?_
                  | with_reducible refine bN ?_
                  | with_reducible refine cE ?_
                  | with_reducible refine cR ?_
                  | with_reducible refine bR ?_
                  | with_reducible refine lE ?_
                  | with_reducible refine lR ?_
                  | with_reducible refine jE ?_
                  | with_reducible refine jR ?_
                  | refine bE rfl ?_
                  | refine bP rfl ?_
                  | refine pC (by first | exact True.intro | omega | (intros; first | exact True.intro | omega) | (simp only [List.length_cons, List.length_nil, Int.toNat_natCast]; omega)) ?_
                  | refine seqI rfl ?_
                  | refine regI rfl ?_
                  | refine scopeI rfl ?_
                  | refine blockI rfl ?_
                  | refine exitI rfl ?_
                  | refine retI rfl ?_
                  | refine skipI rfl ?_)
                refine meetI () rfl trivial ?_
                repeat' (first | exact trivial | exact rfl | refine ⟨rfl, ?_⟩ | refine And.intro ?_ ?_)
                all_goals rw [e]
                show stSs _ _ _ y = _
                unfold stSs; rw [if_pos c4]
              · simp only [decide_eq_false_iff_not] at c4
                repeat' (first
                  | with_reducible refine pN ?_
                  | with_reducible refine cN ?_
                  | with_reducible refine bN ?_
                  | with_reducible refine cE ?_
                  | with_reducible refine cR ?_
                  | with_reducible refine bR ?_
                  | with_reducible refine lE ?_
                  | with_reducible refine lR ?_
                  | with_reducible refine jE ?_
                  | with_reducible refine jR ?_
                  | refine bE rfl ?_
                  | refine bP rfl ?_
                  | refine pC (by first | exact True.intro | omega | (intros; first | exact True.intro | omega) | (simp only [List.length_cons, List.length_nil, Int.toNat_natCast]; omega)) ?_
                  | refine seqI rfl ?_
                  | refine regI rfl ?_
                  | refine scopeI rfl ?_
                  | refine blockI rfl ?_
                  | refine exitI rfl ?_
                  | refine retI rfl ?_
                  | refine skipI rfl ?_)
                refine meetI () rfl trivial ?_
                repeat' (first | exact trivial | exact rfl | refine ⟨rfl, ?_⟩ | refine And.intro ?_ ?_)
                all_goals rw [e]
                show stSs _ _ _ y = _
                unfold stSs; rw [if_neg c4]
          · simp only [decide_eq_false_iff_not] at c3
            have e : stageAt x (mB x) i (mst x i).2.1 (mst x i).2.2 = (10, 10, ((i : Int), (mst x i).2.1 + 10), (i : Int) + 1, (mst x i).2.1 + 40) := by
              unfold stageAt; rw [if_neg c3]
            repeat' (first
              | with_reducible refine pN ?_
              | with_reducible refine cN ?_
              | with_reducible refine bN ?_
              | with_reducible refine cE ?_
              | with_reducible refine cR ?_
              | with_reducible refine bR ?_
              | with_reducible refine lE ?_
              | with_reducible refine lR ?_
              | with_reducible refine jE ?_
              | with_reducible refine jR ?_
              | refine bE rfl ?_
              | refine bP rfl ?_
              | refine pC (by first | exact True.intro | omega | (intros; first | exact True.intro | omega) | (simp only [List.length_cons, List.length_nil, Int.toNat_natCast]; omega)) ?_
              | refine seqI rfl ?_
              | refine regI rfl ?_
              | refine scopeI rfl ?_
              | refine blockI rfl ?_
              | refine exitI rfl ?_
              | refine retI rfl ?_
              | refine skipI rfl ?_)
            refine meetI () rfl trivial ?_
            repeat' (first | exact trivial | exact rfl | refine ⟨rfl, ?_⟩ | refine And.intro ?_ ?_)
            all_goals rw [e]
        · repeat' (first
            | with_reducible refine pN ?_
            | with_reducible refine cN ?_
            | with_reducible refine bN ?_
            | with_reducible refine cE ?_
            | with_reducible refine cR ?_
            | with_reducible refine bR ?_
            | with_reducible refine lE ?_
            | with_reducible refine lR ?_
            | with_reducible refine jE ?_
            | with_reducible refine jR ?_
            | refine bE rfl ?_
            | refine bP rfl ?_
            | refine pC (by first | exact True.intro | omega | (intros; first | exact True.intro | omega) | (simp only [List.length_cons, List.length_nil, Int.toNat_natCast]; omega)) ?_
            | refine seqI rfl ?_
            | refine regI rfl ?_
            | refine scopeI rfl ?_
            | refine blockI rfl ?_
            | refine exitI rfl ?_
            | refine retI rfl ?_
            | refine skipI rfl ?_)
          refine roundI (i + 1) rfl ?_ ?_ ?_
          · exact hin
          · show nst x - (i + 1) < nst x - i; omega
          · repeat' (first | exact trivial | exact rfl | refine ⟨rfl, ?_⟩ | refine And.intro ?_ ?_)
      · simp only [decide_eq_false_iff_not] at c2
        obtain rfl : i = nst x := by unfold nst at hi ⊢; omega
        have hxs : (mst x (nst x)).1 = mXs x := rfl
        rw [hxs] at hl hg
        repeat' (first
          | with_reducible refine pN ?_
          | with_reducible refine cN ?_
          | with_reducible refine bN ?_
          | with_reducible refine cE ?_
          | with_reducible refine cR ?_
          | with_reducible refine bR ?_
          | with_reducible refine lE ?_
          | with_reducible refine lR ?_
          | with_reducible refine jE ?_
          | with_reducible refine jR ?_
          | refine bE rfl ?_
          | refine bP rfl ?_
          | refine pC (by first | exact True.intro | omega | (intros; first | exact True.intro | omega) | (simp only [List.length_cons, List.length_nil, Int.toNat_natCast]; omega)) ?_
          | refine seqI rfl ?_
          | refine regI rfl ?_
          | refine scopeI rfl ?_
          | refine blockI rfl ?_
          | refine exitI rfl ?_
          | refine retI rfl ?_
          | refine skipI rfl ?_)
        obtain ⟨n, hnn⟩ : ∃ n, n = nst x := ⟨_, rfl⟩
        have hws : mWs x = wO x (mXs x) n n := by rw [hnn]; rfl
        rw [← hnn] at hn hl hg
        refine loopI (σ := Nat) (fun i => [(9, .int .i64 i)]) (fun i => [(3, .box [.int .i64 (mE x), .int .i64 (mA x), .int .i64 (mB x), .own 3000, .own 3100]), (3000, .seq tStage (mXs x)), (3100, .seq tWin (wO x (mXs x) n i))]) (fun i => i ≤ n) (fun i => n - i) 0 rfl (fun _ => rfl) rfl ?_ ?_ ?_
        · exact Nat.zero_le _
        · repeat' (first | exact trivial | exact rfl | refine ⟨rfl, ?_⟩ | refine And.intro ?_ ?_)
        · intro i hi
          repeat' (first
            | with_reducible refine pN ?_
            | with_reducible refine cN ?_
            | with_reducible refine bN ?_
            | with_reducible refine cE ?_
            | with_reducible refine cR ?_
            | with_reducible refine bR ?_
            | with_reducible refine lE ?_
            | with_reducible refine lR ?_
            | with_reducible refine jE ?_
            | with_reducible refine jR ?_
            | refine bE rfl ?_
            | refine bP rfl ?_
            | refine pC (by first | exact True.intro | omega | (intros; first | exact True.intro | omega) | (simp only [List.length_cons, List.length_nil, Int.toNat_natCast]; omega)) ?_
            | refine seqI rfl ?_
            | refine regI rfl ?_
            | refine scopeI rfl ?_
            | refine blockI rfl ?_
            | refine exitI rfl ?_
            | refine retI rfl ?_
            | refine skipI rfl ?_)
          refine condI rfl (fun c5 => ?_) (fun c5 => ?_)
          · simp only [decide_eq_true_eq] at c5
            have hin : i < n := by omega
            repeat' (first
              | with_reducible refine pN ?_
              | with_reducible refine cN ?_
              | with_reducible refine bN ?_
              | with_reducible refine cE ?_
              | with_reducible refine cR ?_
              | with_reducible refine bR ?_
              | with_reducible refine lE ?_
              | with_reducible refine lR ?_
              | with_reducible refine jE ?_
              | with_reducible refine jR ?_
              | refine bE rfl ?_
              | refine bP rfl ?_
              | refine pC (by first | exact True.intro | omega | (intros; first | exact True.intro | omega) | (simp only [List.length_cons, List.length_nil, Int.toNat_natCast]; omega)) ?_
              | refine seqI rfl ?_
              | refine regI rfl ?_
              | refine scopeI rfl ?_
              | refine blockI rfl ?_
              | refine exitI rfl ?_
              | refine retI rfl ?_
              | refine skipI rfl ?_)
            refine loopI (σ := Nat) (fun j => [(10, .int .i64 ((i + 1 + j : Nat) : Int))]) (fun j => [(3, .box [.int .i64 (mE x), .int .i64 (mA x), .int .i64 (mB x), .own 3000, .own 3100]), (3000, .seq tStage (mXs x)), (3100, .seq tWin (wO x (mXs x) n i ++ wK x (mXs x) i j))]) (fun j => j ≤ n - (i + 1)) (fun j => n - (i + 1) - j) 0 rfl (fun _ => rfl) rfl ?_ ?_ ?_
            · exact Nat.zero_le _
            · repeat' (first | exact trivial | exact rfl | refine ⟨rfl, ?_⟩ | refine And.intro ?_ ?_)
              exact List.append_nil _
            · intro j hj
              repeat' (first
                | with_reducible refine pN ?_
                | with_reducible refine cN ?_
                | with_reducible refine bN ?_
                | with_reducible refine cE ?_
                | with_reducible refine cR ?_
                | with_reducible refine bR ?_
                | with_reducible refine lE ?_
                | with_reducible refine lR ?_
                | with_reducible refine jE ?_
                | with_reducible refine jR ?_
                | refine bE rfl ?_
                | refine bP rfl ?_
                | refine pC (by first | exact True.intro | omega | (intros; first | exact True.intro | omega) | (simp only [List.length_cons, List.length_nil, Int.toNat_natCast]; omega)) ?_
                | refine seqI rfl ?_
                | refine regI rfl ?_
                | refine scopeI rfl ?_
                | refine blockI rfl ?_
                | refine exitI rfl ?_
                | refine retI rfl ?_
                | refine skipI rfl ?_)
              refine condI rfl (fun c6 => ?_) (fun c6 => ?_)
              · simp only [decide_eq_true_eq] at c6
                repeat' (first
                  | with_reducible refine pN ?_
                  | with_reducible refine cN ?_
                  | with_reducible refine bN ?_
                  | with_reducible refine cE ?_
                  | with_reducible refine cR ?_
                  | with_reducible refine bR ?_
                  | with_reducible refine lE ?_
                  | with_reducible refine lR ?_
                  | with_reducible refine jE ?_
                  | with_reducible refine jR ?_
                  | refine bE rfl ?_
                  | refine bP rfl ?_
                  | refine pC (by first | exact True.intro | omega | (intros; first | exact True.intro | omega) | (simp only [List.length_cons, List.length_nil, Int.toNat_natCast]; omega)) ?_
                  | refine seqI rfl ?_
                  | refine regI rfl ?_
                  | refine scopeI rfl ?_
                  | refine blockI rfl ?_
                  | refine exitI rfl ?_
                  | refine retI rfl ?_
                  | refine skipI rfl ?_)
                refine joinC (fun _ : Unit => [(11, .int .i64 (wN x i (i + 1 + j)))]) (fun _ => []) (fun _ => True) (fun _ => rfl) ?_ (fun _ _ => ?_)
                · refine condI rfl (fun c7 => ?_) (fun c7 => ?_)
                  · simp only [decide_eq_true_eq] at c7
                    repeat' (first
                      | with_reducible refine pN ?_
                      | with_reducible refine cN ?_
                      | with_reducible refine bN ?_
                      | with_reducible refine cE ?_
                      | with_reducible refine cR ?_
                      | with_reducible refine bR ?_
                      | with_reducible refine lE ?_
                      | with_reducible refine lR ?_
                      | with_reducible refine jE ?_
                      | with_reducible refine jR ?_
                      | refine bE rfl ?_
                      | refine bP rfl ?_
                      | refine pC (by first | exact True.intro | omega | (intros; first | exact True.intro | omega) | (simp only [List.length_cons, List.length_nil, Int.toNat_natCast]; omega)) ?_
                      | refine seqI rfl ?_
                      | refine regI rfl ?_
                      | refine scopeI rfl ?_
                      | refine blockI rfl ?_
                      | refine exitI rfl ?_
                      | refine retI rfl ?_
                      | refine skipI rfl ?_)
                    refine meetI () rfl trivial ?_
                    repeat' (first | exact trivial | exact rfl | refine ⟨rfl, ?_⟩ | refine And.intro ?_ ?_)
                    unfold wN; rw [if_pos c7]; rfl
                  · simp only [decide_eq_false_iff_not] at c7
                    repeat' (first
                      | with_reducible refine pN ?_
                      | with_reducible refine cN ?_
                      | with_reducible refine bN ?_
                      | with_reducible refine cE ?_
                      | with_reducible refine cR ?_
                      | with_reducible refine bR ?_
                      | with_reducible refine lE ?_
                      | with_reducible refine lR ?_
                      | with_reducible refine jE ?_
                      | with_reducible refine jR ?_
                      | refine bE rfl ?_
                      | refine bP rfl ?_
                      | refine pC (by first | exact True.intro | omega | (intros; first | exact True.intro | omega) | (simp only [List.length_cons, List.length_nil, Int.toNat_natCast]; omega)) ?_
                      | refine seqI rfl ?_
                      | refine regI rfl ?_
                      | refine scopeI rfl ?_
                      | refine blockI rfl ?_
                      | refine exitI rfl ?_
                      | refine retI rfl ?_
                      | refine skipI rfl ?_)
                    refine meetI () rfl trivial ?_
                    repeat' (first | exact trivial | exact rfl | refine ⟨rfl, ?_⟩ | refine And.intro ?_ ?_)
                    unfold wN; rw [if_neg c7]
                · repeat' (first
                    | with_reducible refine pN ?_
                    | with_reducible refine cN ?_
                    | with_reducible refine bN ?_
                    | with_reducible refine cE ?_
                    | with_reducible refine cR ?_
                    | with_reducible refine bR ?_
                    | with_reducible refine lE ?_
                    | with_reducible refine lR ?_
                    | with_reducible refine jE ?_
                    | with_reducible refine jR ?_
                    | refine bE rfl ?_
                    | refine bP rfl ?_
                    | refine pC (by first | exact True.intro | omega | (intros; first | exact True.intro | omega) | (simp only [List.length_cons, List.length_nil, Int.toNat_natCast]; omega)) ?_
                    | refine seqI rfl ?_
                    | refine regI rfl ?_
                    | refine scopeI rfl ?_
                    | refine blockI rfl ?_
                    | refine exitI rfl ?_
                    | refine retI rfl ?_
                    | refine skipI rfl ?_)
                  refine condI rfl (fun c8 => ?_) (fun c8 => ?_)
                  · simp only [decide_eq_true_eq] at c8
                    have c7 : ((i + 1 + j : Nat) : Int) < x.length := by
                      refine Decidable.byContradiction fun h => ?_
                      unfold wN at c8; rw [if_neg h] at c8; omega
                    have gi := hg i hin
                    have gk := hg (i + 1 + j) (by omega)
                    unfold SGood FGood at gi gk
                    have wl := wO_len (x := x) (xs := mXs x) (n := n) i
                    have wl2 := wK_len (x := x) (xs := mXs x) (i := i) j
                    have wl3 : i * n ≤ 25 := Nat.le_trans (Nat.mul_le_mul (show i ≤ 5 by omega) hn) (by decide)
                    repeat' (first
                      | with_reducible refine pN ?_
                      | with_reducible refine cN ?_
                      | with_reducible refine bN ?_
                      | with_reducible refine cE ?_
                      | with_reducible refine cR ?_
                      | with_reducible refine bR ?_
                      | with_reducible refine lE ?_
                      | with_reducible refine lR ?_
                      | with_reducible refine jE ?_
                      | with_reducible refine jR ?_
                      | refine bE rfl ?_
                      | refine bP rfl ?_
                      | refine pC (by first | exact True.intro | omega | (intros; first | exact True.intro | omega) | (simp only [List.length_cons, List.length_nil, Int.toNat_natCast]; omega)) ?_
                      | refine seqI rfl ?_
                      | refine regI rfl ?_
                      | refine scopeI rfl ?_
                      | refine blockI rfl ?_
                      | refine exitI rfl ?_
                      | refine retI rfl ?_
                      | refine skipI rfl ?_)
                    refine joinC (fun _ : Unit => []) (fun _ => [(12, .box [.int .i64 i, .int .i64 ((i + 1 + j : Nat) : Int), .int .i64 (wL x (mXs x) i (i + 1 + j))])]) (fun _ => True) (fun _ => rfl) ?_ (fun _ _ => ?_)
                    · refine condI rfl (fun c9 => ?_) (fun c9 => ?_)
                      · simp only [decide_eq_true_eq] at c9
                        repeat' (first
                          | with_reducible refine pN ?_
                          | with_reducible refine cN ?_
                          | with_reducible refine bN ?_
                          | with_reducible refine cE ?_
                          | with_reducible refine cR ?_
                          | with_reducible refine bR ?_
                          | with_reducible refine lE ?_
                          | with_reducible refine lR ?_
                          | with_reducible refine jE ?_
                          | with_reducible refine jR ?_
                          | refine bE rfl ?_
                          | refine bP rfl ?_
                          | refine pC (by first | exact True.intro | omega | (intros; first | exact True.intro | omega) | (simp only [List.length_cons, List.length_nil, Int.toNat_natCast]; omega) | (simp only [pick_mod, Int.toNat_natCast]; omega)) ?_
                          | refine seqI rfl ?_
                          | refine regI rfl ?_
                          | refine scopeI rfl ?_
                          | refine blockI rfl ?_
                          | refine exitI rfl ?_
                          | refine retI rfl ?_
                          | refine skipI rfl ?_)
                        refine meetI () rfl trivial ?_
                        repeat' (first | exact trivial | exact rfl | refine ⟨rfl, ?_⟩ | refine And.intro ?_ ?_)
                        unfold wL; rw [if_pos c9]; rfl
                      · simp only [decide_eq_false_iff_not] at c9
                        repeat' (first
                          | with_reducible refine pN ?_
                          | with_reducible refine cN ?_
                          | with_reducible refine bN ?_
                          | with_reducible refine cE ?_
                          | with_reducible refine cR ?_
                          | with_reducible refine bR ?_
                          | with_reducible refine lE ?_
                          | with_reducible refine lR ?_
                          | with_reducible refine jE ?_
                          | with_reducible refine jR ?_
                          | refine bE rfl ?_
                          | refine bP rfl ?_
                          | refine pC (by first | exact True.intro | omega | (intros; first | exact True.intro | omega) | (simp only [List.length_cons, List.length_nil, Int.toNat_natCast]; omega)) ?_
                          | refine seqI rfl ?_
                          | refine regI rfl ?_
                          | refine scopeI rfl ?_
                          | refine blockI rfl ?_
                          | refine exitI rfl ?_
                          | refine retI rfl ?_
                          | refine skipI rfl ?_)
                        refine meetI () rfl trivial ?_
                        repeat' (first | exact trivial | exact rfl | refine ⟨rfl, ?_⟩ | refine And.intro ?_ ?_)
                        unfold wL; rw [if_neg c9]; rfl
                    · repeat' (first
                        | with_reducible refine pN ?_
                        | with_reducible refine cN ?_
                        | with_reducible refine bN ?_
                        | with_reducible refine cE ?_
                        | with_reducible refine cR ?_
                        | with_reducible refine bR ?_
                        | with_reducible refine lE ?_
                        | with_reducible refine lR ?_
                        | with_reducible refine jE ?_
                        | with_reducible refine jR ?_
                        | refine bE rfl ?_
                        | refine bP rfl ?_
                        | refine pC (by first | exact True.intro | omega | (intros; first | exact True.intro | omega) | (simp only [List.length_cons, List.length_nil, Int.toNat_natCast]; omega) | (simp only [List.length_append, List.length_cons, List.length_nil]; omega)) ?_
                        | refine seqI rfl ?_
                        | refine regI rfl ?_
                        | refine scopeI rfl ?_
                        | refine blockI rfl ?_
                        | refine exitI rfl ?_
                        | refine retI rfl ?_
                        | refine skipI rfl ?_)
                      refine roundI (j + 1) rfl ?_ ?_ ?_
                      · omega
                      · show n - (i + 1) - (j + 1) < n - (i + 1) - j; omega
                      · repeat' (first | exact trivial | exact rfl | refine ⟨rfl, ?_⟩ | refine And.intro ?_ ?_)
                        show _ ++ (_ ++ wAt _ _ _ _) = _
                        unfold wAt
                        rw [if_pos c8, List.append_assoc]
                  · simp only [decide_eq_false_iff_not] at c8
                    repeat' (first
                      | with_reducible refine pN ?_
                      | with_reducible refine cN ?_
                      | with_reducible refine bN ?_
                      | with_reducible refine cE ?_
                      | with_reducible refine cR ?_
                      | with_reducible refine bR ?_
                      | with_reducible refine lE ?_
                      | with_reducible refine lR ?_
                      | with_reducible refine jE ?_
                      | with_reducible refine jR ?_
                      | refine bE rfl ?_
                      | refine bP rfl ?_
                      | refine pC (by first | exact True.intro | omega | (intros; first | exact True.intro | omega) | (simp only [List.length_cons, List.length_nil, Int.toNat_natCast]; omega)) ?_
                      | refine seqI rfl ?_
                      | refine regI rfl ?_
                      | refine scopeI rfl ?_
                      | refine blockI rfl ?_
                      | refine exitI rfl ?_
                      | refine retI rfl ?_
                      | refine skipI rfl ?_)
                    refine roundI (j + 1) rfl ?_ ?_ ?_
                    · omega
                    · show n - (i + 1) - (j + 1) < n - (i + 1) - j; omega
                    · repeat' (first | exact trivial | exact rfl | refine ⟨rfl, ?_⟩ | refine And.intro ?_ ?_)
                      show _ ++ (_ ++ wAt _ _ _ _) = _
                      unfold wAt
                      rw [if_neg c8, List.append_nil]
              · simp only [decide_eq_false_iff_not] at c6
                obtain rfl : j = n - (i + 1) := by omega
                repeat' (first
                  | with_reducible refine pN ?_
                  | with_reducible refine cN ?_
                  | with_reducible refine bN ?_
                  | with_reducible refine cE ?_
                  | with_reducible refine cR ?_
                  | with_reducible refine bR ?_
                  | with_reducible refine lE ?_
                  | with_reducible refine lR ?_
                  | with_reducible refine jE ?_
                  | with_reducible refine jR ?_
                  | refine bE rfl ?_
                  | refine bP rfl ?_
                  | refine pC (by first | exact True.intro | omega | (intros; first | exact True.intro | omega) | (simp only [List.length_cons, List.length_nil, Int.toNat_natCast]; omega)) ?_
                  | refine seqI rfl ?_
                  | refine regI rfl ?_
                  | refine scopeI rfl ?_
                  | refine blockI rfl ?_
                  | refine exitI rfl ?_
                  | refine retI rfl ?_
                  | refine skipI rfl ?_)
                refine roundI (i + 1) rfl ?_ ?_ ?_
                · exact hin
                · show n - (i + 1) < n - i; omega
                · repeat' (first | exact trivial | exact rfl | refine ⟨rfl, ?_⟩ | refine And.intro ?_ ?_)
          · simp only [decide_eq_false_iff_not] at c5
            obtain rfl : i = n := by omega
            repeat' (first
              | with_reducible refine pN ?_
              | with_reducible refine cN ?_
              | with_reducible refine bN ?_
              | with_reducible refine cE ?_
              | with_reducible refine cR ?_
              | with_reducible refine bR ?_
              | with_reducible refine lE ?_
              | with_reducible refine lR ?_
              | with_reducible refine jE ?_
              | with_reducible refine jR ?_
              | refine bE rfl ?_
              | refine bP rfl ?_
              | refine pC (by first | exact True.intro | omega | (intros; first | exact True.intro | omega) | (simp only [List.length_cons, List.length_nil, Int.toNat_natCast]; omega)) ?_
              | refine seqI rfl ?_
              | refine regI rfl ?_
              | refine scopeI rfl ?_
              | refine blockI rfl ?_
              | refine exitI rfl ?_
              | refine retI rfl ?_
              | refine skipI rfl ?_)
            refine endR rfl ?_
            repeat' (first | exact trivial | exact rfl | refine ⟨rfl, ?_⟩ | refine And.intro ?_ ?_)
            exact hws
end Go.AM.Ytkacoophnfljcaa.Pl
