/- WkMadeV, WkChosen, WkRun, DiT, DiW, DiS, DiV, DiLPl in one text. -/
import Derived.Test.YtkacoophnfljcaaWkMade
import Derived.Test.YtkacoophnfljcaaDiD
import Derived.Test.YtkacoophnfljcaaCaU
import Derived.Test.YtkacoophnfljcaaCaLFi
import Derived.Test.YtkacoophnfljcaaDiE
import Derived.Test.YtkacoophnfljcaaPlG

section
set_option linter.all false
namespace Go.AM.Ytkacoophnfljcaa.Pl
open Go.Proofs

/-- The windows are valid, behind l, among n stages. -/
def okW (n : Nat) : WiT → List WiT → Bool
  | _, [] => true
  | l, w :: r => winF n l w && okW n w r

theorem okW_any {n : Nat} : ∀ {ws : List WiT} {l : WiT}, (!(duo l ws).any (badW n)) = okW n l ws
  | [], _ => rfl
  | w :: r, l => by
    have := okW_any (n := n) (ws := r) (l := w)
    simp only [duo, okW, List.any_cons, Bool.not_or, badW, Bool.not_not] at this ⊢
    rw [← this]

def lastW (l : WiT) : List WiT → WiT
  | [] => l
  | w :: r => lastW w r

theorem okW_append {n : Nat} : ∀ {a b : List WiT} {l : WiT}, okW n l (a ++ b) = (okW n l a && okW n (lastW l a) b)
  | [], b, l => by simp [okW, lastW]
  | w :: r, b, l => by simp [okW, lastW, okW_append (a := r), Bool.and_assoc]
theorem lastW_append : ∀ {a b : List WiT} {l : WiT}, lastW l (a ++ b) = lastW (lastW l a) b
  | [], b, l => rfl
  | w :: r, b, l => by simp [lastW, lastW_append (a := r)]

/-- l comes before (i, k). -/
def Lex2 (l0 l1 i k : Int) : Prop := l0 < i ∨ (l0 = i ∧ l1 < k)

def winI (n : Nat) (l0 l1 a b c : Int) : Bool := (decide (l0 < a) || (decide (l0 = a) && decide (l1 < b))) && decide (0 ≤ a) && decide (a < b) && decide (b < (n : Int)) && withinF c 0 1000000
theorem winF_I {n : Nat} {l w : WiT} : winF n l w = winI n l.1 l.2.1 w.1 w.2.1 w.2.2 := rfl

theorem wL_b {x : List Six} {n i k : Nat} (hg : ∀ j, j < n → SGood (getI (mXs x) tStage.dflt j) 600) (hi : i < n) (hk : k < n) : wL x (mXs x) i k ≤ 1000000 := by
  have g1 := hg i hi
  have g2 := hg k hk
  unfold SGood FGood at g1 g2
  unfold wL
  have h1 := @pick_b (six x k).2.2.2.2.2 3 (by decide)
  have h2 := @pick_b (six x k).2.2.2.2.2 150 (by decide)
  split <;> omega

theorem wK_ok {x : List Six} {n i : Nat} (hg : ∀ j, j < n → SGood (getI (mXs x) tStage.dflt j) 600) (hi : i < n) (l : WiT) (hl : Lex2 l.1 l.2.1 i (i + 1)) : ∀ j : Nat, j ≤ n - (i + 1) →
    okW n l (wK x (mXs x) i j) = true ∧ Lex2 (lastW l (wK x (mXs x) i j)).1 (lastW l (wK x (mXs x) i j)).2.1 i ((i + 1 + j : Nat) : Int)
  | 0, _ => ⟨rfl, by simpa [wK, lastW] using hl⟩
  | j + 1, hj => by
    obtain ⟨h1, h2⟩ := wK_ok hg hi l hl j (by omega)
    have hw := wL_b (k := i + 1 + j) hg hi (by omega)
    simp only [wK, okW_append, lastW_append, h1, Bool.true_and]
    generalize lastW l (wK x (mXs x) i j) = m at h2 ⊢
    unfold wAt
    split
    · simp only [okW, lastW, winF_I, winI, withinF, Bool.and_true, Bool.and_eq_true, Bool.or_eq_true, decide_eq_true_eq]
      unfold Lex2 at h2 ⊢
      refine ⟨⟨⟨⟨⟨?_, ?_⟩, ?_⟩, ?_⟩, ?_⟩, ?_⟩ <;> omega
    · refine ⟨rfl, ?_⟩
      unfold Lex2 at h2 ⊢
      simp only [lastW]
      omega

theorem wO_ok {x : List Six} {n : Nat} (hg : ∀ j, j < n → SGood (getI (mXs x) tStage.dflt j) 600) : ∀ i : Nat, i ≤ n →
    okW n (-1, 0, 0) (wO x (mXs x) n i) = true ∧ Lex2 (lastW (-1, 0, 0) (wO x (mXs x) n i)).1 (lastW (-1, 0, 0) (wO x (mXs x) n i)).2.1 i (i + 1)
  | 0, _ => ⟨rfl, .inl (by show (-1 : Int) < 0; decide)⟩
  | i + 1, hi => by
    obtain ⟨h1, h2⟩ := wO_ok hg i (by omega)
    obtain ⟨h3, h4⟩ := wK_ok hg (i := i) (by omega) _ h2 (n - (i + 1)) (Nat.le_refl _)
    simp only [wO, okW_append, lastW_append, h1, h3, Bool.true_and, true_and]
    generalize lastW (lastW (-1, 0, 0) (wO x (mXs x) n i)) (wK x (mXs x) i (n - (i + 1))) = m at h4 ⊢
    unfold Lex2 at h4 ⊢
    omega

theorem nst_b (x : List Six) : 1 ≤ nst x ∧ nst x ≤ 5 := by unfold nst; omega
theorem mXs_b (x : List Six) : (mXs x).length = nst x ∧ ∀ j, j < nst x → SGood (getI (mXs x) tStage.dflt j) 600 := by
  obtain ⟨h1, _, _, h2⟩ := mst_b x (nst x) (nst_b x).2
  exact ⟨h1, h2⟩

theorem made_valid (x : List Six) : validF (mE x) (mA x) (mB x) (mXs x) (mWs x) = true := by
  obtain ⟨h1, h2⟩ := mXs_b x
  have hn := nst_b x
  have hE := mE_b x
  have hA := mA_b x
  have hB := mB_b x
  have hw := (wO_ok h2 (nst x) (Nat.le_refl _)).1
  have hwl := wO_len (x := x) (xs := mXs x) (n := nst x) (nst x)
  have hlen : (mWs x).length ≤ 20 := by
    have key : ∀ i, i ≤ nst x → (wO x (mXs x) (nst x) i).length ≤ i * nst x - i := by
      intro i
      induction i with
      | zero => intro _; simp [wO]
      | succ i ih =>
        intro hi
        have a := ih (by omega)
        have b := wK_len (x := x) (xs := mXs x) (i := i) (nst x - (i + 1))
        simp only [wO, List.length_append, Nat.succ_mul]
        have c : i ≤ i * nst x := Nat.le_mul_of_pos_right _ (by omega)
        omega
    have a := key (nst x) (Nat.le_refl _)
    have b : nst x = 1 ∨ nst x = 2 ∨ nst x = 3 ∨ nst x = 4 ∨ nst x = 5 := by omega
    show (wO x (mXs x) (nst x) (nst x)).length ≤ 20
    rcases b with b | b | b | b | b <;> rw [b] at a ⊢ <;> omega
  unfold validF
  rw [okW_any]
  have e1 : okW (mXs x).length (-1, 0, 0) (mWs x) = true := by rw [h1]; exact hw
  rw [e1]
  have e2 : (mXs x).any badSt = false := by
    rw [List.any_eq_false]
    intro s hs
    obtain ⟨j, hj, rfl⟩ := List.getElem_of_mem hs
    have g := h2 j (by omega)
    have e : getI (mXs x) tStage.dflt j = (mXs x)[j] := by simp [getI, List.getD, List.getElem?_eq_getElem hj]
    rw [e] at g
    unfold SGood FGood at g
    simp only [badSt, isStageF, isSlotF, withinF, Bool.not_eq_true', Bool.not_eq_false, Bool.and_eq_true, decide_eq_true_eq]
    refine ⟨⟨⟨⟨⟨?_, ?_⟩, ?_⟩, ⟨?_, ?_⟩, ?_, ?_⟩, ⟨?_, ?_⟩, ?_, ?_⟩, ?_⟩ <;> omega
  rw [e2]
  simp only [withinF, Bool.not_false, Bool.and_true, Bool.and_eq_true, decide_eq_true_eq]
  rw [h1]
  refine ⟨⟨⟨⟨⟨?_, ?_⟩, ?_, ?_⟩, ?_⟩, ?_, ?_⟩, ?_⟩ <;> omega
end Go.AM.Ytkacoophnfljcaa.Pl
end

section
set_option linter.all false
namespace Go.AM.Ytkacoophnfljcaa.Pl
open Go.Proofs
set_option maxRecDepth 100000
set_option maxHeartbeats 8000000

abbrev Two := Int × Int
def two (y : List Two) (i : Nat) : Two := if (i : Int) < y.length then getI y tTwo.dflt i else (0, 0)
def stg (xs : List StT) (i : Nat) : StT := getI xs tStage.dflt i
def cDe (a b : Int) (y : List Two) : Int := if 0 < (y.length : Int) then a + pickF ((getI y tTwo.dflt 0).1.tdiv 7) (b - a + 1) else a
def cDu (xs : List StT) (y : List Two) : Nat → List Int
  | 0 => []
  | i + 1 => cDu xs y i ++ [(stg xs i).1 + pickF (two y i).1 ((stg xs i).2.1 - (stg xs i).1 + 1)]
def cMo (a b : Int) (y : List Two) : Nat → List Int
  | 0 => []
  | i + 1 => cMo a b y i ++ [a + pickF (two y i).2 (b - a + 1)]
def cIx (xs : List StT) (tool : Int) : Int := pickF (tool.tdiv 4) xs.length
def cTl (xs : List StT) (tool : Int) : Int := if 0 < pickF tool 4 then (stg xs (cIx xs tool).toNat).2.2.1.1 else -1
def cFa (xs : List StT) (tool at' : Int) : Int :=
  if 0 < pickF tool 4 then (if 0 < pickF at' 3 then max 0 ((stg xs (cIx xs tool).toNat).2.2.1.2 - 20 + pickF (at'.tdiv 3) 50) else pickF at' ((stg xs ((xs.length : Int) - 1).toNat).2.2.2.2 + 50)) else 0

def chosenS : Spec := plain fun
  | [.agg [.int .i64 e, .int .i64 a, .int .i64 b, .sl (.pair (.int .i64) (.pair (.int .i64) (.pair (.pair (.int .i64) (.int .i64)) (.pair (.int .i64) (.int .i64))))) xs, .sl (.pair (.int .i64) (.pair (.int .i64) (.int .i64))) ws], .sl (.pair (.int .i64) (.int .i64)) y, .int .i64 tool, .int .i64 at'] =>
    some ⟨validF e a b xs ws = true, .agg [.own 0, .own 1, .int .i64 (cDe a b y), .int .i64 (cTl xs tool), .int .i64 (cFa xs tool at')], [.seq tInt (cDu xs y xs.length), .seq tInt (cMo a b y xs.length)], false⟩
  | _ => none

theorem cDu_len {xs : List StT} {y : List Two} : ∀ i : Nat, (cDu xs y i).length = i
  | 0 => rfl
  | i + 1 => by simp [cDu, cDu_len i]
theorem cMo_len {a b : Int} {y : List Two} : ∀ i : Nat, (cMo a b y i).length = i
  | 0 => rfl
  | i + 1 => by simp [cMo, cMo_len i]

theorem chosenOk : SpecSound Try.prog 39 chosenS := by
  refine soundP (envOf sigPickOk) Try.func39 (c := body Try.f39) rfl (by kernel_rfl) rfl ?_
  intro args out hf hpre
  split at hf <;> try (cases hf; done)
  rename_i e a b xs ws y tool at'
  cases hf
  refine ⟨Nat.le_of_ble_eq_true rfl, initI (args := [.agg [.int .i64 e, .int .i64 a, .int .i64 b, .sl tStage xs, .sl tWin ws], .sl tTwo y, .int .i64 tool, .int .i64 at']) rfl ?_⟩
  have F := valid_facts (show validF e a b xs ws = true from hpre)
  have hn := F.n
  have hab := F.ab
  repeat' (first
    | with_reducible refine pN ?_
    | with_reducible refine cN ?_
    | with_reducible refine bN ?_
    | with_reducible refine cE ?_
    | with_reducible refine cR ?_
    | with_reducible refine bR ?_
    | with_reducible refine lE ?_
    | with_reducible refine lR ?_
    | with_reducible refine jE ?_
    | with_reducible refine jR ?_
    | refine bE rfl ?_
    | refine bP rfl ?_
    | refine pC (by first | exact True.intro | omega | (intros; first | exact True.intro | omega) | (simp only [List.length_cons, List.length_nil, Int.toNat_natCast]; omega)) ?_
    | refine seqI rfl ?_
    | refine regI rfl ?_
    | refine scopeI rfl ?_
    | refine blockI rfl ?_
    | refine exitI rfl ?_
    | refine retI rfl ?_
    | refine skipI rfl ?_)
  refine joinC (fun _ : Unit => []) (fun _ => [(9, .box [.nilsl, .nilsl, .int .i64 (cDe a b y), .int .i64 (-1), .int .i64 0])]) (fun _ => True) (fun _ => rfl) ?_ (fun _ _ => ?_)
  · have hp := fun c => @pick_b c (b - a + 1) (by omega)
    refine condI rfl (fun c1 => ?_) (fun c1 => ?_)
    · simp only [decide_eq_true_eq] at c1
      have := hp ((getI y tTwo.dflt 0).1.tdiv 7)
      repeat' (first
        | with_reducible refine pN ?_
        | with_reducible refine cN ?_
        | with_reducible refine bN ?_
        | with_reducible refine cE ?_
        | with_reducible refine cR ?_
        | with_reducible refine bR ?_
        | with_reducible refine lE ?_
        | with_reducible refine lR ?_
        | with_reducible refine jE ?_
        | with_reducible refine jR ?_
        | refine bE rfl ?_
        | refine bP rfl ?_
        | refine pC (by first | exact True.intro | omega | (intros; first | exact True.intro | omega) | (simp only [List.length_cons, List.length_nil, Int.toNat_natCast]; omega) | (simp only [Int.toNat_zero]; omega)) ?_
        | refine seqI rfl ?_
        | refine regI rfl ?_
        | refine scopeI rfl ?_
        | refine blockI rfl ?_
        | refine exitI rfl ?_
        | refine retI rfl ?_
        | refine skipI rfl ?_)
      refine meetI () rfl trivial ?_
      repeat' (first | exact trivial | exact rfl | refine ⟨rfl, ?_⟩ | refine And.intro ?_ ?_)
      unfold cDe; rw [if_pos c1]; rfl
    · simp only [decide_eq_false_iff_not] at c1
      repeat' (first
        | with_reducible refine pN ?_
        | with_reducible refine cN ?_
        | with_reducible refine bN ?_
        | with_reducible refine cE ?_
        | with_reducible refine cR ?_
        | with_reducible refine bR ?_
        | with_reducible refine lE ?_
        | with_reducible refine lR ?_
        | with_reducible refine jE ?_
        | with_reducible refine jR ?_
        | refine bE rfl ?_
        | refine bP rfl ?_
        | refine pC (by first | exact True.intro | omega | (intros; first | exact True.intro | omega) | (simp only [List.length_cons, List.length_nil, Int.toNat_natCast]; omega)) ?_
        | refine seqI rfl ?_
        | refine regI rfl ?_
        | refine scopeI rfl ?_
        | refine blockI rfl ?_
        | refine exitI rfl ?_
        | refine retI rfl ?_
        | refine skipI rfl ?_)
      refine meetI () rfl trivial ?_
      repeat' (first | exact trivial | exact rfl | refine ⟨rfl, ?_⟩ | refine And.intro ?_ ?_)
      unfold cDe; rw [if_neg c1]
  · repeat' (first
      | with_reducible refine pN ?_
      | with_reducible refine cN ?_
      | with_reducible refine bN ?_
      | with_reducible refine cE ?_
      | with_reducible refine cR ?_
      | with_reducible refine bR ?_
      | with_reducible refine lE ?_
      | with_reducible refine lR ?_
      | with_reducible refine jE ?_
      | with_reducible refine jR ?_
      | refine bE rfl ?_
      | refine bP rfl ?_
      | refine pC (by first | exact True.intro | omega | (intros; first | exact True.intro | omega) | (simp only [List.length_cons, List.length_nil, Int.toNat_natCast]; omega)) ?_
      | refine seqI rfl ?_
      | refine regI rfl ?_
      | refine scopeI rfl ?_
      | refine blockI rfl ?_
      | refine exitI rfl ?_
      | refine retI rfl ?_
      | refine skipI rfl ?_)
    refine loopI (σ := Nat) (fun i => [(10, .int .i64 i)]) (fun i => [(9, .box [.own 3000, .own 3100, .int .i64 (cDe a b y), .int .i64 (-1), .int .i64 0]), (3000, .seq tInt (cDu xs y i)), (3100, .seq tInt (cMo a b y i))]) (fun i => i ≤ xs.length) (fun i => xs.length - i) 0 rfl (fun _ => rfl) rfl ?_ ?_ ?_
    · exact Nat.zero_le _
    · repeat' (first | exact trivial | exact rfl | refine ⟨rfl, ?_⟩ | refine And.intro ?_ ?_)
    · intro i hi
      have hdl := cDu_len (xs := xs) (y := y) i
      have hml := cMo_len (a := a) (b := b) (y := y) i
      repeat' (first
        | with_reducible refine pN ?_
        | with_reducible refine cN ?_
        | with_reducible refine bN ?_
        | with_reducible refine cE ?_
        | with_reducible refine cR ?_
        | with_reducible refine bR ?_
        | with_reducible refine lE ?_
        | with_reducible refine lR ?_
        | with_reducible refine jE ?_
        | with_reducible refine jR ?_
        | refine bE rfl ?_
        | refine bP rfl ?_
        | refine pC (by first | exact True.intro | omega | (intros; first | exact True.intro | omega) | (simp only [List.length_cons, List.length_nil, Int.toNat_natCast]; omega)) ?_
        | refine seqI rfl ?_
        | refine regI rfl ?_
        | refine scopeI rfl ?_
        | refine blockI rfl ?_
        | refine exitI rfl ?_
        | refine retI rfl ?_
        | refine skipI rfl ?_)
      refine condI rfl (fun c2 => ?_) (fun c2 => ?_)
      · simp only [decide_eq_true_eq] at c2
        have hs := F.st i (by omega)
        unfold StOk at hs
        repeat' (first
          | with_reducible refine pN ?_
          | with_reducible refine cN ?_
          | with_reducible refine bN ?_
          | with_reducible refine cE ?_
          | with_reducible refine cR ?_
          | with_reducible refine bR ?_
          | with_reducible refine lE ?_
          | with_reducible refine lR ?_
          | with_reducible refine jE ?_
          | with_reducible refine jR ?_
          | refine bE rfl ?_
          | refine bP rfl ?_
          | refine pC (by first | exact True.intro | omega | (intros; first | exact True.intro | omega) | (simp only [List.length_cons, List.length_nil, Int.toNat_natCast]; omega)) ?_
          | refine seqI rfl ?_
          | refine regI rfl ?_
          | refine scopeI rfl ?_
          | refine blockI rfl ?_
          | refine exitI rfl ?_
          | refine retI rfl ?_
          | refine skipI rfl ?_)
        refine joinC (fun _ : Unit => []) (fun _ => [(11, .box [.int .i64 (two y i).1, .int .i64 (two y i).2])]) (fun _ => True) (fun _ => rfl) ?_ (fun _ _ => ?_)
        · refine condI rfl (fun c3 => ?_) (fun c3 => ?_)
          · simp only [decide_eq_true_eq] at c3
            repeat' (first
              | with_reducible refine pN ?_
              | with_reducible refine cN ?_
              | with_reducible refine bN ?_
              | with_reducible refine cE ?_
              | with_reducible refine cR ?_
              | with_reducible refine bR ?_
              | with_reducible refine lE ?_
              | with_reducible refine lR ?_
              | with_reducible refine jE ?_
              | with_reducible refine jR ?_
              | refine bE rfl ?_
              | refine bP rfl ?_
              | refine pC (by first | exact True.intro | omega | (intros; first | exact True.intro | omega) | (simp only [List.length_cons, List.length_nil, Int.toNat_natCast]; omega)) ?_
              | refine seqI rfl ?_
              | refine regI rfl ?_
              | refine scopeI rfl ?_
              | refine blockI rfl ?_
              | refine exitI rfl ?_
              | refine retI rfl ?_
              | refine skipI rfl ?_)
            refine meetI () rfl trivial ?_
            repeat' (first | exact trivial | exact rfl | refine ⟨rfl, ?_⟩ | refine And.intro ?_ ?_)
            all_goals (unfold two; rw [if_pos c3]; rfl)
          · simp only [decide_eq_false_iff_not] at c3
            repeat' (first
              | with_reducible refine pN ?_
              | with_reducible refine cN ?_
              | with_reducible refine bN ?_
              | with_reducible refine cE ?_
              | with_reducible refine cR ?_
              | with_reducible refine bR ?_
              | with_reducible refine lE ?_
              | with_reducible refine lR ?_
              | with_reducible refine jE ?_
              | with_reducible refine jR ?_
              | refine bE rfl ?_
              | refine bP rfl ?_
              | refine pC (by first | exact True.intro | omega | (intros; first | exact True.intro | omega) | (simp only [List.length_cons, List.length_nil, Int.toNat_natCast]; omega)) ?_
              | refine seqI rfl ?_
              | refine regI rfl ?_
              | refine scopeI rfl ?_
              | refine blockI rfl ?_
              | refine exitI rfl ?_
              | refine retI rfl ?_
              | refine skipI rfl ?_)
            refine meetI () rfl trivial ?_
            repeat' (first | exact trivial | exact rfl | refine ⟨rfl, ?_⟩ | refine And.intro ?_ ?_)
            all_goals (unfold two; rw [if_neg c3])
        · have p1 := @pick_b (two y i).1 ((stg xs i).2.1 - (stg xs i).1 + 1) (by unfold stg; omega)
          have p2 := @pick_b (two y i).2 (b - a + 1) (by omega)
          unfold stg at p1
          repeat' (first
            | with_reducible refine pN ?_
            | with_reducible refine cN ?_
            | with_reducible refine bN ?_
            | with_reducible refine cE ?_
            | with_reducible refine cR ?_
            | with_reducible refine bR ?_
            | with_reducible refine lE ?_
            | with_reducible refine lR ?_
            | with_reducible refine jE ?_
            | with_reducible refine jR ?_
            | refine bE rfl ?_
            | refine bP rfl ?_
            | refine pC (by first | exact True.intro | omega | (intros; first | exact True.intro | omega) | (simp only [List.length_cons, List.length_nil, Int.toNat_natCast]; omega) | (simp only [Int.toNat_natCast, List.length_cons, List.length_nil]; omega)) ?_
            | refine seqI rfl ?_
            | refine regI rfl ?_
            | refine scopeI rfl ?_
            | refine blockI rfl ?_
            | refine exitI rfl ?_
            | refine retI rfl ?_
            | refine skipI rfl ?_)
          refine roundI (i + 1) rfl ?_ ?_ ?_
          · omega
          · show xs.length - (i + 1) < xs.length - i; omega
          · repeat' (first | exact trivial | exact rfl | refine ⟨rfl, ?_⟩ | refine And.intro ?_ ?_)
      · simp only [decide_eq_false_iff_not] at c2
        obtain rfl : i = xs.length := by omega
        repeat' (first
          | with_reducible refine pN ?_
          | with_reducible refine cN ?_
          | with_reducible refine bN ?_
          | with_reducible refine cE ?_
          | with_reducible refine cR ?_
          | with_reducible refine bR ?_
          | with_reducible refine lE ?_
          | with_reducible refine lR ?_
          | with_reducible refine jE ?_
          | with_reducible refine jR ?_
          | refine bE rfl ?_
          | refine bP rfl ?_
          | refine pC (by first | exact True.intro | omega | (intros; first | exact True.intro | omega) | (simp only [List.length_cons, List.length_nil, Int.toNat_natCast]; omega)) ?_
          | refine seqI rfl ?_
          | refine regI rfl ?_
          | refine scopeI rfl ?_
          | refine blockI rfl ?_
          | refine exitI rfl ?_
          | refine retI rfl ?_
          | refine skipI rfl ?_)
        have hix := @pick_b (tool.tdiv 4) (xs.length : Int) (by omega)
        have hsl := F.st (xs.length - 1) (by omega)
        have hsi := F.st (pickF (tool.tdiv 4) xs.length).toNat (by omega)
        have e1 : ((xs.length : Int) - 1).toNat = xs.length - 1 := by omega
        unfold StOk at hsl hsi
        refine condI rfl (fun c4 => ?_) (fun c4 => ?_)
        · simp only [decide_eq_true_eq] at c4
          have p3 := @pick_b at' ((getI xs tStage.dflt (xs.length - 1)).2.2.2.2 + 50) (by omega)
          repeat' (first
            | with_reducible refine pN ?_
            | with_reducible refine cN ?_
            | with_reducible refine bN ?_
            | with_reducible refine cE ?_
            | with_reducible refine cR ?_
            | with_reducible refine bR ?_
            | with_reducible refine lE ?_
            | with_reducible refine lR ?_
            | with_reducible refine jE ?_
            | with_reducible refine jR ?_
            | refine bE rfl ?_
            | refine bP rfl ?_
            | refine pC (by first | exact True.intro | omega | (intros; first | exact True.intro | omega) | (simp only [List.length_cons, List.length_nil, Int.toNat_natCast]; omega) | (simp only [e1]; omega)) ?_
            | refine seqI rfl ?_
            | refine regI rfl ?_
            | refine scopeI rfl ?_
            | refine blockI rfl ?_
            | refine exitI rfl ?_
            | refine retI rfl ?_
            | refine skipI rfl ?_)
          refine condI rfl (fun c5 => ?_) (fun c5 => ?_)
          · simp only [decide_eq_true_eq] at c5
            have p4 := @pick_b (at'.tdiv 3) 50 (by decide)
            repeat' (first
              | with_reducible refine pN ?_
              | with_reducible refine cN ?_
              | with_reducible refine bN ?_
              | with_reducible refine cE ?_
              | with_reducible refine cR ?_
              | with_reducible refine bR ?_
              | with_reducible refine lE ?_
              | with_reducible refine lR ?_
              | with_reducible refine jE ?_
              | with_reducible refine jR ?_
              | refine bE rfl ?_
              | refine bP rfl ?_
              | refine pC (by first | exact True.intro | omega | (intros; first | exact True.intro | omega) | (simp only [List.length_cons, List.length_nil, Int.toNat_natCast]; omega)) ?_
              | refine seqI rfl ?_
              | refine regI rfl ?_
              | refine scopeI rfl ?_
              | refine blockI rfl ?_
              | refine exitI rfl ?_
              | refine retI rfl ?_
              | refine skipI rfl ?_)
            refine endR rfl ?_
            repeat' (first | exact trivial | exact rfl | refine ⟨rfl, ?_⟩ | refine And.intro ?_ ?_)
            · unfold cTl; rw [if_pos c4]; rfl
            · unfold cFa; rw [if_pos c4, if_pos c5]; rfl
          · simp only [decide_eq_false_iff_not] at c5
            repeat' (first
              | with_reducible refine pN ?_
              | with_reducible refine cN ?_
              | with_reducible refine bN ?_
              | with_reducible refine cE ?_
              | with_reducible refine cR ?_
              | with_reducible refine bR ?_
              | with_reducible refine lE ?_
              | with_reducible refine lR ?_
              | with_reducible refine jE ?_
              | with_reducible refine jR ?_
              | refine bE rfl ?_
              | refine bP rfl ?_
              | refine pC (by first | exact True.intro | omega | (intros; first | exact True.intro | omega) | (simp only [List.length_cons, List.length_nil, Int.toNat_natCast]; omega)) ?_
              | refine seqI rfl ?_
              | refine regI rfl ?_
              | refine scopeI rfl ?_
              | refine blockI rfl ?_
              | refine exitI rfl ?_
              | refine retI rfl ?_
              | refine skipI rfl ?_)
            refine endR rfl ?_
            repeat' (first | exact trivial | exact rfl | refine ⟨rfl, ?_⟩ | refine And.intro ?_ ?_)
            · unfold cTl; rw [if_pos c4]; rfl
            · unfold cFa; rw [if_pos c4, if_neg c5]; rfl
        · simp only [decide_eq_false_iff_not] at c4
          repeat' (first
            | with_reducible refine pN ?_
            | with_reducible refine cN ?_
            | with_reducible refine bN ?_
            | with_reducible refine cE ?_
            | with_reducible refine cR ?_
            | with_reducible refine bR ?_
            | with_reducible refine lE ?_
            | with_reducible refine lR ?_
            | with_reducible refine jE ?_
            | with_reducible refine jR ?_
            | refine bE rfl ?_
            | refine bP rfl ?_
            | refine pC (by first | exact True.intro | omega | (intros; first | exact True.intro | omega) | (simp only [List.length_cons, List.length_nil, Int.toNat_natCast]; omega)) ?_
            | refine seqI rfl ?_
            | refine regI rfl ?_
            | refine scopeI rfl ?_
            | refine blockI rfl ?_
            | refine exitI rfl ?_
            | refine retI rfl ?_
            | refine skipI rfl ?_)
          refine endR rfl ?_
          repeat' (first | exact trivial | exact rfl | refine ⟨rfl, ?_⟩ | refine And.intro ?_ ?_)
          · unfold cTl; rw [if_neg c4]
          · unfold cFa; rw [if_neg c4]
end Go.AM.Ytkacoophnfljcaa.Pl
end

section
set_option linter.all false
namespace Go.AM.Ytkacoophnfljcaa.Pl
open Go.Proofs

theorem getI_lt {α : Type} {xs : List α} {d : α} {i : Nat} (h : i < xs.length) : getI xs d i = xs[i] := by simp [getI, List.getD, List.getElem?_eq_getElem h]

theorem cDu_at {xs : List StT} {y : List Two} {i : Nat} : ∀ {n : Nat}, i < n → getI (cDu xs y n) 0 i = (stg xs i).1 + pickF (two y i).1 ((stg xs i).2.1 - (stg xs i).1 + 1)
  | 0, h => by omega
  | n + 1, h => by
    by_cases hi : i < n
    · rw [cDu, getI_append_lt (by rw [cDu_len]; exact hi), cDu_at hi]
    · obtain rfl : i = n := by omega
      have := @getI_append_eq Int (cDu xs y i) ((stg xs i).1 + pickF (two y i).1 ((stg xs i).2.1 - (stg xs i).1 + 1)) 0
      rwa [cDu_len] at this
theorem cMo_at {a b : Int} {y : List Two} {i : Nat} : ∀ {n : Nat}, i < n → getI (cMo a b y n) 0 i = a + pickF (two y i).2 (b - a + 1)
  | 0, h => by omega
  | n + 1, h => by
    by_cases hi : i < n
    · rw [cMo, getI_append_lt (by rw [cMo_len]; exact hi), cMo_at hi]
    · obtain rfl : i = n := by omega
      have := @getI_append_eq Int (cMo a b y i) (a + pickF (two y i).2 (b - a + 1)) 0
      rwa [cMo_len] at this

/-- The numbers of a failure are within their bounds. -/
theorem fault_b {e a b : Int} {xs : List StT} {ws : List WiT} (F : Facts e a b xs ws) (tool at' : Int) :
    (cTl xs tool = -1 ∧ cFa xs tool at' = 0) ∨ (0 ≤ cTl xs tool ∧ cTl xs tool ≤ 59 ∧ 0 ≤ cFa xs tool at' ∧ cFa xs tool at' ≤ 1000000 + 50) := by
  have hn := F.n
  have hix := @pick_b (tool.tdiv 4) (xs.length : Int) (by omega)
  have hs := F.st (cIx xs tool).toNat (by unfold cIx; omega)
  have hl := F.st ((xs.length : Int) - 1).toNat (by omega)
  unfold StOk at hs hl
  have p3 := @pick_b at' ((getI xs tStage.dflt ((xs.length : Int) - 1).toNat).2.2.2.2 + 50) (by omega)
  have p4 := @pick_b (at'.tdiv 3) 50 (by decide)
  unfold cTl cFa stg
  by_cases h : 0 < pickF tool 4
  · rw [if_pos h, if_pos h]
    split <;> omega
  · rw [if_neg h, if_neg h]
    exact .inl ⟨rfl, rfl⟩

theorem poss_of {e a b : Int} {xs : List StT} {ws : List WiT} {du mo : List Int} {de tl fa : Int} (hv : validF e a b xs ws = true) (h1 : du.length = xs.length) (h2 : mo.length = xs.length) (h3 : a ≤ de ∧ de ≤ b)
    (h4 : ∀ i, i < xs.length → AtOk (getI xs tStage.dflt i).1 (getI xs tStage.dflt i).2.1 a b (getI du 0 i) (getI mo 0 i)) (h5 : (tl = -1 ∧ fa = 0) ∨ (0 ≤ tl ∧ tl ≤ 59 ∧ 0 ≤ fa ∧ fa ≤ 1000000)) : possF e a b xs ws du mo de tl fa = true := by
  unfold possF
  rw [hv]
  simp only [Bool.true_and, Bool.and_eq_true, Bool.or_eq_true, within_iff, decide_eq_true_eq, List.all_eq_true, List.mem_range]
  refine ⟨⟨⟨⟨h1, h2⟩, h3⟩, fun i hi => ?_⟩, ?_⟩
  · have := h4 i hi
    unfold AtOk at this
    simpa only [fitsAt, Bool.and_eq_true, within_iff] using this
  · rcases h5 with h | h
    · exact .inl h
    · exact .inr ⟨⟨h.1, h.2.1⟩, h.2.2.1, h.2.2.2⟩

theorem chosen_at {e a b : Int} {xs : List StT} {ws : List WiT} (F : Facts e a b xs ws) (y : List Two) : ∀ i, i < xs.length → AtOk (getI xs tStage.dflt i).1 (getI xs tStage.dflt i).2.1 a b (getI (cDu xs y xs.length) 0 i) (getI (cMo a b y xs.length) 0 i) := fun i hi => by
  rw [cDu_at hi, cMo_at hi]
  have hs := F.st i hi
  have hab := F.ab
  unfold StOk at hs
  have p1 := @pick_b (two y i).1 ((stg xs i).2.1 - (stg xs i).1 + 1) (by unfold stg; omega)
  have p2 := @pick_b (two y i).2 (b - a + 1) (by omega)
  unfold stg at p1 ⊢
  unfold AtOk
  omega

theorem cDe_b {e a b : Int} {xs : List StT} {ws : List WiT} (F : Facts e a b xs ws) (y : List Two) : a ≤ cDe a b y ∧ cDe a b y ≤ b := by
  have hab := F.ab
  have := @pick_b ((getI y tTwo.dflt 0).1.tdiv 7) (b - a + 1) (by omega)
  unfold cDe
  split <;> omega

/-- A plan of slots that do not begin too late: so every scenario of Chosen's is possible. -/
theorem chosen_poss {e a b : Int} {xs : List StT} {ws : List WiT} (hv : validF e a b xs ws = true) (hlate : (getI xs tStage.dflt ((xs.length : Int) - 1).toNat).2.2.2.2 + 50 ≤ 1000000 ∧ ∀ i, i < xs.length → (getI xs tStage.dflt i).2.2.1.2 + 50 ≤ 1000000) (y : List Two) (tool at' : Int) :
    possF e a b xs ws (cDu xs y xs.length) (cMo a b y xs.length) (cDe a b y) (cTl xs tool) (cFa xs tool at') = true := by
  have F := valid_facts hv
  refine poss_of hv (cDu_len _) (cMo_len _) (cDe_b F y) (chosen_at F y) ?_
  rcases fault_b F tool at' with h | h
  · exact .inl h
  · refine .inr ⟨h.1, h.2.1, h.2.2.1, ?_⟩
    have hn := F.n
    have hix := @pick_b (tool.tdiv 4) (xs.length : Int) (by omega)
    have h1 := hlate.1
    have h2 := hlate.2 (cIx xs tool).toNat (by unfold cIx; omega)
    have hl := F.st ((xs.length : Int) - 1).toNat (by omega)
    unfold StOk at hl
    have p3 := @pick_b at' ((getI xs tStage.dflt ((xs.length : Int) - 1).toNat).2.2.2.2 + 50) (by omega)
    have p4 := @pick_b (at'.tdiv 3) 50 (by decide)
    unfold cFa stg
    split
    · split <;> omega
    · omega

theorem made_late (x : List Six) : (getI (mXs x) tStage.dflt (((mXs x).length : Int) - 1).toNat).2.2.2.2 + 50 ≤ 1000000 ∧ ∀ i, i < (mXs x).length → (getI (mXs x) tStage.dflt i).2.2.1.2 + 50 ≤ 1000000 := by
  obtain ⟨h1, h2⟩ := mXs_b x
  have hn := nst_b x
  refine ⟨?_, fun i hi => ?_⟩
  · have g := h2 (((mXs x).length : Int) - 1).toNat (by omega)
    unfold SGood FGood at g
    omega
  · have g := h2 i (by omega)
    unfold SGood FGood at g
    omega

/-! ### Run -/

abbrev ViT := Int × Int × Int × Int
def vis (out : List ViT) (j : Nat) : ViT := getI out tVisit.dflt j
def prevE (e : Int) (out : List ViT) : Nat → Int
  | 0 => e
  | j + 1 => (vis out j).2.2.2

/-- Visit j is that of the slot that is reached. -/
def VisR (xs : List StT) (du mo : List Int) (de tl fa e : Int) (out : List ViT) (j : Nat) : Prop :=
  reachedAt xs du mo de tl fa j (prevE e out j) = (((vis out j).2.1, (vis out j).2.2.1), true) ∧ (vis out j).1 = (j : Int) ∧ (vis out j).2.2.2 = (vis out j).2.2.1 + getI du 0 j

def wFr (ws : List WiT) (k : Nat) : Int := (getI ws tWin.dflt k).1
def wTo (ws : List WiT) (k : Nat) : Int := (getI ws tWin.dflt k).2.1
def wLi (ws : List WiT) (k : Nat) : Int := (getI ws tWin.dflt k).2.2
theorem wi_ok {e a b : Int} {xs : List StT} {ws : List WiT} (F : Facts e a b xs ws) (k : Nat) (hk : k < ws.length) : 0 ≤ wFr ws k ∧ wFr ws k < wTo ws k ∧ wTo ws k < (xs.length : Int) ∧ 0 ≤ wLi ws k ∧ wLi ws k ≤ 1000000 := F.ws k hk

def LateAt (ws : List WiT) (out : List ViT) (k : Nat) : Prop := wLi ws k < (vis out (wTo ws k).toNat).2.2.1 - (vis out (wFr ws k).toNat).2.2.2

/-- What a result says. m: how many stages were processed. -/
structure RunR (xs : List StT) (ws : List WiT) (du mo : List Int) (de tl fa e : Int) (r : List ViT) (kind num : Int) : Prop where
  len : r.length ≤ xs.length
  vis : ∀ j, j < r.length → VisR xs du mo de tl fa e r j
  kept : ∀ k, k < ws.length → wTo ws k < r.length → LateAt ws r k → kind = 2 ∧ wTo ws k + 1 = r.length ∧ num ≤ k
  ends : (kind = 0 ∧ num = 0 ∧ r.length = xs.length) ∨ (kind = 1 ∧ num = r.length ∧ r.length < xs.length ∧ (reachedAt xs du mo de tl fa r.length (prevE e r r.length)).2 = false) ∨
    (kind = 2 ∧ 0 ≤ num ∧ num < ws.length ∧ wTo ws num.toNat + 1 = r.length ∧ LateAt ws r num.toNat)

theorem vis_lt {out : List ViT} {v : ViT} {j : Nat} (h : j < out.length) : vis (out ++ [v]) j = vis out j := getI_append_lt h
theorem vis_eq {out : List ViT} {v : ViT} : vis (out ++ [v]) out.length = v := getI_append_eq
theorem prevE_lt {e : Int} {out : List ViT} {v : ViT} {j : Nat} (h : j ≤ out.length) : prevE e (out ++ [v]) j = prevE e out j := by
  cases j with
  | zero => rfl
  | succ j => simp only [prevE]; rw [vis_lt (by omega)]
theorem prevE_eq {e : Int} {out : List ViT} {v : ViT} : prevE e (out ++ [v]) (out.length + 1) = v.2.2.2 := by simp only [prevE]; rw [vis_eq]

theorem idxF_lt {α : Type} {p : α → Bool} {d : α} : ∀ {xs : List α}, ¬ idxF p xs < 0 → (idxF p xs).toNat < xs.length ∧ p (getI xs d (idxF p xs).toNat) = true ∧ ∀ j : Nat, (j : Int) < idxF p xs → p (getI xs d j) = false
  | [], h => by simp [idxF] at h
  | x :: r, h => by
    unfold idxF at h ⊢
    split
    · rename_i hp
      refine ⟨by simp, ?_, fun j hj => by omega⟩
      simpa [getI, List.getD] using hp
    · rename_i hp
      rw [if_neg hp] at h
      split at h
      · exact absurd h (by decide)
      · rename_i h1
        rw [if_neg h1]
        obtain ⟨h2, h3, h4⟩ := idxF_lt (d := d) h1
        have e : (idxF p r + 1).toNat = (idxF p r).toNat + 1 := by omega
        rw [e]
        refine ⟨by simpa using h2, by simpa [getI, List.getD] using h3, fun j hj => ?_⟩
        cases j with
        | zero => simpa [getI, List.getD] using hp
        | succ j =>
          have := h4 j (by omega)
          simpa [getI, List.getD] using this

theorem idxF_neg {α : Type} {p : α → Bool} {d : α} : ∀ {xs : List α}, idxF p xs < 0 → ∀ j, j < xs.length → p (getI xs d j) = false
  | [], _, j, hj => by simp at hj
  | x :: r, h, j, hj => by
    unfold idxF at h
    split at h
    · exact absurd h (by decide)
    · rename_i hp
      split at h
      · rename_i h1
        cases j with
        | zero => simpa [getI, List.getD] using hp
        | succ j => have := idxF_neg (d := d) h1 j (by simpa using hj); simpa [getI, List.getD] using this
      · omega

theorem runG_spec {e a b : Int} {xs : List StT} {ws : List WiT} (F : Facts e a b xs ws) {du mo : List Int} {de tl fa : Int} : ∀ (n : Nat) (out : List ViT) (t : Int), out.length + n = xs.length → t = prevE e out out.length →
    (∀ j, j < out.length → VisR xs du mo de tl fa e out j) → (∀ k, k < ws.length → wTo ws k < out.length → ¬ LateAt ws out k) →
    RunR xs ws du mo de tl fa e (runG xs ws du mo de tl fa n out.length out t).1 (runG xs ws du mo de tl fa n out.length out t).2.1 (runG xs ws du mo de tl fa n out.length out t).2.2
  | 0, out, t, h1, h2, h3, h4 => ⟨by show out.length ≤ _; omega, h3, fun k hk hl hla => absurd hla (h4 k hk hl), .inl ⟨rfl, rfl, by show out.length = _; omega⟩⟩
  | n + 1, out, t, h1, h2, h3, h4 => by
    simp only [runG]
    split
    · rename_i hok
      obtain ⟨r, hr⟩ : ∃ r, r = reachedAt xs du mo de tl fa out.length t := ⟨_, rfl⟩
      rw [← hr] at hok ⊢
      obtain ⟨out', ho⟩ : ∃ out', out' = out ++ [((out.length : Int), r.1.1, r.1.2, r.1.2 + getI du 0 out.length)] := ⟨_, rfl⟩
      have hlen : out'.length = out.length + 1 := by rw [ho]; simp
      have hv : vis out' out.length = ((out.length : Int), r.1.1, r.1.2, r.1.2 + getI du 0 out.length) := by rw [ho]; exact vis_eq
      have hvis : ∀ j, j < out'.length → VisR xs du mo de tl fa e out' j := fun j hj => by
        by_cases hj2 : j < out.length
        · have := h3 j hj2
          unfold VisR at this ⊢
          rw [ho, vis_lt hj2, prevE_lt (by omega)]; exact this
        · obtain rfl : j = out.length := by omega
          unfold VisR
          rw [hv, ho, prevE_lt (Nat.le_refl _), ← h2, ← hr]
          exact ⟨by rw [← hok], rfl, rfl⟩
      have hold : ∀ k, k < ws.length → wTo ws k < out.length → ¬ LateAt ws out' k := fun k hk hl hla => by
        refine h4 k hk hl ?_
        have W := wi_ok F k hk
        unfold LateAt at hla ⊢
        rw [ho, vis_lt (by omega), vis_lt (by omega)] at hla
        exact hla
      have hlw : ∀ k, k < ws.length → (lateW out.length r.1.2 out' (getI ws tWin.dflt k) = true ↔ wTo ws k = out.length ∧ LateAt ws out' k) := fun k hk => by
        unfold LateAt
        show (decide (wTo ws k = (out.length : Int)) && decide (wLi ws k < r.1.2 - (vis out' (wFr ws k).toNat).2.2.2)) = true ↔ _
        simp only [Bool.and_eq_true, decide_eq_true_eq]
        constructor
        · rintro ⟨h5, h6⟩
          refine ⟨h5, ?_⟩
          rw [show (wTo ws k).toNat = out.length by omega, hv]; exact h6
        · rintro ⟨h5, h6⟩
          refine ⟨h5, ?_⟩
          rw [show (wTo ws k).toNat = out.length by omega, hv] at h6; exact h6
      rw [← ho]
      split
      · rename_i hk
        have hnone := idxF_neg (d := tWin.dflt) hk
        have e2 : out.length + 1 = out'.length := hlen.symm
        rw [e2]
        refine runG_spec F n out' _ (by omega) ?_ hvis fun k hk2 hl hla => ?_
        · rw [← e2, ho, prevE_eq]
        · by_cases hl2 : wTo ws k < out.length
          · exact hold k hk2 hl2 hla
          · have := (hlw k hk2).2 ⟨by omega, hla⟩
            rw [hnone k hk2] at this; cases this
      · rename_i hk
        obtain ⟨k1, k2, k3⟩ := idxF_lt (d := tWin.dflt) hk
        have := (hlw _ k1).1 k2
        show RunR xs ws du mo de tl fa e out' 2 (idxF (lateW out.length r.1.2 out') ws)
        refine ⟨by omega, hvis, fun k hk2 hl hla => ?_, .inr (.inr ⟨rfl, by omega, by omega, by rw [hlen]; omega, this.2⟩)⟩
        by_cases hl2 : wTo ws k < out.length
        · exact absurd hla (hold k hk2 hl2)
        · have h6 := (hlw k hk2).2 ⟨by omega, hla⟩
          refine ⟨rfl, by omega, Decidable.byContradiction fun h7 => ?_⟩
          rw [k3 k (by omega)] at h6; cases h6
    · rename_i hok
      refine ⟨by show out.length ≤ _; omega, h3, fun k hk hl hla => absurd hla (h4 k hk hl), .inr (.inl ⟨rfl, rfl, by show out.length < _; omega, ?_⟩)⟩
      rw [← h2]; simpa using hok

theorem run_spec {e a b : Int} {xs : List StT} {ws : List WiT} {du mo : List Int} {de tl fa : Int} (h : possF e a b xs ws du mo de tl fa = true) :
    (runF e a b xs ws du mo de tl fa).2.2 = 0 ∧ RunR xs ws du mo de tl fa e (runF e a b xs ws du mo de tl fa).1 (runF e a b xs ws du mo de tl fa).2.1.1 (runF e a b xs ws du mo de tl fa).2.1.2 := by
  have F := (poss_facts h).toFacts
  unfold runF
  rw [h]
  exact ⟨rfl, runG_spec F xs.length [] e (by simp) rfl (fun j hj => by simp at hj) (fun k hk hl => by have := wi_ok F k hk; simp at hl; omega)⟩

theorem reachedF_ok {mt ms st ss de tl fa t mv du tool start a : Int} (h : reachedF mt ms st ss de tl fa t mv du = ((tool, start), true)) (hmv : a ≤ mv) (hde : a ≤ de) :
    ((tool = mt ∧ start = ms ∧ ¬ (tl = mt ∧ fa < ms + du)) ∨ (tool = st ∧ start = ss)) ∧ t + a ≤ start := by
  unfold reachedF at h
  split at h
  · split at h
    · simp only [Prod.mk.injEq, decide_eq_true_eq] at h; omega
    · split at h
      · simp only [Prod.mk.injEq, decide_eq_true_eq] at h; omega
      · split at h
        · simp at h
        · simp only [Prod.mk.injEq, decide_eq_true_eq] at h; omega
  · simp only [Prod.mk.injEq, decide_eq_true_eq] at h; omega

def sMn (xs : List StT) (j : Nat) : Int := (getI xs tStage.dflt j).1
def sMx (xs : List StT) (j : Nat) : Int := (getI xs tStage.dflt j).2.1
def sMt (xs : List StT) (j : Nat) : Int := (getI xs tStage.dflt j).2.2.1.1
def sMs (xs : List StT) (j : Nat) : Int := (getI xs tStage.dflt j).2.2.1.2
def sSt (xs : List StT) (j : Nat) : Int := (getI xs tStage.dflt j).2.2.2.1
def sSs (xs : List StT) (j : Nat) : Int := (getI xs tStage.dflt j).2.2.2.2

/-- A visit of a result, in numbers. -/
def VisN (i v0 v1 v2 v3 mt ms st ss tl fa du pe a : Int) : Prop :=
  v0 = i ∧ ((v1 = mt ∧ v2 = ms ∧ ¬ (tl = mt ∧ fa < ms + du)) ∨ (v1 = st ∧ v2 = ss)) ∧ pe + a ≤ v2 ∧ v3 = v2 + du ∧ (0 ≤ v2 ∧ v2 ≤ 1000000) ∧ (0 ≤ du ∧ du ≤ 10000) ∧ mt ≠ st

theorem visN {e a b : Int} {xs : List StT} {ws : List WiT} {du mo : List Int} {de tl fa : Int} (C : Chance e a b xs ws du mo de tl fa) {r : List ViT} {j : Nat} (h : VisR xs du mo de tl fa e r j) (hj : j < xs.length) :
    VisN j (vis r j).1 (vis r j).2.1 (vis r j).2.2.1 (vis r j).2.2.2 (sMt xs j) (sMs xs j) (sSt xs j) (sSs xs j) tl fa (getI du 0 j) (prevE e r j) a := by
  obtain ⟨h1, h2, h3⟩ := h
  have hat := C.at' j hj
  have hs := C.st j hj
  have hde := C.deb
  unfold AtOk at hat
  unfold StOk at hs
  have h4 := reachedF_ok (a := a) h1 (by omega) (by omega)
  unfold VisN sMt sMs sSt sSs
  refine ⟨h2, h4.1, h4.2, h3, ?_, ?_, ?_⟩ <;> omega
end Go.AM.Ytkacoophnfljcaa.Pl
end

section
set_option linter.all false
namespace Go.AM.Ytkacoophnfljcaa
open Go.Proofs

/-! ### What a rule looks at: less comes first -/

def ruleV (rc r : Int) (j : JobT) : Int :=
  if r = 1 then (if jHot j = true then 0 else 1) else if r = 2 then jDue j else if r = 3 then (if jRec j = rc then 0 else 1) else if r = 4 then jArr j else if r = 5 then jLen j else - jCnt j

theorem cmpI_spec (a b : Int) : (cmpI a b < 0 ↔ a < b) ∧ (cmpI a b = 0 ↔ a = b) := by
  unfold cmpI
  split
  · constructor <;> constructor <;> intro <;> omega
  · split
    · constructor <;> constructor <;> intro <;> omega
    · constructor <;> constructor <;> intro <;> omega

theorem holdC_spec (p : JobT → Bool) (x y : JobT) : (holdC p x y < 0 ↔ (if p x = true then (0 : Int) else 1) < (if p y = true then 0 else 1)) ∧ (holdC p x y = 0 ↔ (if p x = true then (0 : Int) else 1) = (if p y = true then 0 else 1)) := by
  unfold holdC
  cases p x <;> cases p y <;> simp

theorem rule_spec {rc r : Int} (h : ruleOk r) (x y : JobT) : (ruleC rc r x y < 0 ↔ ruleV rc r x < ruleV rc r y) ∧ (ruleC rc r x y = 0 ↔ ruleV rc r x = ruleV rc r y) := by
  unfold ruleOk at h
  obtain rfl | rfl | rfl | rfl | rfl | rfl : r = 1 ∨ r = 2 ∨ r = 3 ∨ r = 4 ∨ r = 5 ∨ r = 6 := by omega
  · exact holdC_spec jHot x y
  · exact cmpI_spec (jDue x) (jDue y)
  · have := holdC_spec (fun j => decide (jRec j = rc)) x y
    simp only [decide_eq_true_eq] at this
    exact this
  · exact cmpI_spec (jArr x) (jArr y)
  · exact cmpI_spec (jLen x) (jLen y)
  · have := cmpI_spec (jCnt y) (jCnt x)
    show (cmpI (jCnt y) (jCnt x) < 0 ↔ - jCnt x < - jCnt y) ∧ (cmpI (jCnt y) (jCnt x) = 0 ↔ - jCnt x = - jCnt y)
    omega

/-- One job comes ahead of another. -/
def aheadV (rc : Int) (x y : JobT) : List Int → Prop
  | [] => jLot x < jLot y
  | r :: rs => ruleV rc r x < ruleV rc r y ∨ (ruleV rc r x = ruleV rc r y ∧ aheadV rc x y rs)

theorem ordC_neg {rc : Int} {x y : JobT} : ∀ {rs : List Int}, (∀ r ∈ rs, ruleOk r) → (ordC rs rc x y < 0 ↔ aheadV rc x y rs)
  | [], _ => by
    show (if riseC jLot x y ≠ 0 then riseC jLot x y else 0) < 0 ↔ jLot x < jLot y
    have := cmpI_spec (jLot x) (jLot y)
    unfold riseC
    split
    · exact this.1
    · rename_i h
      have h : cmpI (jLot x) (jLot y) = 0 := Decidable.not_not.1 h
      have := this.2.1 h
      omega
  | r :: rs, h => by
    have ih := ordC_neg (rc := rc) (x := x) (y := y) (rs := rs) fun r hr => h r (List.mem_cons_of_mem _ hr)
    have hs := rule_spec (rc := rc) (h r (by simp)) x y
    show (if ruleC rc r x y ≠ 0 then ruleC rc r x y else ordC rs rc x y) < 0 ↔ _
    unfold aheadV
    split
    · rename_i h0
      constructor
      · exact fun h => .inl (hs.1.1 h)
      · rintro (h | ⟨h, _⟩)
        · exact hs.1.2 h
        · exact absurd (hs.2.2 h) h0
    · rename_i h0
      have h0 := Decidable.not_not.1 h0
      have e := hs.2.1 h0
      constructor
      · exact fun h => .inr ⟨e, ih.1 h⟩
      · rintro (h | ⟨_, h⟩)
        · omega
        · exact ih.2 h

theorem aheadV_trans {rc : Int} {x y z : JobT} : ∀ {rs : List Int}, aheadV rc x y rs → aheadV rc y z rs → aheadV rc x z rs
  | [], h, k => Int.lt_trans h k
  | r :: rs, h, k => by
    unfold aheadV at *
    rcases h with h | ⟨h, h'⟩ <;> rcases k with k | ⟨k, k'⟩
    · exact .inl (by omega)
    · exact .inl (by omega)
    · exact .inl (by omega)
    · exact .inr ⟨by omega, aheadV_trans h' k'⟩
theorem aheadV_irr {rc : Int} {x : JobT} : ∀ {rs : List Int}, ¬ aheadV rc x x rs
  | [], h => Int.lt_irrefl _ h
  | r :: rs, h => by
    unfold aheadV at h
    rcases h with h | ⟨_, h⟩
    · omega
    · exact aheadV_irr h
theorem aheadV_asymm {rc : Int} {x y : JobT} {rs : List Int} (h : aheadV rc x y rs) : ¬ aheadV rc y x rs := fun k => aheadV_irr (aheadV_trans h k)
theorem aheadV_total {rc : Int} {x y : JobT} (hl : jLot x ≠ jLot y) : ∀ {rs : List Int}, ¬ aheadV rc x y rs → aheadV rc y x rs
  | [], h => by
    unfold aheadV at *
    omega
  | r :: rs, h => by
    unfold aheadV at *
    by_cases e : ruleV rc r x = ruleV rc r y
    · exact .inr ⟨e.symm, aheadV_total hl fun k => h (.inr ⟨e, k⟩)⟩
    · exact .inl (by
        have : ¬ ruleV rc r x < ruleV rc r y := fun k => h (.inl k)
        omega)

/-! ### Sorted lists -/

/-- No lot twice. -/
def Lots (l : List JobT) : Prop := l.Pairwise fun a b => jLot a ≠ jLot b
def Srt (rs : List Int) (rc : Int) (l : List JobT) : Prop := l.Pairwise fun a b => aheadV rc a b rs

theorem posI_spec {c : JobT → JobT → Int} {x : JobT} {S : List JobT} : ∀ {k : Nat}, (∀ i, posI c x S k ≤ i → i < k → c x (getI S jDf i) < 0) ∧ (posI c x S k = 0 ∨ ¬ c x (getI S jDf (posI c x S k - 1)) < 0)
  | 0 => ⟨fun i _ h => by omega, .inl rfl⟩
  | k + 1 => by
    obtain ⟨h1, h2⟩ := posI_spec (c := c) (x := x) (S := S) (k := k)
    unfold posI
    split
    · rename_i h
      refine ⟨fun i hi hk => ?_, h2⟩
      by_cases e : i = k
      · subst e; exact h
      · exact h1 i hi (by omega)
    · rename_i h
      exact ⟨fun i hi hk => by omega, .inr h⟩

theorem getI_elem {S : List JobT} {i : Nat} (h : i < S.length) : getI S jDf i = S[i] := by simp [getI, List.getD, List.getElem?_eq_getElem h]

theorem insI_perm {c : JobT → JobT → Int} {x : JobT} {S : List JobT} : (insI c x S).Perm (x :: S) := by
  unfold insI
  have : (S.take (posI c x S S.length) ++ x :: S.drop (posI c x S S.length)).Perm (x :: (S.take (posI c x S S.length) ++ S.drop (posI c x S S.length))) := List.perm_middle
  rwa [List.take_append_drop] at this

theorem insI_srt {rs : List Int} {rc : Int} (hr : ∀ r ∈ rs, ruleOk r) {x : JobT} {S : List JobT} (hS : Srt rs rc S) (hx : ∀ b ∈ S, jLot x ≠ jLot b) : Srt rs rc (insI (ordC rs rc) x S) := by
  obtain ⟨h1, h2⟩ := posI_spec (c := ordC rs rc) (x := x) (S := S) (k := S.length)
  have hle := posI_le (c := ordC rs rc) (x := x) (S := S) (k := S.length)
  unfold insI Srt
  generalize posI (ordC rs rc) x S S.length = j at *
  have hsp : S.take j ++ S.drop j = S := List.take_append_drop j S
  have hS' := hS
  unfold Srt at hS'
  rw [← hsp, List.pairwise_append] at hS'
  have hafter : ∀ b ∈ S.drop j, aheadV rc x b rs := fun b hb => by
    obtain ⟨i, hi, rfl⟩ := List.getElem_of_mem hb
    rw [List.length_drop] at hi
    rw [List.getElem_drop]
    have := h1 (j + i) (by omega) (by omega)
    rw [getI_elem (by omega)] at this
    exact (ordC_neg hr).1 this
  have hbefore : ∀ a ∈ S.take j, aheadV rc a x rs := fun a ha => by
    obtain ⟨i, hi, rfl⟩ := List.getElem_of_mem ha
    rw [List.length_take] at hi
    rw [List.getElem_take]
    have h2' := h2.resolve_left (by omega)
    have hlt : j - 1 < S.length := by omega
    rw [getI_elem hlt] at h2'
    have h3 : aheadV rc S[j - 1] x rs := aheadV_total (hx _ (List.getElem_mem _)) fun k => h2' ((ordC_neg hr).2 k)
    by_cases e : i = j - 1
    · subst e; exact h3
    · exact aheadV_trans (List.pairwise_iff_getElem.1 hS i (j - 1) (by omega) hlt (by omega)) h3
  rw [List.pairwise_append]
  refine ⟨hS'.1, List.pairwise_cons.2 ⟨hafter, hS'.2.1⟩, fun a ha b hb => ?_⟩
  rcases List.mem_cons.1 hb with rfl | hb
  · exact hbefore a ha
  · exact hS'.2.2 a ha b hb

theorem sort_spec {rs : List Int} {rc : Int} (hr : ∀ r ∈ rs, ruleOk r) : ∀ {l S : List JobT}, Srt rs rc S → Lots (S ++ l) → Srt rs rc (l.foldl (fun S x => insI (ordC rs rc) x S) S) ∧ (l.foldl (fun S x => insI (ordC rs rc) x S) S).Perm (S ++ l)
  | [], S, hS, _ => ⟨hS, by simp⟩
  | x :: l, S, hS, hL => by
    have hp := insI_perm (c := ordC rs rc) (x := x) (S := S)
    have hL' := hL
    unfold Lots at hL'
    rw [List.pairwise_append] at hL'
    have hx : ∀ b ∈ S, jLot x ≠ jLot b := fun b hb => Ne.symm (hL'.2.2 b hb x (by simp))
    have hq : (insI (ordC rs rc) x S ++ l).Perm (S ++ x :: l) := (hp.append_right l).trans List.perm_middle.symm
    obtain ⟨h1, h2⟩ := sort_spec hr (l := l) (insI_srt hr hS hx) ((hq.symm.pairwise_iff (fun h => Ne.symm h)).1 hL)
    exact ⟨h1, h2.trans hq⟩

theorem order_spec {rs : List Int} {rc : Int} (h : RulesOk rs) {l : List JobT} (hl : Lots l) : Srt rs rc (orderF rs rc l) ∧ (orderF rs rc l).Perm l := by
  unfold orderF rulesB
  rw [if_pos (decide_eq_true h)]
  have := sort_spec h.1 (rc := rc) (l := l) (S := []) List.Pairwise.nil (by simpa using hl)
  simpa [sortF] using this

/-- Sorted lists of the same jobs are one list. -/
theorem srt_uniq {rs : List Int} {rc : Int} {a b : List JobT} (ha : Srt rs rc a) (hb : Srt rs rc b) (h : a.Perm b) : a = b :=
  List.Perm.eq_of_pairwise (le := fun x y => aheadV rc x y rs) (fun x y _ _ h k => absurd k (aheadV_asymm h)) ha hb h

/-! ### What fits -/

theorem fit_iff {xss : List (List Bk.El)} (g : CalG xss) {tool now rc : Int} {j : JobT} (h0 : 0 ≤ tool) (h1 : tool < 60) (hn : 0 ≤ now) (hj : 1 ≤ jLen j ∧ jLen j ≤ 10000) (he : now + lengthF rc j ≤ 1000000) :
    fitB xss tool now rc j = !busyF xss tool now (now + lengthF rc j) := by
  have hl : 1 ≤ lengthF rc j := by unfold lengthF lengthI; split <;> omega
  have hbusy : busyF xss tool now (now + lengthF rc j) = true ↔ ∃ c ∈ toolL xss tool, stB c < now + lengthF rc j ∧ now < enB c := by
    rw [busy_iff]
    exact ⟨fun h => h.2.2.2, fun h => ⟨h0, h1, by omega, h⟩⟩
  have hfirst := first_eq (xss := xss) (n := lengthF rc j) h0 h1 hn hl
  have hfit : fitB xss tool now rc j = ((firstF xss tool now (lengthF rc j)).2 && decide ((firstF xss tool now (lengthF rc j)).1 = now)) := by
    unfold fitB fitI lengthF
    rw [if_pos hj]
  rw [hfit, hfirst]
  obtain ⟨r, hr⟩ : ∃ r, r = firstG (gapsL (toolL xss tool) now) (lengthF rc j) := ⟨_, rfl⟩
  rw [← hr]
  obtain ⟨a, ok⟩ := r
  cases ok
  · have := first_none (g.tool h0 h1) hn hl hr.symm now (Int.le_refl _) he
    rw [hbusy.2 this]
    rfl
  · obtain ⟨f1, f2, f3, f4⟩ := first_yes (g.tool h0 h1) hn hl hr.symm
    by_cases e : a = now
    · subst e
      have : busyF xss tool a (a + lengthF rc j) = false := by
        cases hb : busyF xss tool a (a + lengthF rc j) with
        | false => rfl
        | true =>
          obtain ⟨c, hc, hm⟩ := hbusy.1 hb
          exact absurd hm (f3 c hc)
      rw [this]
      simp
    · have := f4 now (Int.le_refl _) (by omega)
      rw [hbusy.2 this]
      simp [e]

/-! ### What is picked -/

theorem pick_yes {xss : List (List Bk.El)} {tool now rc : Int} {rs : List Int} {l : List JobT} (h : (pickJ xss tool now rs rc l).2 = true) :
    ∃ i, i < (orderF rs rc l).length ∧ (pickJ xss tool now rs rc l).1 = getI (orderF rs rc l) jDf i ∧ fitB xss tool now rc (getI (orderF rs rc l) jDf i) = true ∧ ∀ k, k < i → fitB xss tool now rc (getI (orderF rs rc l) jDf k) = false := by
  unfold pickJ at h ⊢
  split at h
  · cases h
  · rename_i h0
    rw [if_neg h0]
    obtain ⟨h1, h2, h3⟩ := idxF_ge (d := jDf) h0
    exact ⟨_, h1, rfl, h2, fun k hk => h3 k (by omega)⟩

theorem pick_none {xss : List (List Bk.El)} {tool now rc : Int} {rs : List Int} {l : List JobT} (h : (pickJ xss tool now rs rc l).2 = false) :
    (pickJ xss tool now rs rc l).1 = jDf ∧ ∀ k, k < (orderF rs rc l).length → fitB xss tool now rc (getI (orderF rs rc l) jDf k) = false := by
  unfold pickJ at h ⊢
  split at h
  · rename_i h0
    rw [if_pos h0]
    exact ⟨rfl, idxF_no (d := jDf) h0⟩
  · cases h

/-- The job that is picked is a job that fits; no job ahead of it fits. -/
theorem pick_spec {xss : List (List Bk.El)} {tool now rc : Int} {rs : List Int} (hr : RulesOk rs) {l : List JobT} (hl : Lots l) (h : (pickJ xss tool now rs rc l).2 = true) :
    (pickJ xss tool now rs rc l).1 ∈ l ∧ fitB xss tool now rc (pickJ xss tool now rs rc l).1 = true ∧ ∀ j ∈ l, aheadV rc j (pickJ xss tool now rs rc l).1 rs → fitB xss tool now rc j = false := by
  obtain ⟨i, h1, h2, h3, h4⟩ := pick_yes h
  obtain ⟨hs, hp⟩ := order_spec (rc := rc) hr hl
  rw [h2]
  have hm : getI (orderF rs rc l) jDf i ∈ orderF rs rc l := by rw [getI_elem h1]; exact List.getElem_mem _
  refine ⟨hp.mem_iff.1 hm, h3, fun j hj ha => ?_⟩
  obtain ⟨k, hk, rfl⟩ := List.getElem_of_mem (hp.mem_iff.2 hj)
  rw [← getI_elem hk]
  refine h4 k ?_
  rcases Nat.lt_trichotomy k i with h5 | h5 | h5
  · exact h5
  · subst h5
    rw [getI_elem hk] at ha
    exact absurd ha aheadV_irr
  · have := List.pairwise_iff_getElem.1 hs i k h1 hk h5
    rw [getI_elem h1] at ha
    exact absurd ha (aheadV_asymm this)

theorem pick_no {xss : List (List Bk.El)} {tool now rc : Int} {rs : List Int} (hr : RulesOk rs) {l : List JobT} (hl : Lots l) (h : (pickJ xss tool now rs rc l).2 = false) : ∀ j ∈ l, fitB xss tool now rc j = false := fun j hj => by
  obtain ⟨_, h2⟩ := pick_none h
  obtain ⟨_, hp⟩ := order_spec (rc := rc) hr hl
  obtain ⟨k, hk, rfl⟩ := List.getElem_of_mem (hp.mem_iff.2 hj)
  rw [← getI_elem hk]
  exact h2 k hk
end Go.AM.Ytkacoophnfljcaa
end

section
set_option linter.all false
namespace Go.AM.Ytkacoophnfljcaa
open Go.Proofs
set_option maxRecDepth 100000
set_option maxHeartbeats 8000000

/-! ### By, ahead -/

def byF (r rc : Int) (a b : JobT) : Bool :=
  if r = 1 then jHot a && !jHot b else if r = 2 then decide (jDue a < jDue b) else if r = 3 then decide (jRec a = rc) && decide (jRec b ≠ rc)
  else if r = 4 then decide (jArr a < jArr b) else if r = 5 then decide (jLen a < jLen b) else decide (jCnt b < jCnt a)

def rbS : Spec := plain fun
  | [.int .i64 r, .int .i64 rc, .agg [.int .i64 a1, .int .i64 a2, .bool a3, .int .i64 a4, .int .i64 a5, .int .i64 a6, .int .i64 a7], .agg [.int .i64 b1, .int .i64 b2, .bool b3, .int .i64 b4, .int .i64 b5, .int .i64 b6, .int .i64 b7]] =>
    outV True (.bool (byF r rc (a1, a2, a3, a4, a5, a6, a7) (b1, b2, b3, b4, b5, b6, b7)))
  | _ => none


theorem rbOk : SpecSound Try.prog 61 rbS := by
  refine soundP (envOf sigNil) Try.func61 (c := body Try.f61) rfl (by kernel_rfl) rfl ?_
  intro args out hf hpre
  split at hf <;> try (cases hf; done)
  rename_i r rc a1 a2 a3 a4 a5 a6 a7 b1 b2 b3 b4 b5 b6 b7
  cases hf
  refine ⟨Nat.le_of_ble_eq_true rfl, initI (args := [.int .i64 r, .int .i64 rc, .agg [.int .i64 a1, .int .i64 a2, .bool a3, .int .i64 a4, .int .i64 a5, .int .i64 a6, .int .i64 a7], .agg [.int .i64 b1, .int .i64 b2, .bool b3, .int .i64 b4, .int .i64 b5, .int .i64 b6, .int .i64 b7]]) rfl ?_⟩
  repeat' (first
    | with_reducible refine pN ?_
    | with_reducible refine cN ?_
    | with_reducible refine bN ?_
    | with_reducible refine cE ?_
    | with_reducible refine cR ?_
    | with_reducible refine bR ?_
    | with_reducible refine lE ?_
    | with_reducible refine lR ?_
    | with_reducible refine jE ?_
    | with_reducible refine jR ?_
    | refine bE rfl ?_
    | refine bP rfl ?_
    | refine pC (by first | exact True.intro | omega | (intros; first | exact True.intro | omega) | (simp only [List.length_cons, List.length_nil, Int.toNat_natCast]; omega)) ?_
    | refine seqI rfl ?_
    | refine regI rfl ?_
    | refine scopeI rfl ?_
    | refine blockI rfl ?_
    | refine exitI rfl ?_
    | refine retI rfl ?_
    | refine skipI rfl ?_)
  refine condI rfl (fun c1 => ?_) (fun c1 => ?_)
  · simp only [decide_eq_true_eq] at c1
    repeat' (first
      | with_reducible refine pN ?_
      | with_reducible refine cN ?_
      | with_reducible refine bN ?_
      | with_reducible refine cE ?_
      | with_reducible refine cR ?_
      | with_reducible refine bR ?_
      | with_reducible refine lE ?_
      | with_reducible refine lR ?_
      | with_reducible refine jE ?_
      | with_reducible refine jR ?_
      | refine bE rfl ?_
      | refine bP rfl ?_
      | refine pC (by first | exact True.intro | omega | (intros; first | exact True.intro | omega) | (simp only [List.length_cons, List.length_nil, Int.toNat_natCast]; omega)) ?_
      | refine seqI rfl ?_
      | refine regI rfl ?_
      | refine scopeI rfl ?_
      | refine blockI rfl ?_
      | refine exitI rfl ?_
      | refine retI rfl ?_
      | refine skipI rfl ?_)
    refine endR rfl ?_
    repeat' (first | exact trivial | exact rfl | refine ⟨rfl, ?_⟩ | refine And.intro ?_ ?_)
    unfold byF
    rw [if_pos c1]
    rfl
  · simp only [decide_eq_false_iff_not] at c1
    repeat' (first
      | with_reducible refine pN ?_
      | with_reducible refine cN ?_
      | with_reducible refine bN ?_
      | with_reducible refine cE ?_
      | with_reducible refine cR ?_
      | with_reducible refine bR ?_
      | with_reducible refine lE ?_
      | with_reducible refine lR ?_
      | with_reducible refine jE ?_
      | with_reducible refine jR ?_
      | refine bE rfl ?_
      | refine bP rfl ?_
      | refine pC (by first | exact True.intro | omega | (intros; first | exact True.intro | omega) | (simp only [List.length_cons, List.length_nil, Int.toNat_natCast]; omega)) ?_
      | refine seqI rfl ?_
      | refine regI rfl ?_
      | refine scopeI rfl ?_
      | refine blockI rfl ?_
      | refine exitI rfl ?_
      | refine retI rfl ?_
      | refine skipI rfl ?_)
    refine condI rfl (fun c2 => ?_) (fun c2 => ?_)
    · simp only [decide_eq_true_eq] at c2
      repeat' (first
        | with_reducible refine pN ?_
        | with_reducible refine cN ?_
        | with_reducible refine bN ?_
        | with_reducible refine cE ?_
        | with_reducible refine cR ?_
        | with_reducible refine bR ?_
        | with_reducible refine lE ?_
        | with_reducible refine lR ?_
        | with_reducible refine jE ?_
        | with_reducible refine jR ?_
        | refine bE rfl ?_
        | refine bP rfl ?_
        | refine pC (by first | exact True.intro | omega | (intros; first | exact True.intro | omega) | (simp only [List.length_cons, List.length_nil, Int.toNat_natCast]; omega)) ?_
        | refine seqI rfl ?_
        | refine regI rfl ?_
        | refine scopeI rfl ?_
        | refine blockI rfl ?_
        | refine exitI rfl ?_
        | refine retI rfl ?_
        | refine skipI rfl ?_)
      refine endR rfl ?_
      repeat' (first | exact trivial | exact rfl | refine ⟨rfl, ?_⟩ | refine And.intro ?_ ?_)
      unfold byF
      rw [if_neg c1, if_pos c2]
      rfl
    · simp only [decide_eq_false_iff_not] at c2
      repeat' (first
        | with_reducible refine pN ?_
        | with_reducible refine cN ?_
        | with_reducible refine bN ?_
        | with_reducible refine cE ?_
        | with_reducible refine cR ?_
        | with_reducible refine bR ?_
        | with_reducible refine lE ?_
        | with_reducible refine lR ?_
        | with_reducible refine jE ?_
        | with_reducible refine jR ?_
        | refine bE rfl ?_
        | refine bP rfl ?_
        | refine pC (by first | exact True.intro | omega | (intros; first | exact True.intro | omega) | (simp only [List.length_cons, List.length_nil, Int.toNat_natCast]; omega)) ?_
        | refine seqI rfl ?_
        | refine regI rfl ?_
        | refine scopeI rfl ?_
        | refine blockI rfl ?_
        | refine exitI rfl ?_
        | refine retI rfl ?_
        | refine skipI rfl ?_)
      refine condI rfl (fun c3 => ?_) (fun c3 => ?_)
      · simp only [decide_eq_true_eq] at c3
        repeat' (first
          | with_reducible refine pN ?_
          | with_reducible refine cN ?_
          | with_reducible refine bN ?_
          | with_reducible refine cE ?_
          | with_reducible refine cR ?_
          | with_reducible refine bR ?_
          | with_reducible refine lE ?_
          | with_reducible refine lR ?_
          | with_reducible refine jE ?_
          | with_reducible refine jR ?_
          | refine bE rfl ?_
          | refine bP rfl ?_
          | refine pC (by first | exact True.intro | omega | (intros; first | exact True.intro | omega) | (simp only [List.length_cons, List.length_nil, Int.toNat_natCast]; omega)) ?_
          | refine seqI rfl ?_
          | refine regI rfl ?_
          | refine scopeI rfl ?_
          | refine blockI rfl ?_
          | refine exitI rfl ?_
          | refine retI rfl ?_
          | refine skipI rfl ?_)
        refine endR rfl ?_
        repeat' (first | exact trivial | exact rfl | refine ⟨rfl, ?_⟩ | refine And.intro ?_ ?_)
        unfold byF
        rw [if_neg c1, if_neg c2, if_pos c3]
        rfl
      · simp only [decide_eq_false_iff_not] at c3
        repeat' (first
          | with_reducible refine pN ?_
          | with_reducible refine cN ?_
          | with_reducible refine bN ?_
          | with_reducible refine cE ?_
          | with_reducible refine cR ?_
          | with_reducible refine bR ?_
          | with_reducible refine lE ?_
          | with_reducible refine lR ?_
          | with_reducible refine jE ?_
          | with_reducible refine jR ?_
          | refine bE rfl ?_
          | refine bP rfl ?_
          | refine pC (by first | exact True.intro | omega | (intros; first | exact True.intro | omega) | (simp only [List.length_cons, List.length_nil, Int.toNat_natCast]; omega)) ?_
          | refine seqI rfl ?_
          | refine regI rfl ?_
          | refine scopeI rfl ?_
          | refine blockI rfl ?_
          | refine exitI rfl ?_
          | refine retI rfl ?_
          | refine skipI rfl ?_)
        refine condI rfl (fun c4 => ?_) (fun c4 => ?_)
        · simp only [decide_eq_true_eq] at c4
          repeat' (first
            | with_reducible refine pN ?_
            | with_reducible refine cN ?_
            | with_reducible refine bN ?_
            | with_reducible refine cE ?_
            | with_reducible refine cR ?_
            | with_reducible refine bR ?_
            | with_reducible refine lE ?_
            | with_reducible refine lR ?_
            | with_reducible refine jE ?_
            | with_reducible refine jR ?_
            | refine bE rfl ?_
            | refine bP rfl ?_
            | refine pC (by first | exact True.intro | omega | (intros; first | exact True.intro | omega) | (simp only [List.length_cons, List.length_nil, Int.toNat_natCast]; omega)) ?_
            | refine seqI rfl ?_
            | refine regI rfl ?_
            | refine scopeI rfl ?_
            | refine blockI rfl ?_
            | refine exitI rfl ?_
            | refine retI rfl ?_
            | refine skipI rfl ?_)
          refine endR rfl ?_
          repeat' (first | exact trivial | exact rfl | refine ⟨rfl, ?_⟩ | refine And.intro ?_ ?_)
          unfold byF
          rw [if_neg c1, if_neg c2, if_neg c3, if_pos c4]
          rfl
        · simp only [decide_eq_false_iff_not] at c4
          repeat' (first
            | with_reducible refine pN ?_
            | with_reducible refine cN ?_
            | with_reducible refine bN ?_
            | with_reducible refine cE ?_
            | with_reducible refine cR ?_
            | with_reducible refine bR ?_
            | with_reducible refine lE ?_
            | with_reducible refine lR ?_
            | with_reducible refine jE ?_
            | with_reducible refine jR ?_
            | refine bE rfl ?_
            | refine bP rfl ?_
            | refine pC (by first | exact True.intro | omega | (intros; first | exact True.intro | omega) | (simp only [List.length_cons, List.length_nil, Int.toNat_natCast]; omega)) ?_
            | refine seqI rfl ?_
            | refine regI rfl ?_
            | refine scopeI rfl ?_
            | refine blockI rfl ?_
            | refine exitI rfl ?_
            | refine retI rfl ?_
            | refine skipI rfl ?_)
          refine condI rfl (fun c5 => ?_) (fun c5 => ?_)
          · simp only [decide_eq_true_eq] at c5
            repeat' (first
              | with_reducible refine pN ?_
              | with_reducible refine cN ?_
              | with_reducible refine bN ?_
              | with_reducible refine cE ?_
              | with_reducible refine cR ?_
              | with_reducible refine bR ?_
              | with_reducible refine lE ?_
              | with_reducible refine lR ?_
              | with_reducible refine jE ?_
              | with_reducible refine jR ?_
              | refine bE rfl ?_
              | refine bP rfl ?_
              | refine pC (by first | exact True.intro | omega | (intros; first | exact True.intro | omega) | (simp only [List.length_cons, List.length_nil, Int.toNat_natCast]; omega)) ?_
              | refine seqI rfl ?_
              | refine regI rfl ?_
              | refine scopeI rfl ?_
              | refine blockI rfl ?_
              | refine exitI rfl ?_
              | refine retI rfl ?_
              | refine skipI rfl ?_)
            refine endR rfl ?_
            repeat' (first | exact trivial | exact rfl | refine ⟨rfl, ?_⟩ | refine And.intro ?_ ?_)
            unfold byF
            rw [if_neg c1, if_neg c2, if_neg c3, if_neg c4, if_pos c5]
            rfl
          · simp only [decide_eq_false_iff_not] at c5
            repeat' (first
              | with_reducible refine pN ?_
              | with_reducible refine cN ?_
              | with_reducible refine bN ?_
              | with_reducible refine cE ?_
              | with_reducible refine cR ?_
              | with_reducible refine bR ?_
              | with_reducible refine lE ?_
              | with_reducible refine lR ?_
              | with_reducible refine jE ?_
              | with_reducible refine jR ?_
              | refine bE rfl ?_
              | refine bP rfl ?_
              | refine pC (by first | exact True.intro | omega | (intros; first | exact True.intro | omega) | (simp only [List.length_cons, List.length_nil, Int.toNat_natCast]; omega)) ?_
              | refine seqI rfl ?_
              | refine regI rfl ?_
              | refine scopeI rfl ?_
              | refine blockI rfl ?_
              | refine exitI rfl ?_
              | refine retI rfl ?_
              | refine skipI rfl ?_)
            refine endR rfl ?_
            repeat' (first | exact trivial | exact rfl | refine ⟨rfl, ?_⟩ | refine And.intro ?_ ?_)
            unfold byF
            rw [if_neg c1, if_neg c2, if_neg c3, if_neg c4, if_neg c5]
            rfl

def aheadF (rc : Int) (a b : JobT) : List Int → Bool
  | [] => decide (jLot a < jLot b)
  | r :: rs => if (!(byF r rc a b == byF r rc b a)) = true then byF r rc a b else aheadF rc a b rs

def aheadS : Spec := plain fun
  | [.sl (.int .i64) rs, .int .i64 rc, .agg [.int .i64 a1, .int .i64 a2, .bool a3, .int .i64 a4, .int .i64 a5, .int .i64 a6, .int .i64 a7], .agg [.int .i64 b1, .int .i64 b2, .bool b3, .int .i64 b4, .int .i64 b5, .int .i64 b6, .int .i64 b7]] =>
    outV (List.length (α := Int) rs ≤ 1000000) (.bool (aheadF rc (a1, a2, a3, a4, a5, a6, a7) (b1, b2, b3, b4, b5, b6, b7) rs))
  | _ => none

def sigRb : List (Nat × Spec) := [(61, rbS)]
theorem sigRbOk : SigOk Try.prog (look sigRb) := sigCons sigNil Try.func61 (by kernel_rfl) (c := body Try.f61) rfl rbOk

theorem aheadOk : SpecSound Try.prog 33 aheadS := by
  refine soundP (envOf sigRbOk) Try.func33 (c := body Try.f33) rfl (by kernel_rfl) rfl ?_
  intro args out hf hpre
  split at hf <;> try (cases hf; done)
  rename_i rs rc a1 a2 a3 a4 a5 a6 a7 b1 b2 b3 b4 b5 b6 b7
  cases hf
  refine ⟨Nat.le_of_ble_eq_true rfl, initI (args := [.sl tInt rs, .int .i64 rc, .agg [.int .i64 a1, .int .i64 a2, .bool a3, .int .i64 a4, .int .i64 a5, .int .i64 a6, .int .i64 a7], .agg [.int .i64 b1, .int .i64 b2, .bool b3, .int .i64 b4, .int .i64 b5, .int .i64 b6, .int .i64 b7]]) rfl ?_⟩
  change List.length (α := Int) rs ≤ 1000000 at hpre
  repeat' (first
    | with_reducible refine pN ?_
    | with_reducible refine cN ?_
    | with_reducible refine bN ?_
    | with_reducible refine cE ?_
    | with_reducible refine cR ?_
    | with_reducible refine bR ?_
    | with_reducible refine lE ?_
    | with_reducible refine lR ?_
    | with_reducible refine jE ?_
    | with_reducible refine jR ?_
    | refine bE rfl ?_
    | refine bP rfl ?_
    | refine pC (by first | exact True.intro | omega | (intros; first | exact True.intro | omega) | (simp only [List.length_cons, List.length_nil, Int.toNat_natCast]; omega)) ?_
    | refine seqI rfl ?_
    | refine regI rfl ?_
    | refine scopeI rfl ?_
    | refine blockI rfl ?_
    | refine exitI rfl ?_
    | refine retI rfl ?_
    | refine skipI rfl ?_)
  refine loopI (σ := Nat) (fun i => [(9, .int .i64 i)]) (fun i => []) (fun i => i ≤ List.length (α := Int) rs ∧ aheadF rc (a1, a2, a3, a4, a5, a6, a7) (b1, b2, b3, b4, b5, b6, b7) rs = aheadF rc (a1, a2, a3, a4, a5, a6, a7) (b1, b2, b3, b4, b5, b6, b7) (List.drop (α := Int) i rs)) (fun i => List.length (α := Int) rs - i) 0 rfl (fun _ => rfl) rfl ?_ ?_ ?_
  · exact ⟨Nat.zero_le _, rfl⟩
  · repeat' (first | exact trivial | exact rfl | refine ⟨rfl, ?_⟩ | refine And.intro ?_ ?_)
  rintro i ⟨hi, he⟩
  rw [he]
  repeat' (first
    | with_reducible refine pN ?_
    | with_reducible refine cN ?_
    | with_reducible refine bN ?_
    | with_reducible refine cE ?_
    | with_reducible refine cR ?_
    | with_reducible refine bR ?_
    | with_reducible refine lE ?_
    | with_reducible refine lR ?_
    | with_reducible refine jE ?_
    | with_reducible refine jR ?_
    | refine bE rfl ?_
    | refine bP rfl ?_
    | refine pC (by first | exact True.intro | omega | (intros; first | exact True.intro | omega) | (simp only [List.length_cons, List.length_nil, Int.toNat_natCast]; omega)) ?_
    | refine seqI rfl ?_
    | refine regI rfl ?_
    | refine scopeI rfl ?_
    | refine blockI rfl ?_
    | refine exitI rfl ?_
    | refine retI rfl ?_
    | refine skipI rfl ?_)
  refine condI rfl (fun c1 => ?_) (fun c1 => ?_)
  · simp only [decide_eq_true_eq] at c1
    have hil : i < List.length (α := Int) rs := by omega
    have hin : ((i : Int)).toNat = i := by omega
    have hd : List.drop (α := Int) i rs = getI rs (0 : Int) i :: List.drop (α := Int) (i + 1) rs := by
      have := List.drop_eq_getElem_cons (l := (rs : List Int)) (i := i) hil
      rw [this]
      congr 1
      simp [getI, List.getD, List.getElem?_eq_getElem hil]
    rw [hd]
    repeat' (first
      | with_reducible refine pN ?_
      | with_reducible refine cN ?_
      | with_reducible refine bN ?_
      | with_reducible refine cE ?_
      | with_reducible refine cR ?_
      | with_reducible refine bR ?_
      | with_reducible refine lE ?_
      | with_reducible refine lR ?_
      | with_reducible refine jE ?_
      | with_reducible refine jR ?_
      | refine bE rfl ?_
      | refine bP rfl ?_
      | refine pC (by first | exact True.intro | omega | (intros; first | exact True.intro | omega) | (simp only [List.length_cons, List.length_nil, Int.toNat_natCast]; omega)) ?_
      | refine seqI rfl ?_
      | refine regI rfl ?_
      | refine scopeI rfl ?_
      | refine blockI rfl ?_
      | refine exitI rfl ?_
      | refine retI rfl ?_
      | refine skipI rfl ?_)
    refine condI rfl (fun c2 => ?_) (fun c2 => ?_)
    · repeat' (first
        | with_reducible refine pN ?_
        | with_reducible refine cN ?_
        | with_reducible refine bN ?_
        | with_reducible refine cE ?_
        | with_reducible refine cR ?_
        | with_reducible refine bR ?_
        | with_reducible refine lE ?_
        | with_reducible refine lR ?_
        | with_reducible refine jE ?_
        | with_reducible refine jR ?_
        | refine bE rfl ?_
        | refine bP rfl ?_
        | refine pC (by first | exact True.intro | omega | (intros; first | exact True.intro | omega) | (simp only [List.length_cons, List.length_nil, Int.toNat_natCast]; omega)) ?_
        | refine seqI rfl ?_
        | refine regI rfl ?_
        | refine scopeI rfl ?_
        | refine blockI rfl ?_
        | refine exitI rfl ?_
        | refine retI rfl ?_
        | refine skipI rfl ?_)
      refine endR rfl ?_
      repeat' (first | exact trivial | exact rfl | refine ⟨rfl, ?_⟩ | refine And.intro ?_ ?_)
      unfold aheadF
      exact if_pos c2
    · repeat' (first
        | with_reducible refine pN ?_
        | with_reducible refine cN ?_
        | with_reducible refine bN ?_
        | with_reducible refine cE ?_
        | with_reducible refine cR ?_
        | with_reducible refine bR ?_
        | with_reducible refine lE ?_
        | with_reducible refine lR ?_
        | with_reducible refine jE ?_
        | with_reducible refine jR ?_
        | refine bE rfl ?_
        | refine bP rfl ?_
        | refine pC (by first | exact True.intro | omega | (intros; first | exact True.intro | omega) | (simp only [List.length_cons, List.length_nil, Int.toNat_natCast]; omega)) ?_
        | refine seqI rfl ?_
        | refine regI rfl ?_
        | refine scopeI rfl ?_
        | refine blockI rfl ?_
        | refine exitI rfl ?_
        | refine retI rfl ?_
        | refine skipI rfl ?_)
      refine roundI (i + 1) rfl ?_ ?_ ?_
      · refine ⟨by show i + 1 ≤ List.length (α := Int) rs; omega, ?_⟩
        rw [← hd, ← he, he, hd]
        conv => lhs; unfold aheadF
        exact if_neg (fun h => Bool.noConfusion (h.symm.trans c2))
      · show List.length (α := Int) rs - (i + 1) < List.length (α := Int) rs - i
        omega
      · repeat' (first | exact trivial | exact rfl | refine ⟨rfl, ?_⟩ | refine And.intro ?_ ?_)
  · simp only [decide_eq_false_iff_not] at c1
    repeat' (first
      | with_reducible refine pN ?_
      | with_reducible refine cN ?_
      | with_reducible refine bN ?_
      | with_reducible refine cE ?_
      | with_reducible refine cR ?_
      | with_reducible refine bR ?_
      | with_reducible refine lE ?_
      | with_reducible refine lR ?_
      | with_reducible refine jE ?_
      | with_reducible refine jR ?_
      | refine bE rfl ?_
      | refine bP rfl ?_
      | refine pC (by first | exact True.intro | omega | (intros; first | exact True.intro | omega) | (simp only [List.length_cons, List.length_nil, Int.toNat_natCast]; omega)) ?_
      | refine seqI rfl ?_
      | refine regI rfl ?_
      | refine scopeI rfl ?_
      | refine blockI rfl ?_
      | refine exitI rfl ?_
      | refine retI rfl ?_
      | refine skipI rfl ?_)
    refine endR rfl ?_
    repeat' (first | exact trivial | exact rfl | refine ⟨rfl, ?_⟩ | refine And.intro ?_ ?_)
    rw [List.drop_of_length_le (by omega)]
    rfl

/-! ### example, sane -/

def exJ : List JobT := [(1, 5, false, 90, 3, 30, 25), (2, 6, true, 95, 1, 40, 25), (3, 5, false, 90, 2, 10, 25)]
def exJS : Spec := plain fun
  | [] => some ⟨True, .own 0, [.seq tJob exJ], false⟩
  | _ => none
theorem exJOk : SpecSound Try.prog 42 exJS := by
  refine soundP (envOf sigNil) Try.func42 (c := body Try.f42) rfl (by kernel_rfl) rfl ?_
  intro args out hf hpre
  split at hf <;> try (cases hf; done)
  cases hf
  refine ⟨Nat.le_of_ble_eq_true rfl, initI rfl ?_⟩
  repeat' (first
    | with_reducible refine pN ?_
    | with_reducible refine cN ?_
    | with_reducible refine bN ?_
    | with_reducible refine cE ?_
    | with_reducible refine cR ?_
    | with_reducible refine bR ?_
    | with_reducible refine lE ?_
    | with_reducible refine lR ?_
    | with_reducible refine jE ?_
    | with_reducible refine jR ?_
    | refine bE rfl ?_
    | refine bP rfl ?_
    | refine pC (by first | exact True.intro | omega | (intros; first | exact True.intro | omega) | (simp only [List.length_cons, List.length_nil, Int.toNat_natCast]; omega)) ?_
    | refine seqI rfl ?_
    | refine regI rfl ?_
    | refine scopeI rfl ?_
    | refine blockI rfl ?_
    | refine exitI rfl ?_
    | refine retI rfl ?_
    | refine skipI rfl ?_)
  refine endR rfl ?_
  repeat' (first | exact trivial | exact rfl | refine ⟨rfl, ?_⟩ | refine And.intro ?_ ?_)

def sigDs : List (Nat × Spec) := [(42, exJS), (35, newS), (19, dpickS.norm [.any, .any, .any, .sl tInt]), (34, bookS), (22, orderS),
  (43, lotsS), (24, sameIS), (29, lengthS), (25, batchS), (27, validRS.norm [.sl tInt])]
theorem sigDsOk : SigOk Try.prog (look sigDs) := sigCons (sigCons (sigCons (sigCons (sigCons (sigCons (sigCons (sigCons (sigCons (sigCons sigNil
  Try.func27 (by kernel_rfl) (c := body Try.f27) rfl (validROk.norm _))
  Try.func25 (by kernel_rfl) (c := body Try.f25) rfl batchOk)
  Try.func29 (by kernel_rfl) (c := body Try.f29) rfl lengthOk)
  Try.func24 (by kernel_rfl) (c := body Try.f24) rfl sameIOk)
  Try.func43 (by kernel_rfl) (c := body Try.f43) rfl lotsOk)
  Try.func22 (by kernel_rfl) (c := body Try.f22) rfl orderOk)
  Try.func34 (by kernel_rfl) (c := body Try.f34) rfl bookOk)
  Try.func19 (by kernel_rfl) (c := body Try.f19) rfl (dpickOk.norm _))
  Try.func35 (by kernel_rfl) (c := body Try.f35) rfl newOk)
  Try.func42 (by kernel_rfl) (c := body Try.f42) rfl exJOk

def dsaneS : Spec := plain fun
  | [] => outV True (.bool true)
  | _ => none

theorem dsaneOk : SpecSound Try.prog 11 dsaneS := by
  refine soundP (envOf sigDsOk) Try.func11 (c := body Try.f11) rfl (by kernel_rfl) rfl ?_
  intro args out hf hpre
  split at hf <;> try (cases hf; done)
  cases hf
  refine ⟨Nat.le_of_ble_eq_true rfl, initI rfl ?_⟩
  obtain ⟨g1, k1⟩ := book_good noCal_good (3, 50, 60, 1)
  rw [lenF_no] at k1
  have c0 := noCal_ok
  have c1 := g1.cal (by omega)
  have hol : ∀ rs rc, (orderF rs rc exJ).length ≤ 1000000 := fun rs rc => Nat.le_trans (orderF_len rs rc exJ) (Nat.le_of_ble_eq_true rfl)
  have hom : ∀ rs rc, (List.map jLot (orderF rs rc exJ)).length ≤ 1000000 := fun rs rc => by rw [List.length_map]; exact hol rs rc
  have hob : ∀ rs, (batchF rs exJ).length ≤ 1000000 := fun rs => by unfold batchF; simp; omega
  repeat' (first
    | with_reducible refine pN ?_
    | with_reducible refine cN ?_
    | with_reducible refine bN ?_
    | with_reducible refine cE ?_
    | with_reducible refine cR ?_
    | with_reducible refine bR ?_
    | with_reducible refine lE ?_
    | with_reducible refine lR ?_
    | with_reducible refine jE ?_
    | with_reducible refine jR ?_
    | refine bE rfl ?_
    | refine bP rfl ?_
    | refine pC (by first | exact True.intro | omega | (intros; first | exact True.intro | omega) | (simp only [List.length_cons, List.length_nil, Int.toNat_natCast]; omega) | first | exact ⟨c0, Nat.le_of_ble_eq_true rfl, Nat.le_of_ble_eq_true rfl⟩ | exact ⟨c0, noCal_good.sorted⟩) ?_
    | refine seqI rfl ?_
    | refine regI rfl ?_
    | refine scopeI rfl ?_
    | refine blockI rfl ?_
    | refine exitI rfl ?_
    | refine retI rfl ?_
    | refine skipI rfl ?_)
  refine condF rfl ?_
  repeat' (first | with_reducible refine pN ?_ | with_reducible refine cN ?_ | with_reducible refine bN ?_ | with_reducible refine cE ?_ | with_reducible refine cR ?_ | with_reducible refine bR ?_ | with_reducible refine lE ?_ | with_reducible refine lR ?_ | with_reducible refine jE ?_ | with_reducible refine jR ?_ | refine bE rfl ?_ | refine bP rfl ?_ | refine seqI rfl ?_ | refine scopeI rfl ?_ | refine exitI rfl ?_ | refine retI rfl ?_ | refine skipI rfl ?_)
  refine regI rfl ?_
  repeat' (first | with_reducible refine pN ?_ | refine pC (by first | exact True.intro | omega | (intros; first | exact True.intro | omega) | (simp only [List.length_cons, List.length_nil, Int.toNat_natCast]; omega) | first | exact ⟨c1, Nat.le_of_ble_eq_true rfl, Nat.le_of_ble_eq_true rfl⟩) ?_)
  repeat with_reducible refine cN ?_
  repeat' (first | with_reducible refine pN ?_ | with_reducible refine cN ?_ | with_reducible refine bN ?_ | with_reducible refine cE ?_ | with_reducible refine cR ?_ | with_reducible refine bR ?_ | with_reducible refine lE ?_ | with_reducible refine lR ?_ | with_reducible refine jE ?_ | with_reducible refine jR ?_ | refine bE rfl ?_ | refine bP rfl ?_ | refine seqI rfl ?_ | refine scopeI rfl ?_ | refine exitI rfl ?_ | refine retI rfl ?_ | refine skipI rfl ?_)
  refine regI rfl ?_
  repeat' (first | with_reducible refine pN ?_ | refine pC (by first | exact True.intro | omega | (intros; first | exact True.intro | omega) | (simp only [List.length_cons, List.length_nil, Int.toNat_natCast]; omega) | first | exact ⟨c1, Nat.le_of_ble_eq_true rfl, Nat.le_of_ble_eq_true rfl⟩) ?_)
  repeat with_reducible refine cN ?_
  refine seqI rfl ?_
  refine regH [(42, true)] rfl ?_
  repeat' (first | with_reducible refine pN ?_ | refine pC (by first | exact True.intro | exact ⟨Nat.le_of_ble_eq_true rfl, Nat.le_of_ble_eq_true rfl⟩ | exact hol _ _ | exact hom _ _ | exact hob _ | exact fun _ => hol _ _ | exact fun _ => hom _ _ | exact fun _ => hob _ | exact fun _ => ⟨Nat.le_of_ble_eq_true rfl, Nat.le_of_ble_eq_true rfl⟩ | kernel_rfl | exact Nat.le_of_ble_eq_true rfl | exact fun _ => Nat.le_of_ble_eq_true rfl | decide | (show In64 60; omega)  | (show In64 60; decide) | (intros; decide)) ?_)
  with_reducible refine cN ?_
  refine seqI rfl ?_
  refine regH [(78, true)] rfl ?_
  repeat' (first | with_reducible refine pN ?_ | refine pC (by first | exact True.intro | exact ⟨Nat.le_of_ble_eq_true rfl, Nat.le_of_ble_eq_true rfl⟩ | exact hol _ _ | exact hom _ _ | exact hob _ | exact fun _ => hol _ _ | exact fun _ => hom _ _ | exact fun _ => hob _ | exact fun _ => ⟨Nat.le_of_ble_eq_true rfl, Nat.le_of_ble_eq_true rfl⟩ | kernel_rfl | exact Nat.le_of_ble_eq_true rfl | exact fun _ => Nat.le_of_ble_eq_true rfl | decide | (show In64 60; omega)  | (show In64 60; decide) | (intros; decide)) ?_)
  with_reducible refine cN ?_
  repeat' (first
    | with_reducible refine pN ?_
    | with_reducible refine cN ?_
    | with_reducible refine bN ?_
    | with_reducible refine cE ?_
    | with_reducible refine cR ?_
    | with_reducible refine bR ?_
    | with_reducible refine lE ?_
    | with_reducible refine lR ?_
    | with_reducible refine jE ?_
    | with_reducible refine jR ?_
    | refine bE rfl ?_
    | refine bP rfl ?_
    | refine pC (by first | exact True.intro | omega | (intros; first | exact True.intro | omega) | (simp only [List.length_cons, List.length_nil, Int.toNat_natCast]; omega)) ?_
    | refine seqI rfl ?_
    | refine regI rfl ?_
    | refine scopeI rfl ?_
    | refine blockI rfl ?_
    | refine exitI rfl ?_
    | refine retI rfl ?_
    | refine skipI rfl ?_)
  refine endR rfl ?_
  refine ⟨?_, trivial⟩
  kernel_rfl
end Go.AM.Ytkacoophnfljcaa
end

section
set_option linter.all false
namespace Go.AM.Ytkacoophnfljcaa
open Go.Proofs
set_option maxRecDepth 100000
set_option maxHeartbeats 8000000

def sigDl : List (Nat × Spec) := [(11, dsaneS),
  (12, dbookS),
  (17, jobsS),
  (18, rulesS),
  (31, pickP),
  (33, aheadS),
  (24, sameIS),
  (19, dpickS),
  (22, orderS),
  (25, batchS),
  (29, lengthS),
  (35, newS),
  (34, bookS),
  (32, busyS),
  (36, listS),
  (37, lenS)]
theorem sigDlOk : SigOk Try.prog (look sigDl) := sigCons (sigCons (sigCons (sigCons (sigCons (sigCons (sigCons (sigCons (sigCons (sigCons (sigCons (sigCons (sigCons (sigCons (sigCons (sigCons sigNil
  Try.func37 (by kernel_rfl) (c := body Try.f37) rfl lenOk)
  Try.func36 (by kernel_rfl) (c := body Try.f36) rfl listOk)
  Try.func32 (by kernel_rfl) (c := body Try.f32) rfl busyOk)
  Try.func34 (by kernel_rfl) (c := body Try.f34) rfl bookOk)
  Try.func35 (by kernel_rfl) (c := body Try.f35) rfl newOk)
  Try.func29 (by kernel_rfl) (c := body Try.f29) rfl lengthOk)
  Try.func25 (by kernel_rfl) (c := body Try.f25) rfl batchOk)
  Try.func22 (by kernel_rfl) (c := body Try.f22) rfl orderOk)
  Try.func19 (by kernel_rfl) (c := body Try.f19) rfl dpickOk)
  Try.func24 (by kernel_rfl) (c := body Try.f24) rfl sameIOk)
  Try.func33 (by kernel_rfl) (c := body Try.f33) rfl aheadOk)
  Try.func31 (by kernel_rfl) (c := body Try.f31) rfl pickDOk)
  Try.func18 (by kernel_rfl) (c := body Try.f18) rfl rulesOk)
  Try.func17 (by kernel_rfl) (c := body Try.f17) rfl jobsOk)
  Try.func12 (by kernel_rfl) (c := body Try.f12) rfl dbookOk)
  Try.func11 (by kernel_rfl) (c := body Try.f11) rfl dsaneOk
end Go.AM.Ytkacoophnfljcaa
end

section
set_option linter.all false
namespace Go.AM.Ytkacoophnfljcaa
open Go.Proofs

theorem rbF_spec {r rc : Int} (h : ruleOk r) (a b : JobT) : byF r rc a b = decide (ruleV rc r a < ruleV rc r b) := by
  unfold ruleOk at h
  unfold byF
  obtain rfl | rfl | rfl | rfl | rfl | rfl : r = 1 ∨ r = 2 ∨ r = 3 ∨ r = 4 ∨ r = 5 ∨ r = 6 := by omega
  · show (jHot a && !jHot b) = decide ((if jHot a = true then (0 : Int) else 1) < (if jHot b = true then 0 else 1))
    cases jHot a <;> cases jHot b <;> rfl
  · rfl
  · show (decide (jRec a = rc) && decide (jRec b ≠ rc)) = decide ((if jRec a = rc then (0 : Int) else 1) < (if jRec b = rc then 0 else 1))
    by_cases h1 : jRec a = rc <;> by_cases h2 : jRec b = rc <;> simp [h1, h2]
  · rfl
  · rfl
  · show decide (jCnt b < jCnt a) = decide (- jCnt a < - jCnt b)
    by_cases h1 : jCnt b < jCnt a
    · rw [decide_eq_true h1, decide_eq_true (by omega)]
    · rw [decide_eq_false h1, decide_eq_false (by omega)]

theorem aheadF_iff {rc : Int} {a b : JobT} : ∀ {rs : List Int}, (∀ r ∈ rs, ruleOk r) → (aheadF rc a b rs = true ↔ aheadV rc a b rs)
  | [], _ => by
    show decide (jLot a < jLot b) = true ↔ jLot a < jLot b
    exact decide_eq_true_iff
  | r :: rs, h => by
    have ih := aheadF_iff (rc := rc) (a := a) (b := b) (rs := rs) fun r hr => h r (List.mem_cons_of_mem _ hr)
    have h1 := rbF_spec (rc := rc) (h r (by simp)) a b
    have h2 := rbF_spec (rc := rc) (h r (by simp)) b a
    unfold aheadF aheadV
    rw [h1, h2]
    by_cases h3 : ruleV rc r a < ruleV rc r b
    · rw [decide_eq_true h3, decide_eq_false (by omega : ¬ ruleV rc r b < ruleV rc r a)]
      simp [h3]
    · rw [decide_eq_false h3]
      by_cases h4 : ruleV rc r b < ruleV rc r a
      · rw [decide_eq_true h4]
        simp [h3]
        intro h5
        omega
      · rw [decide_eq_false h4]
        have h5 : ruleV rc r a = ruleV rc r b := by omega
        simp [h3, h5]
        exact ih

theorem jobsF_lots (x : List t4.El) : Lots (jobsF x) := by
  unfold Lots jobsF jobsN
  rw [List.pairwise_map]
  refine List.pairwise_iff_getElem.2 fun i j hi hj hij => ?_
  rw [List.length_range] at hi hj
  rw [List.getElem_range, List.getElem_range]
  show (1 + (7 * (i : Int) + 3).tmod 13) ≠ 1 + (7 * (j : Int) + 3).tmod 13
  rw [Int.tmod_eq_emod_of_nonneg (by omega), Int.tmod_eq_emod_of_nonneg (by omega)]
  omega

theorem Lots.nodup {l : List JobT} (h : Lots l) : l.Nodup := List.Pairwise.imp (fun {a b} hab e => hab (by rw [e])) h

theorem jobsF_ok (x : List t4.El) : ∀ j ∈ jobsF x, 1 ≤ jLen j ∧ jLen j ≤ 60 ∧ 1 ≤ jLot j ∧ jLot j ≤ 13 ∧ 1 ≤ jRec j ∧ jRec j ≤ 3 := fun j hj => by
  unfold jobsF jobsN at hj
  obtain ⟨i, hi, rfl⟩ := List.mem_map.1 hj
  rw [List.mem_range] at hi
  have b1 := pick_b (c := (getI x t4.dflt i).2.2.1) (n := 60) (by omega)
  have b2 := pick_b (c := (getI x t4.dflt i).1) (n := 3) (by omega)
  have e : jLot (jobI i (getI x t4.dflt i)) = 1 + (7 * (i : Int) + 3) % 13 := by
    show 1 + (7 * (i : Int) + 3).tmod 13 = _
    rw [Int.tmod_eq_emod_of_nonneg (by omega)]
  refine ⟨?_, ?_, ?_, ?_, ?_, ?_⟩
  · show 1 ≤ 1 + pickF (getI x t4.dflt i).2.2.1 60
    omega
  · show 1 + pickF (getI x t4.dflt i).2.2.1 60 ≤ 60
    omega
  · rw [e]; omega
  · rw [e]; omega
  · show 1 ≤ 1 + pickF (getI x t4.dflt i).1 3
    omega
  · show 1 + pickF (getI x t4.dflt i).1 3 ≤ 3
    omega

theorem getI_mem {l : List JobT} {i : Nat} (h : i < l.length) : getI l jDf i ∈ l := by rw [getI_elem h]; exact List.getElem_mem _

/-- Of sorted jobs the earlier one is ahead. -/
theorem Srt.ahead {rs : List Int} {rc : Int} {l : List JobT} (h : Srt rs rc l) {i k : Nat} (hk : k < i) (hi : i < l.length) : aheadV rc (getI l jDf k) (getI l jDf i) rs := by
  have := List.pairwise_iff_getElem.1 h k i (by omega) hi hk
  rwa [getI_elem hi, getI_elem (by omega)]

def fndJ (l : List JobT) (y : JobT) (k : Nat) : Nat := (l.take k).count y
theorem fndJ_succ {l : List JobT} {y : JobT} {k : Nat} (h : k < l.length) : fndJ l y (k + 1) = if y = getI l jDf k then fndJ l y k + 1 else fndJ l y k := by
  unfold fndJ
  rw [take_succ_getI (d := jDf) h, List.count_append, List.count_singleton]
  by_cases e : y = getI l jDf k
  · rw [if_pos e, if_pos (by simp [e])]
  · rw [if_neg e, if_neg (by simpa using fun h => e h.symm)]
    rfl
theorem fndJ_le (l : List JobT) (y : JobT) (k : Nat) : fndJ l y k ≤ l.length := by
  unfold fndJ
  exact Nat.le_trans List.count_le_length (by simp; omega)
theorem fndJ_one {l : List JobT} {y : JobT} (h : l.Nodup) (hy : y ∈ l) : fndJ l y l.length = 1 := by
  unfold fndJ
  rw [List.take_of_length_le (Nat.le_refl _)]
  rw [List.Nodup.count h, if_pos hy]

/-- Two jobs are one. -/
def eqJ (a b : JobT) : Bool := decide (a.1 = b.1) && (decide (a.2.1 = b.2.1) && (a.2.2.1 == b.2.2.1 && (decide (a.2.2.2.1 = b.2.2.2.1) && (decide (a.2.2.2.2.1 = b.2.2.2.2.1) && (decide (a.2.2.2.2.2.1 = b.2.2.2.2.2.1) && decide (a.2.2.2.2.2.2 = b.2.2.2.2.2.2))))))
theorem eqJ_iff {a b : JobT} : eqJ a b = true ↔ a = b := by
  obtain ⟨a1, a2, a3, a4, a5, a6, a7⟩ := a
  obtain ⟨b1, b2, b3, b4, b5, b6, b7⟩ := b
  simp [eqJ]

theorem length_b (rc : Int) (j : JobT) : jLen j ≤ lengthF rc j ∧ lengthF rc j ≤ jLen j + 20 := by
  unfold lengthF lengthI
  split <;> omega

theorem lots_eq {l : List JobT} (h : Lots l) {a b : JobT} (ha : a ∈ l) (hb : b ∈ l) (e : jLot a = jLot b) : a = b := by
  obtain ⟨i, hi, rfl⟩ := List.getElem_of_mem ha
  obtain ⟨k, hk, rfl⟩ := List.getElem_of_mem hb
  rcases Nat.lt_trichotomy i k with h1 | h1 | h1
  · exact absurd e (List.pairwise_iff_getElem.1 h i k hi hk h1)
  · subst h1; rfl
  · exact absurd e.symm (List.pairwise_iff_getElem.1 h k i hk hi h1)

/-- What fits can be booked at once. -/
theorem fit_free {xss : List (List Bk.El)} (g : CalG xss) {tool now rc o : Int} {j : JobT} (h0 : 0 ≤ tool) (h1 : tool < 60) (hn : 0 ≤ now) (hj : 1 ≤ jLen j ∧ jLen j ≤ 10000) (he : now + lengthF rc j ≤ 1000000)
    (ho : 1 ≤ o ∧ o ≤ 1000000) (h : fitB xss tool now rc j = true) : freeF xss ((tool, now, now + lengthF rc j, o) : Bk.El) = true := by
  rw [fit_iff g h0 h1 hn hj he] at h
  have hb := length_b rc j
  refine free_iff.2 ⟨⟨h0, h1, hn, by show now < now + lengthF rc j; omega, he, ho.1, ho.2⟩, fun c hc hm => ?_⟩
  have : busyF xss tool now (now + lengthF rc j) = true := busy_iff.2 ⟨h0, h1, by omega, c, hc, hm⟩
  rw [this] at h
  cases h
end Go.AM.Ytkacoophnfljcaa
end

section
set_option linter.all false
namespace Go.AM.Ytkacoophnfljcaa.Pl
open Go.Proofs
set_option maxRecDepth 100000
set_option maxHeartbeats 8000000

theorem bkN_memD {xs : List StT} {ow : Int} : ∀ {n : Nat} {c : Bk.El}, c ∈ bkN xs ow n ↔ ∃ i, i < n ∧ (c = bk1 (getI xs tStage.dflt i) ow ∨ c = bk2 (getI xs tStage.dflt i) ow)
  | 0, c => by simp [bkN]
  | n + 1, c => by
    simp only [bkN, List.mem_append, List.mem_singleton, bkN_memD (n := n)]
    constructor
    · rintro ((⟨i, hi, h⟩ | h) | h)
      · exact ⟨i, by omega, h⟩
      · exact ⟨n, by omega, .inl h⟩
      · exact ⟨n, by omega, .inr h⟩
    · rintro ⟨i, hi, h⟩
      rcases Nat.lt_or_ge i n with h1 | h1
      · exact .inl (.inl ⟨i, h1, h⟩)
      · rw [show i = n by omega] at h
        rcases h with h | h
        · exact .inl (.inr h)
        · exact .inr h

/-- All of these bookings are made. -/
structure Has (l : List Bk.El) (n : Nat) (xss : List (List Bk.El)) : Prop where
  g : CalG xss
  len : lenF xss ≤ n
  all : ∀ c ∈ l, inC xss c ∧ GoodB c

theorem Has.zero : Has [] 0 noCal := ⟨noCal_good, by rw [lenF_no]; omega, fun c h => by simp at h⟩
theorem Has.more {l : List Bk.El} {n : Nat} {xss : List (List Bk.El)} (h : Has l n xss) {b : Bk.El} (hf : freeF xss b = true) : Has (l ++ [b]) (n + 1) (Go.AM.Ytkacoophnfljcaa.bookF xss b) := by
  obtain ⟨y1, y2, y3⟩ := book_yes h.g hf
  refine ⟨y1, by have := h.len; omega, fun c hc => ?_⟩
  rcases List.mem_append.1 hc with hc | hc
  · obtain ⟨h1, h2⟩ := h.all c hc
    exact ⟨(y2 c h2.t0).2 (.inr h1), h2⟩
  · rw [List.mem_singleton.1 hc]
    have := (free_iff.1 hf).1
    exact ⟨(y2 _ this.t0).2 (.inl rfl), this⟩
theorem Has.same {l : List Bk.El} {n : Nat} {xss : List (List Bk.El)} (h : Has l n xss) (b : Bk.El) : Has l (n + 1) (Go.AM.Ytkacoophnfljcaa.bookF xss b) := by
  cases hf : freeF xss b with
  | true =>
    have := h.more hf
    exact ⟨this.g, this.len, fun c hc => this.all c (List.mem_append_left _ hc)⟩
  | false =>
    rw [book_no hf]
    exact ⟨h.g, by have := h.len; omega, h.all⟩

theorem apartL {t : Nat} {T : List Bk.El} (h : GoodL t T) {a c : Bk.El} (ha : a ∈ T) (hc : c ∈ T) (hne : a ≠ c) : ¬ meet a c := by
  obtain ⟨i, hi, rfl⟩ := List.getElem_of_mem ha
  obtain ⟨k, hk, rfl⟩ := List.getElem_of_mem hc
  rintro ⟨h1, h2⟩
  rcases Nat.lt_trichotomy i k with h3 | h3 | h3
  · have := List.pairwise_iff_getElem.1 h.ord i k hi hk h3
    omega
  · subst h3; exact hne rfl
  · have := List.pairwise_iff_getElem.1 h.ord k i hk hi h3
    omega
theorem getB_memP {T : List Bk.El} {k : Nat} (hk : k < T.length) : getI T Bk.dflt k ∈ T := by
  have := List.getElem_mem (l := T) (n := k) hk
  simpa [getI, List.getD, List.getElem?_eq_getElem hk] using this

def lplS : Spec := plain fun
  | [.sl (.pair (.int .i64) (.pair (.int .i64) (.pair (.int .i64) (.pair (.int .i64) (.pair (.int .i64) (.int .i64)))))) _, .sl (.pair (.int .i64) (.int .i64)) _, .int .i64 _, .int .i64 _, .sl (.pair (.int .i64) (.pair (.int .i64) (.pair (.int .i64) (.int .i64)))) _, .int .i64 _, .sl (.pair (.int .i64) (.int .i64)) _] => outV True (.bool true)
  | _ => none

def sigLp : List (Nat × Spec) := (38, madeS) :: (39, chosenS) :: (41, runS) :: (40, bookS) :: sigDl
theorem sigLpOk : SigOk Try.prog (look sigLp) := sigCons (sigCons (sigCons (sigCons sigDlOk
  Try.func40 (by kernel_rfl) (c := body Try.f40) rfl bookOk)
  Try.func41 (by kernel_rfl) (c := body Try.f41) rfl runOk)
  Try.func39 (by kernel_rfl) (c := body Try.f39) rfl chosenOk)
  Try.func38 (by kernel_rfl) (c := body Try.f38) rfl madeOk

theorem lplOk : SpecSound Try.prog 10 lplS := by
  refine soundP (envOf sigLpOk) Try.func10 (c := body Try.f10) rfl (by kernel_rfl) rfl ?_
  intro args out hf hpre
  split at hf <;> try (cases hf; done)
  rename_i x y tool at' z n asks
  cases hf
  refine ⟨Nat.le_of_ble_eq_true rfl, initI (args := [.sl tSix x, .sl tTwo y, .int .i64 tool, .int .i64 at', .sl t4 z, .int .i64 n, .sl tTwo asks]) rfl ?_⟩
  have hlen : (mXs x).length ≤ 1000000000000 := by
    obtain ⟨h1, _⟩ := mXs_b x
    have := nst_b x
    omega
  have hposs := chosen_poss (made_valid x) (made_late x) y tool at'
  have hval := made_valid x
  repeat' (first
    | with_reducible refine pN ?_
    | with_reducible refine cN ?_
    | with_reducible refine bN ?_
    | with_reducible refine cE ?_
    | with_reducible refine cR ?_
    | with_reducible refine bR ?_
    | with_reducible refine lE ?_
    | with_reducible refine lR ?_
    | with_reducible refine jE ?_
    | with_reducible refine jR ?_
    | refine bE rfl ?_
    | refine bP rfl ?_
    | refine pC (by first | exact True.intro | omega | (intros; first | exact True.intro | omega) | (simp only [List.length_cons, List.length_nil, Int.toNat_natCast]; omega) | first | exact made_valid _ | exact hlen) ?_
    | refine seqI rfl ?_
    | refine regI rfl ?_
    | refine scopeI rfl ?_
    | refine blockI rfl ?_
    | refine exitI rfl ?_
    | refine retI rfl ?_
    | refine skipI rfl ?_)
  generalize cDu (mXs x) y (mXs x).length = du at *
  generalize cMo (mA x) (mB x) y (mXs x).length = mo at *
  generalize cDe (mA x) (mB x) y = de at *
  generalize cTl (mXs x) tool = tl at *
  generalize cFa (mXs x) tool at' = fa at *
  generalize mE x = e at *
  generalize mA x = a at *
  generalize mB x = bb at *
  generalize mXs x = xs at *
  generalize mWs x = ws at *
  have C := poss_facts hposs
  have hn8 := C.n
  have hbl : bookF e a bb xs ws 50 = bkN xs 50 xs.length := by unfold bookF; rw [hval]; rfl
  rw [hbl]
  have hlen2 : (bkN xs 50 xs.length).length = 2 * xs.length := bkN_length
  have hmem : ∀ c : Bk.El, c ∈ bkN xs 50 xs.length ↔ ∃ i, i < xs.length ∧ (c = bk1 (getI xs tStage.dflt i) 50 ∨ c = bk2 (getI xs tStage.dflt i) 50) := fun c => bkN_memD
  have how : ∀ c ∈ bkN xs 50 xs.length, owB c = 50 := fun c hc => by
    obtain ⟨i, _, rfl | rfl⟩ := (hmem c).1 hc <;> rfl
  generalize bkN xs 50 xs.length = l at *
  refine loopI (σ := Nat × List (List Bk.El)) (fun s => [(18, .ptr 18000 0), (20, .int .i64 s.1)]) (fun s => [(18000, .arr Bk s.2 none)]) (fun s => s.1 ≤ l.length ∧ Has (l.take s.1) s.1 s.2) (fun s => l.length - s.1) (0, noCal) rfl (fun _ => rfl) rfl ?_ ?_ ?_
  · exact ⟨Nat.zero_le _, Has.zero⟩
  · repeat' (first | exact trivial | exact rfl | refine ⟨rfl, ?_⟩ | refine And.intro ?_ ?_)
  rintro ⟨i, xss⟩ ⟨hi, hH⟩
  dsimp only at hi hH ⊢
  have hHl := hH.len
  have hcal := hH.g.cal (by omega)
  repeat' (first
    | with_reducible refine pN ?_
    | with_reducible refine cN ?_
    | with_reducible refine bN ?_
    | with_reducible refine cE ?_
    | with_reducible refine cR ?_
    | with_reducible refine bR ?_
    | with_reducible refine lE ?_
    | with_reducible refine lR ?_
    | with_reducible refine jE ?_
    | with_reducible refine jR ?_
    | refine bE rfl ?_
    | refine bP rfl ?_
    | refine pC (by first | exact True.intro | omega | (intros; first | exact True.intro | omega) | (simp only [List.length_cons, List.length_nil, Int.toNat_natCast]; omega)) ?_
    | refine seqI rfl ?_
    | refine regI rfl ?_
    | refine scopeI rfl ?_
    | refine blockI rfl ?_
    | refine exitI rfl ?_
    | refine retI rfl ?_
    | refine skipI rfl ?_)
  refine condI rfl (fun c1 => ?_) (fun c1 => ?_)
  · simp only [decide_eq_true_eq] at c1
    have hil : i < l.length := by omega
    have hin : ((i : Int)).toNat = i := by omega
    repeat' (first
      | with_reducible refine pN ?_
      | with_reducible refine cN ?_
      | with_reducible refine bN ?_
      | with_reducible refine cE ?_
      | with_reducible refine cR ?_
      | with_reducible refine bR ?_
      | with_reducible refine lE ?_
      | with_reducible refine lR ?_
      | with_reducible refine jE ?_
      | with_reducible refine jR ?_
      | refine bE rfl ?_
      | refine bP rfl ?_
      | refine pC (by first | exact True.intro | omega | (intros; first | exact True.intro | omega) | (simp only [List.length_cons, List.length_nil, Int.toNat_natCast]; omega) | exact ⟨hcal, hH.g.sorted⟩) ?_
      | refine seqI rfl ?_
      | refine regI rfl ?_
      | refine scopeI rfl ?_
      | refine blockI rfl ?_
      | refine exitI rfl ?_
      | refine retI rfl ?_
      | refine skipI rfl ?_)
    refine condI rfl (fun c2 => ?_) (fun c2 => ?_)
    · repeat' (first
        | with_reducible refine pN ?_
        | with_reducible refine cN ?_
        | with_reducible refine bN ?_
        | with_reducible refine cE ?_
        | with_reducible refine cR ?_
        | with_reducible refine bR ?_
        | with_reducible refine lE ?_
        | with_reducible refine lR ?_
        | with_reducible refine jE ?_
        | with_reducible refine jR ?_
        | refine bE rfl ?_
        | refine bP rfl ?_
        | refine pC (by first | exact True.intro | omega | (intros; first | exact True.intro | omega) | (simp only [List.length_cons, List.length_nil, Int.toNat_natCast]; omega)) ?_
        | refine seqI rfl ?_
        | refine regI rfl ?_
        | refine scopeI rfl ?_
        | refine blockI rfl ?_
        | refine exitI rfl ?_
        | refine retI rfl ?_
        | refine skipI rfl ?_)
      refine endR rfl ?_
      repeat' (first | exact trivial | exact rfl | refine ⟨rfl, ?_⟩ | refine And.intro ?_ ?_)
    · simp only [decide_eq_false_iff_not, Decidable.not_not] at c2
      have c2' : errF xss (getI l Bk.dflt i) = 0 := c2
      have hmore := hH.more (errF_zero.1 c2')
      rw [← take_succ_getI (d := Bk.dflt) hil] at hmore
      repeat' (first
        | with_reducible refine pN ?_
        | with_reducible refine cN ?_
        | with_reducible refine bN ?_
        | with_reducible refine cE ?_
        | with_reducible refine cR ?_
        | with_reducible refine bR ?_
        | with_reducible refine lE ?_
        | with_reducible refine lR ?_
        | with_reducible refine jE ?_
        | with_reducible refine jR ?_
        | refine bE rfl ?_
        | refine bP rfl ?_
        | refine pC (by first | exact True.intro | omega | (intros; first | exact True.intro | omega) | (simp only [List.length_cons, List.length_nil, Int.toNat_natCast]; omega)) ?_
        | refine seqI rfl ?_
        | refine regI rfl ?_
        | refine scopeI rfl ?_
        | refine blockI rfl ?_
        | refine exitI rfl ?_
        | refine retI rfl ?_
        | refine skipI rfl ?_)
      refine roundI (i + 1, Go.AM.Ytkacoophnfljcaa.bookF xss (getI l Bk.dflt i)) rfl ?_ ?_ ?_
      · exact ⟨by show i + 1 ≤ l.length; omega, hmore⟩
      · show l.length - (i + 1) < l.length - i
        omega
      · repeat' (first | exact trivial | exact rfl | refine ⟨rfl, ?_⟩ | refine And.intro ?_ ?_)
  · simp only [decide_eq_false_iff_not] at c1
    obtain rfl : i = l.length := by omega
    rw [List.take_length] at hH
    have hjl := jobsF_len z
    obtain ⟨hr, hrl⟩ := rulesF_ok n
    have hlots := jobsF_lots z
    have hjok := jobsF_ok z
    repeat' (first
      | with_reducible refine pN ?_
      | with_reducible refine cN ?_
      | with_reducible refine bN ?_
      | with_reducible refine cE ?_
      | with_reducible refine cR ?_
      | with_reducible refine bR ?_
      | with_reducible refine lE ?_
      | with_reducible refine lR ?_
      | with_reducible refine jE ?_
      | with_reducible refine jR ?_
      | refine bE rfl ?_
      | refine bP rfl ?_
      | refine pC (by first | exact True.intro | omega | (intros; first | exact True.intro | omega) | (simp only [List.length_cons, List.length_nil, Int.toNat_natCast]; omega)) ?_
      | refine seqI rfl ?_
      | refine regI rfl ?_
      | refine scopeI rfl ?_
      | refine blockI rfl ?_
      | refine exitI rfl ?_
      | refine retI rfl ?_
      | refine skipI rfl ?_)
    generalize jobsF z = jl at *
    refine loopI (σ := Nat × List (List Bk.El)) (fun s => [(18, .ptr 18000 0), (22, .int .i64 s.1)]) (fun s => [(18000, .arr Bk s.2 none)]) (fun s => s.1 ≤ asks.length ∧ s.1 ≤ 20 ∧ Has l (l.length + s.1) s.2) (fun s => 20 - s.1) (0, xss) rfl (fun _ => rfl) rfl ?_ ?_ ?_
    · exact ⟨Nat.zero_le _, by omega, hH⟩
    · repeat' (first | exact trivial | exact rfl | refine ⟨rfl, ?_⟩ | refine And.intro ?_ ?_)
    clear hcal hHl hH
    rintro ⟨i, xss⟩ ⟨hi, hi20, hH⟩
    dsimp only at hi hi20 hH ⊢
    have hHl := hH.len
    have hcal := hH.g.cal (by omega)
    repeat' (first
      | with_reducible refine pN ?_
      | with_reducible refine cN ?_
      | with_reducible refine bN ?_
      | with_reducible refine cE ?_
      | with_reducible refine cR ?_
      | with_reducible refine bR ?_
      | with_reducible refine lE ?_
      | with_reducible refine lR ?_
      | with_reducible refine jE ?_
      | with_reducible refine jR ?_
      | refine bE rfl ?_
      | refine bP rfl ?_
      | refine pC (by first | exact True.intro | omega | (intros; first | exact True.intro | omega) | (simp only [List.length_cons, List.length_nil, Int.toNat_natCast]; omega)) ?_
      | refine seqI rfl ?_
      | refine regI rfl ?_
      | refine scopeI rfl ?_
      | refine blockI rfl ?_
      | refine exitI rfl ?_
      | refine retI rfl ?_
      | refine skipI rfl ?_)
    refine condI rfl (fun c3 => ?_) (fun c3 => ?_)
    · have c3' : (decide ((i : Int) < asks.length) && decide ((i : Int) < 20)) = true := c3
      simp only [Bool.and_eq_true, decide_eq_true_eq] at c3'
      have hil : i < asks.length := by omega
      have hin : ((i : Int)).toNat = i := by omega
      have p1 := Go.AM.Ytkacoophnfljcaa.pick_b (c := (getI asks tTwo.dflt i).1) (n := 6) (by omega)
      have p2 := Go.AM.Ytkacoophnfljcaa.pick_b (c := (getI asks tTwo.dflt i).2) (n := 300) (by omega)
      repeat' (first | with_reducible refine pN ?_ | with_reducible refine cN ?_ | with_reducible refine bN ?_ | with_reducible refine cE ?_ | with_reducible refine cR ?_ | with_reducible refine bR ?_ | with_reducible refine lE ?_ | with_reducible refine lR ?_ | with_reducible refine jE ?_ | with_reducible refine jR ?_ | refine bE rfl ?_ | refine bP rfl ?_ | refine seqI rfl ?_ | refine scopeI rfl ?_ | refine blockI rfl ?_ | refine exitI rfl ?_ | refine retI rfl ?_ | refine skipI rfl ?_)
      refine regI rfl ?_
      repeat' (first | with_reducible refine pN ?_ | refine pC (by first | exact True.intro | omega | (intros; first | exact True.intro | omega) | (simp only [List.length_cons, List.length_nil, Int.toNat_natCast]; omega)) ?_)
      repeat with_reducible refine cN ?_
      repeat' (first | with_reducible refine pN ?_ | with_reducible refine cN ?_ | with_reducible refine bN ?_ | with_reducible refine cE ?_ | with_reducible refine cR ?_ | with_reducible refine bR ?_ | with_reducible refine lE ?_ | with_reducible refine lR ?_ | with_reducible refine jE ?_ | with_reducible refine jR ?_ | refine bE rfl ?_ | refine bP rfl ?_ | refine seqI rfl ?_ | refine scopeI rfl ?_ | refine exitI rfl ?_ | refine retI rfl ?_ | refine skipI rfl ?_)
      refine regI rfl ?_
      repeat' (first | with_reducible refine pN ?_ | refine pC (by first | exact True.intro | omega | (intros; first | exact True.intro | omega) | (simp only [List.length_cons, List.length_nil, Int.toNat_natCast]; omega) | first | exact ⟨hcal, by omega, by omega⟩) ?_)
      repeat with_reducible refine cN ?_
      repeat' (first | with_reducible refine pN ?_ | with_reducible refine cN ?_ | with_reducible refine bN ?_ | with_reducible refine cE ?_ | with_reducible refine cR ?_ | with_reducible refine bR ?_ | with_reducible refine lE ?_ | with_reducible refine lR ?_ | with_reducible refine jE ?_ | with_reducible refine jR ?_ | refine bE rfl ?_ | refine bP rfl ?_ | refine seqI rfl ?_ | refine scopeI rfl ?_ | refine exitI rfl ?_ | refine retI rfl ?_ | refine skipI rfl ?_)
      refine regI rfl ?_
      repeat' (first | with_reducible refine pN ?_ | refine pC (by first | exact True.intro | omega | (intros; first | exact True.intro | omega) | (simp only [List.length_cons, List.length_nil, Int.toNat_natCast]; omega) | first | exact ⟨hcal, by omega, by omega⟩) ?_)
      repeat with_reducible refine cN ?_
      rw [hin]
      generalize Go.AM.Ytkacoophnfljcaa.pickF (getI asks tTwo.dflt i).1 6 = tool2 at *
      generalize Go.AM.Ytkacoophnfljcaa.pickF (getI asks tTwo.dflt i).2 300 = now at *
      generalize rulesF n = rs at *
      have hyes := pick_spec (xss := xss) (tool := tool2) (now := now) (rc := 1) hr hlots
      generalize pickJ xss tool2 now rs 1 jl = q at *
      obtain ⟨j, ok⟩ := q
      dsimp only at hyes ⊢
      cases ok with
      | false =>
        refine seqI rfl ?_
        refine regH [(93, false)] rfl ?_
        repeat' (first | with_reducible refine pN ?_ | refine pC (by first | exact True.intro | rfl) ?_)
        with_reducible refine cN ?_
        refine condF rfl ?_
        repeat' (first
          | with_reducible refine pN ?_
          | with_reducible refine cN ?_
          | with_reducible refine bN ?_
          | with_reducible refine cE ?_
          | with_reducible refine cR ?_
          | with_reducible refine bR ?_
          | with_reducible refine lE ?_
          | with_reducible refine lR ?_
          | with_reducible refine jE ?_
          | with_reducible refine jR ?_
          | refine bE rfl ?_
          | refine bP rfl ?_
          | refine pC (by first | exact True.intro | omega | (intros; first | exact True.intro | omega) | (simp only [List.length_cons, List.length_nil, Int.toNat_natCast]; omega)) ?_
          | refine seqI rfl ?_
          | refine regI rfl ?_
          | refine scopeI rfl ?_
          | refine blockI rfl ?_
          | refine exitI rfl ?_
          | refine retI rfl ?_
          | refine skipI rfl ?_)
        refine roundI (i + 1, xss) rfl ?_ ?_ ?_
        · exact ⟨by show i + 1 ≤ asks.length; omega, by show i + 1 ≤ 20; omega, ⟨hH.g, by show lenF xss ≤ l.length + (i + 1); omega, hH.all⟩⟩
        · show 20 - (i + 1) < 20 - i
          omega
        · repeat' (first | exact trivial | exact rfl | refine ⟨rfl, ?_⟩ | refine And.intro ?_ ?_)
      | true =>
        obtain ⟨hm, hf, _⟩ := hyes rfl
        have hj := hjok _ hm
        have hlb := length_b 1 j
        have hfree := fit_free (o := 60) hH.g (by omega) (by omega) (by omega) (by omega) (by omega) (by omega) hf
        have hsame := hH.same ((tool2, now, now + lengthF 1 j, 60) : Bk.El)
        refine seqI rfl ?_
        refine regH [(93, true)] rfl ?_
        repeat' (first | with_reducible refine pN ?_ | refine pC (by first | exact True.intro | rfl | (intros; show In64 (jLen j + 20); omega) | (intros; show In64 (now + lengthF 1 j); omega) | exact fun _ => ⟨hcal, hH.g.sorted⟩ | exact ⟨hcal, hH.g.sorted⟩) ?_)
        with_reducible refine cN ?_
        refine condI rfl (fun c4 => ?_) (fun c4 => ?_)
        · exfalso
          have c4' : (true && decide (errF xss (tool2, now, now + lengthF 1 j, 60) ≠ 0)) = true := c4
          rw [errF_zero.2 hfree] at c4'
          cases c4'
        clear c4
        repeat' (first
          | with_reducible refine pN ?_
          | with_reducible refine cN ?_
          | with_reducible refine bN ?_
          | with_reducible refine cE ?_
          | with_reducible refine cR ?_
          | with_reducible refine bR ?_
          | with_reducible refine lE ?_
          | with_reducible refine lR ?_
          | with_reducible refine jE ?_
          | with_reducible refine jR ?_
          | refine bE rfl ?_
          | refine bP rfl ?_
          | refine pC (by first | exact True.intro | omega | (intros; first | exact True.intro | omega) | (simp only [List.length_cons, List.length_nil, Int.toNat_natCast]; omega)) ?_
          | refine seqI rfl ?_
          | refine regI rfl ?_
          | refine scopeI rfl ?_
          | refine blockI rfl ?_
          | refine exitI rfl ?_
          | refine retI rfl ?_
          | refine skipI rfl ?_)
        refine roundI (i + 1, Go.AM.Ytkacoophnfljcaa.bookF xss (tool2, now, now + lengthF 1 j, 60)) rfl ?_ ?_ ?_
        · exact ⟨by show i + 1 ≤ asks.length; omega, by show i + 1 ≤ 20; omega, hsame⟩
        · show 20 - (i + 1) < 20 - i
          omega
        · repeat' (first | exact trivial | exact rfl | refine ⟨rfl, ?_⟩ | refine And.intro ?_ ?_)
    · obtain ⟨hr0, hR⟩ := run_spec hposs
      repeat' (first
        | with_reducible refine pN ?_
        | with_reducible refine cN ?_
        | with_reducible refine bN ?_
        | with_reducible refine cE ?_
        | with_reducible refine cR ?_
        | with_reducible refine bR ?_
        | with_reducible refine lE ?_
        | with_reducible refine lR ?_
        | with_reducible refine jE ?_
        | with_reducible refine jR ?_
        | refine bE rfl ?_
        | refine bP rfl ?_
        | refine pC (by first | exact True.intro | omega | (intros; first | exact True.intro | omega) | (simp only [List.length_cons, List.length_nil, Int.toNat_natCast]; omega) | exact hlen) ?_
        | refine seqI rfl ?_
        | refine regI rfl ?_
        | refine scopeI rfl ?_
        | refine blockI rfl ?_
        | refine exitI rfl ?_
        | refine retI rfl ?_
        | refine skipI rfl ?_)
      obtain ⟨r, hr⟩ : ∃ r, r = (runF e a bb xs ws du mo de tl fa).1 := ⟨_, rfl⟩
      obtain ⟨kd, hkd⟩ : ∃ r, r = (runF e a bb xs ws du mo de tl fa).2.1.1 := ⟨_, rfl⟩
      obtain ⟨nu, hnu⟩ : ∃ r, r = (runF e a bb xs ws du mo de tl fa).2.1.2 := ⟨_, rfl⟩
      rw [← hr, ← hkd, ← hnu] at hR
      simp only [hr0, ← hr, ← hkd, ← hnu]
      refine condF rfl ?_
      repeat' (first
        | with_reducible refine pN ?_
        | with_reducible refine cN ?_
        | with_reducible refine bN ?_
        | with_reducible refine cE ?_
        | with_reducible refine cR ?_
        | with_reducible refine bR ?_
        | with_reducible refine lE ?_
        | with_reducible refine lR ?_
        | with_reducible refine jE ?_
        | with_reducible refine jR ?_
        | refine bE rfl ?_
        | refine bP rfl ?_
        | refine pC (by first | exact True.intro | omega | (intros; first | exact True.intro | omega) | (simp only [List.length_cons, List.length_nil, Int.toNat_natCast]; omega)) ?_
        | refine seqI rfl ?_
        | refine regI rfl ?_
        | refine scopeI rfl ?_
        | refine blockI rfl ?_
        | refine exitI rfl ?_
        | refine retI rfl ?_
        | refine skipI rfl ?_)
      refine loopI (σ := Nat) (fun j => [(30, .int .i64 j)]) (fun j => []) (fun j => j ≤ r.length) (fun j => r.length - j) 0 rfl (fun _ => rfl) rfl ?_ ?_ ?_
      · exact Nat.zero_le _
      · repeat' (first | exact trivial | exact rfl | refine ⟨rfl, ?_⟩ | refine And.intro ?_ ?_)
      intro j hj
      have hrl := hR.len
      repeat' (first
        | with_reducible refine pN ?_
        | with_reducible refine cN ?_
        | with_reducible refine bN ?_
        | with_reducible refine cE ?_
        | with_reducible refine cR ?_
        | with_reducible refine bR ?_
        | with_reducible refine lE ?_
        | with_reducible refine lR ?_
        | with_reducible refine jE ?_
        | with_reducible refine jR ?_
        | refine bE rfl ?_
        | refine bP rfl ?_
        | refine pC (by first | exact True.intro | omega | (intros; first | exact True.intro | omega) | (simp only [List.length_cons, List.length_nil, Int.toNat_natCast]; omega)) ?_
        | refine seqI rfl ?_
        | refine regI rfl ?_
        | refine scopeI rfl ?_
        | refine blockI rfl ?_
        | refine exitI rfl ?_
        | refine retI rfl ?_
        | refine skipI rfl ?_)
      refine condI rfl (fun c4 => ?_) (fun c4 => ?_)
      · simp only [decide_eq_true_eq] at c4
        have hjr : j < r.length := by omega
        have hjn : ((j : Int)).toNat = j := by omega
        have V := visN C (hR.vis j hjr) (by omega)
        unfold VisN at V
        have hS := C.st j (by omega)
        unfold StOk at hS
        have hA := C.at' j (by omega)
        unfold AtOk at hA
        unfold vis sMt sMs sSt sSs at V
        obtain ⟨c, hc, hct, hcs, hce⟩ : ∃ c ∈ l, tlB c = (getI r tVisit.dflt j).2.1 ∧ stB c ≤ (getI r tVisit.dflt j).2.2.1 ∧ enB c ≥ (getI r tVisit.dflt j).2.2.2 := by
          rcases V.2.1 with h | h
          · refine ⟨bk1 (getI xs tStage.dflt j) 50, (hmem _).2 ⟨j, by omega, .inl rfl⟩, h.1.symm, ?_, ?_⟩
            · show (getI xs tStage.dflt j).2.2.1.2 ≤ _
              omega
            · show _ ≤ (getI xs tStage.dflt j).2.2.1.2 + (getI xs tStage.dflt j).2.1
              omega
          · refine ⟨bk2 (getI xs tStage.dflt j) 50, (hmem _).2 ⟨j, by omega, .inr rfl⟩, h.1.symm, ?_, ?_⟩
            · show (getI xs tStage.dflt j).2.2.2.2 ≤ _
              omega
            · show _ ≤ (getI xs tStage.dflt j).2.2.2.2 + (getI xs tStage.dflt j).2.1
              omega
        obtain ⟨hin, hgo⟩ := hH.all c hc
        have h50 := how c hc
        have t0 := hgo.t0
        have t1 := hgo.t1
        have hl1 : listF xss (getI r tVisit.dflt j).2.1 = toolL xss (tlB c) := by
          unfold listF
          rw [← hct, if_pos (toolB_of t0 t1)]
        have hT := hH.g.tool t0 t1
        have hcT : c ∈ toolL xss (tlB c) := hin
        repeat' (first
          | with_reducible refine pN ?_
          | with_reducible refine cN ?_
          | with_reducible refine bN ?_
          | with_reducible refine cE ?_
          | with_reducible refine cR ?_
          | with_reducible refine bR ?_
          | with_reducible refine lE ?_
          | with_reducible refine lR ?_
          | with_reducible refine jE ?_
          | with_reducible refine jR ?_
          | refine bE rfl ?_
          | refine bP rfl ?_
          | refine pC (by first | exact True.intro | omega | (intros; first | exact True.intro | omega) | (simp only [List.length_cons, List.length_nil, Int.toNat_natCast]; omega) | exact hcal) ?_
          | refine seqI rfl ?_
          | refine regI rfl ?_
          | refine scopeI rfl ?_
          | refine blockI rfl ?_
          | refine exitI rfl ?_
          | refine retI rfl ?_
          | refine skipI rfl ?_)
        rw [hjn, hl1]
        have hT6 : (toolL xss (tlB c)).length ≤ 1000000 := by
          have hlt : (tlB c).toNat < xss.length := by have := hcal.1; omega
          refine hcal.2 _ ?_
          unfold toolL getI
          rw [List.getD_eq_getElem?_getD, List.getElem?_eq_getElem hlt]
          exact List.getElem_mem _
        generalize toolL xss (tlB c) = T at *
        refine loopI (σ := Nat) (fun k => [(32, .int .i64 k)]) (fun k => []) (fun k => k ≤ T.length) (fun k => T.length - k) 0 rfl (fun _ => rfl) rfl ?_ ?_ ?_
        · exact Nat.zero_le _
        · repeat' (first | exact trivial | exact rfl | refine ⟨rfl, ?_⟩ | refine And.intro ?_ ?_)
        intro k hk
        repeat' (first
          | with_reducible refine pN ?_
          | with_reducible refine cN ?_
          | with_reducible refine bN ?_
          | with_reducible refine cE ?_
          | with_reducible refine cR ?_
          | with_reducible refine bR ?_
          | with_reducible refine lE ?_
          | with_reducible refine lR ?_
          | with_reducible refine jE ?_
          | with_reducible refine jR ?_
          | refine bE rfl ?_
          | refine bP rfl ?_
          | refine pC (by first | exact True.intro | omega | (intros; first | exact True.intro | omega) | (simp only [List.length_cons, List.length_nil, Int.toNat_natCast]; omega)) ?_
          | refine seqI rfl ?_
          | refine regI rfl ?_
          | refine scopeI rfl ?_
          | refine blockI rfl ?_
          | refine exitI rfl ?_
          | refine retI rfl ?_
          | refine skipI rfl ?_)
        refine condI rfl (fun c5 => ?_) (fun c5 => ?_)
        · simp only [decide_eq_true_eq] at c5
          have hkl : k < T.length := by omega
          have hkn : ((k : Int)).toNat = k := by omega
          repeat' (first
            | with_reducible refine pN ?_
            | with_reducible refine cN ?_
            | with_reducible refine bN ?_
            | with_reducible refine cE ?_
            | with_reducible refine cR ?_
            | with_reducible refine bR ?_
            | with_reducible refine lE ?_
            | with_reducible refine lR ?_
            | with_reducible refine jE ?_
            | with_reducible refine jR ?_
            | refine bE rfl ?_
            | refine bP rfl ?_
            | refine pC (by first | exact True.intro | omega | (intros; first | exact True.intro | omega) | (simp only [List.length_cons, List.length_nil, Int.toNat_natCast]; omega)) ?_
            | refine seqI rfl ?_
            | refine regI rfl ?_
            | refine scopeI rfl ?_
            | refine blockI rfl ?_
            | refine exitI rfl ?_
            | refine retI rfl ?_
            | refine skipI rfl ?_)
          refine condI rfl (fun c6 => ?_) (fun c6 => ?_)
          · exfalso
            have c6' : ((decide (owB (getI T Bk.dflt k) ≠ 50) && decide (stB (getI T Bk.dflt k) < (getI r tVisit.dflt j).2.2.2)) && decide (enB (getI T Bk.dflt k) > (getI r tVisit.dflt j).2.2.1)) = true := c6
            simp only [Bool.and_eq_true, decide_eq_true_eq] at c6'
            obtain ⟨⟨k1, k2⟩, k3⟩ := c6'
            refine apartL hT (getB_memP hkl) hcT (fun e => ?_) ⟨by omega, by omega⟩
            rw [e] at k1
            exact k1 h50
          repeat' (first
            | with_reducible refine pN ?_
            | with_reducible refine cN ?_
            | with_reducible refine bN ?_
            | with_reducible refine cE ?_
            | with_reducible refine cR ?_
            | with_reducible refine bR ?_
            | with_reducible refine lE ?_
            | with_reducible refine lR ?_
            | with_reducible refine jE ?_
            | with_reducible refine jR ?_
            | refine bE rfl ?_
            | refine bP rfl ?_
            | refine pC (by first | exact True.intro | omega | (intros; first | exact True.intro | omega) | (simp only [List.length_cons, List.length_nil, Int.toNat_natCast]; omega)) ?_
            | refine seqI rfl ?_
            | refine regI rfl ?_
            | refine scopeI rfl ?_
            | refine blockI rfl ?_
            | refine exitI rfl ?_
            | refine retI rfl ?_
            | refine skipI rfl ?_)
          refine roundI (k + 1) rfl ?_ ?_ ?_
          · show k + 1 ≤ T.length
            omega
          · show T.length - (k + 1) < T.length - k
            omega
          · repeat' (first | exact trivial | exact rfl | refine ⟨rfl, ?_⟩ | refine And.intro ?_ ?_)
        · repeat' (first
            | with_reducible refine pN ?_
            | with_reducible refine cN ?_
            | with_reducible refine bN ?_
            | with_reducible refine cE ?_
            | with_reducible refine cR ?_
            | with_reducible refine bR ?_
            | with_reducible refine lE ?_
            | with_reducible refine lR ?_
            | with_reducible refine jE ?_
            | with_reducible refine jR ?_
            | refine bE rfl ?_
            | refine bP rfl ?_
            | refine pC (by first | exact True.intro | omega | (intros; first | exact True.intro | omega) | (simp only [List.length_cons, List.length_nil, Int.toNat_natCast]; omega)) ?_
            | refine seqI rfl ?_
            | refine regI rfl ?_
            | refine scopeI rfl ?_
            | refine blockI rfl ?_
            | refine exitI rfl ?_
            | refine retI rfl ?_
            | refine skipI rfl ?_)
          refine roundI (j + 1) rfl ?_ ?_ ?_
          · show j + 1 ≤ r.length
            omega
          · show r.length - (j + 1) < r.length - j
            omega
          · repeat' (first | exact trivial | exact rfl | refine ⟨rfl, ?_⟩ | refine And.intro ?_ ?_)
      · repeat' (first
          | with_reducible refine pN ?_
          | with_reducible refine cN ?_
          | with_reducible refine bN ?_
          | with_reducible refine cE ?_
          | with_reducible refine cR ?_
          | with_reducible refine bR ?_
          | with_reducible refine lE ?_
          | with_reducible refine lR ?_
          | with_reducible refine jE ?_
          | with_reducible refine jR ?_
          | refine bE rfl ?_
          | refine bP rfl ?_
          | refine pC (by first | exact True.intro | omega | (intros; first | exact True.intro | omega) | (simp only [List.length_cons, List.length_nil, Int.toNat_natCast]; omega)) ?_
          | refine seqI rfl ?_
          | refine regI rfl ?_
          | refine scopeI rfl ?_
          | refine blockI rfl ?_
          | refine exitI rfl ?_
          | refine retI rfl ?_
          | refine skipI rfl ?_)
        refine endR rfl ?_
        repeat' (first | exact trivial | exact rfl | refine ⟨rfl, ?_⟩ | refine And.intro ?_ ?_)
end Go.AM.Ytkacoophnfljcaa.Pl
end
