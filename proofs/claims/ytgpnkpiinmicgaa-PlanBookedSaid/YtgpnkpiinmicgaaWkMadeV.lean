/- What Made returns is a valid plan. -/
import Derived.Test.YtgpnkpiinmicgaaWkMade
set_option linter.all false
namespace Go.AM.Ytgpnkpiinmicgaa.Pl
open Go.Proofs

/-- The windows are valid, behind l, among n stages. -/
def okW (n : Nat) : WiT → List WiT → Bool
  | _, [] => true
  | l, w :: r => winF n l w && okW n w r

theorem okW_any {n : Nat} : ∀ {ws : List WiT} {l : WiT}, (!(duo l ws).any (badW n)) = okW n l ws
  | [], _ => rfl
  | w :: r, l => by
    have := okW_any (n := n) (ws := r) (l := w)
    simp only [duo, okW, List.any_cons, Bool.not_or, badW, Bool.not_not] at this ⊢
    rw [← this]

def lastW (l : WiT) : List WiT → WiT
  | [] => l
  | w :: r => lastW w r

theorem okW_append {n : Nat} : ∀ {a b : List WiT} {l : WiT}, okW n l (a ++ b) = (okW n l a && okW n (lastW l a) b)
  | [], b, l => by simp [okW, lastW]
  | w :: r, b, l => by simp [okW, lastW, okW_append (a := r), Bool.and_assoc]
theorem lastW_append : ∀ {a b : List WiT} {l : WiT}, lastW l (a ++ b) = lastW (lastW l a) b
  | [], b, l => rfl
  | w :: r, b, l => by simp [lastW, lastW_append (a := r)]

/-- l comes before (i, k). -/
def Lex2 (l0 l1 i k : Int) : Prop := l0 < i ∨ (l0 = i ∧ l1 < k)

def winI (n : Nat) (l0 l1 a b c : Int) : Bool := (decide (l0 < a) || (decide (l0 = a) && decide (l1 < b))) && decide (0 ≤ a) && decide (a < b) && decide (b < (n : Int)) && withinF c 0 1000000
theorem winF_I {n : Nat} {l w : WiT} : winF n l w = winI n l.1 l.2.1 w.1 w.2.1 w.2.2 := rfl

theorem wL_b {x : List Six} {n i k : Nat} (hg : ∀ j, j < n → SGood (getI (mXs x) tStage.dflt j) 600) (hi : i < n) (hk : k < n) : wL x (mXs x) i k ≤ 1000000 := by
  have g1 := hg i hi
  have g2 := hg k hk
  unfold SGood FGood at g1 g2
  unfold wL
  have h1 := @pick_b (six x k).2.2.2.2.2 3 (by decide)
  have h2 := @pick_b (six x k).2.2.2.2.2 150 (by decide)
  split <;> omega

theorem wK_ok {x : List Six} {n i : Nat} (hg : ∀ j, j < n → SGood (getI (mXs x) tStage.dflt j) 600) (hi : i < n) (l : WiT) (hl : Lex2 l.1 l.2.1 i (i + 1)) : ∀ j : Nat, j ≤ n - (i + 1) →
    okW n l (wK x (mXs x) i j) = true ∧ Lex2 (lastW l (wK x (mXs x) i j)).1 (lastW l (wK x (mXs x) i j)).2.1 i ((i + 1 + j : Nat) : Int)
  | 0, _ => ⟨rfl, by simpa [wK, lastW] using hl⟩
  | j + 1, hj => by
    obtain ⟨h1, h2⟩ := wK_ok hg hi l hl j (by omega)
    have hw := wL_b (k := i + 1 + j) hg hi (by omega)
    simp only [wK, okW_append, lastW_append, h1, Bool.true_and]
    generalize lastW l (wK x (mXs x) i j) = m at h2 ⊢
    unfold wAt
    split
    · simp only [okW, lastW, winF_I, winI, withinF, Bool.and_true, Bool.and_eq_true, Bool.or_eq_true, decide_eq_true_eq]
      unfold Lex2 at h2 ⊢
      refine ⟨⟨⟨⟨⟨?_, ?_⟩, ?_⟩, ?_⟩, ?_⟩, ?_⟩ <;> omega
    · refine ⟨rfl, ?_⟩
      unfold Lex2 at h2 ⊢
      simp only [lastW]
      omega

theorem wO_ok {x : List Six} {n : Nat} (hg : ∀ j, j < n → SGood (getI (mXs x) tStage.dflt j) 600) : ∀ i : Nat, i ≤ n →
    okW n (-1, 0, 0) (wO x (mXs x) n i) = true ∧ Lex2 (lastW (-1, 0, 0) (wO x (mXs x) n i)).1 (lastW (-1, 0, 0) (wO x (mXs x) n i)).2.1 i (i + 1)
  | 0, _ => ⟨rfl, .inl (by show (-1 : Int) < 0; decide)⟩
  | i + 1, hi => by
    obtain ⟨h1, h2⟩ := wO_ok hg i (by omega)
    obtain ⟨h3, h4⟩ := wK_ok hg (i := i) (by omega) _ h2 (n - (i + 1)) (Nat.le_refl _)
    simp only [wO, okW_append, lastW_append, h1, h3, Bool.true_and, true_and]
    generalize lastW (lastW (-1, 0, 0) (wO x (mXs x) n i)) (wK x (mXs x) i (n - (i + 1))) = m at h4 ⊢
    unfold Lex2 at h4 ⊢
    omega

theorem nst_b (x : List Six) : 1 ≤ nst x ∧ nst x ≤ 5 := by unfold nst; omega
theorem mXs_b (x : List Six) : (mXs x).length = nst x ∧ ∀ j, j < nst x → SGood (getI (mXs x) tStage.dflt j) 600 := by
  obtain ⟨h1, _, _, h2⟩ := mst_b x (nst x) (nst_b x).2
  exact ⟨h1, h2⟩

theorem made_valid (x : List Six) : validF (mE x) (mA x) (mB x) (mXs x) (mWs x) = true := by
  obtain ⟨h1, h2⟩ := mXs_b x
  have hn := nst_b x
  have hE := mE_b x
  have hA := mA_b x
  have hB := mB_b x
  have hw := (wO_ok h2 (nst x) (Nat.le_refl _)).1
  have hwl := wO_len (x := x) (xs := mXs x) (n := nst x) (nst x)
  have hlen : (mWs x).length ≤ 20 := by
    have key : ∀ i, i ≤ nst x → (wO x (mXs x) (nst x) i).length ≤ i * nst x - i := by
      intro i
      induction i with
      | zero => intro _; simp [wO]
      | succ i ih =>
        intro hi
        have a := ih (by omega)
        have b := wK_len (x := x) (xs := mXs x) (i := i) (nst x - (i + 1))
        simp only [wO, List.length_append, Nat.succ_mul]
        have c : i ≤ i * nst x := Nat.le_mul_of_pos_right _ (by omega)
        omega
    have a := key (nst x) (Nat.le_refl _)
    have b : nst x = 1 ∨ nst x = 2 ∨ nst x = 3 ∨ nst x = 4 ∨ nst x = 5 := by omega
    show (wO x (mXs x) (nst x) (nst x)).length ≤ 20
    rcases b with b | b | b | b | b <;> rw [b] at a ⊢ <;> omega
  unfold validF
  rw [okW_any]
  have e1 : okW (mXs x).length (-1, 0, 0) (mWs x) = true := by rw [h1]; exact hw
  rw [e1]
  have e2 : (mXs x).any badSt = false := by
    rw [List.any_eq_false]
    intro s hs
    obtain ⟨j, hj, rfl⟩ := List.getElem_of_mem hs
    have g := h2 j (by omega)
    have e : getI (mXs x) tStage.dflt j = (mXs x)[j] := by simp [getI, List.getD, List.getElem?_eq_getElem hj]
    rw [e] at g
    unfold SGood FGood at g
    simp only [badSt, isStageF, isSlotF, withinF, Bool.not_eq_true', Bool.not_eq_false, Bool.and_eq_true, decide_eq_true_eq]
    refine ⟨⟨⟨⟨⟨?_, ?_⟩, ?_⟩, ⟨?_, ?_⟩, ?_, ?_⟩, ⟨?_, ?_⟩, ?_, ?_⟩, ?_⟩ <;> omega
  rw [e2]
  simp only [withinF, Bool.not_false, Bool.and_true, Bool.and_eq_true, decide_eq_true_eq]
  rw [h1]
  refine ⟨⟨⟨⟨⟨?_, ?_⟩, ?_, ?_⟩, ?_⟩, ?_, ?_⟩, ?_⟩ <;> omega
end Go.AM.Ytgpnkpiinmicgaa.Pl
