/- Runs compared: shorter moves, other failures, later times. -/
import Derived.Test.YtgpnkpiinmicgaaWkRun
set_option linter.all false
namespace Go.AM.Ytgpnkpiinmicgaa
open Go.Proofs

theorem reachedF_less {mt ms st ss de de' tl fa t mv mv' du : Int} {s : Int × Int} (h : reachedF mt ms st ss de tl fa t mv du = (s, true)) (hm : mv' ≤ mv) (hd : de' ≤ de) : reachedF mt ms st ss de' tl fa t mv' du = (s, true) := by
  unfold reachedF at h ⊢
  split at h
  · rename_i h1
    rw [if_pos h1]
    split at h
    · rename_i h2
      rw [if_pos h2]
      simp only [Prod.mk.injEq, decide_eq_true_eq] at h ⊢
      exact ⟨h.1, by omega⟩
    · rename_i h2
      rw [if_neg h2]
      split at h
      · rename_i h3
        rw [if_pos h3]
        simp only [Prod.mk.injEq, decide_eq_true_eq] at h ⊢
        exact ⟨h.1, by omega⟩
      · rename_i h3
        rw [if_neg h3]
        split at h
        · simp at h
        · rename_i h4
          rw [if_neg (by omega)]
          simp only [Prod.mk.injEq, decide_eq_true_eq] at h ⊢
          exact ⟨h.1, by omega⟩
  · rename_i h1
    rw [if_neg h1]
    simp only [Prod.mk.injEq, decide_eq_true_eq] at h ⊢
    exact ⟨h.1, by omega⟩

/-- Shorter moves and a shorter detour: the same, if it was not late. -/
theorem runG_less {xs : List StT} {ws : List WiT} {du mo mo' : List Int} {de de' tl fa : Int} (hm : ∀ i, i < xs.length → getI mo' 0 i ≤ getI mo 0 i) (hd : de' ≤ de) : ∀ (n i : Nat) (out : List ViT) (t : Int), i + n = xs.length →
    (runG xs ws du mo de tl fa n i out t).2.1 = 0 → runG xs ws du mo' de' tl fa n i out t = runG xs ws du mo de tl fa n i out t
  | 0, i, out, t, _, _ => rfl
  | n + 1, i, out, t, hi, h => by
    simp only [runG] at h ⊢
    obtain ⟨q, hq⟩ : ∃ q, q = reachedAt xs du mo de tl fa i t := ⟨_, rfl⟩
    rw [← hq] at h
    cases hq2 : q.2 with
    | false => rw [hq2] at h; simp at h
    | true =>
      have e : reachedAt xs du mo' de' tl fa i t = q := by
        have hs : q = (q.1, true) := Prod.ext rfl hq2
        rw [hs]
        rw [hs] at hq
        exact reachedF_less hq.symm (hm i (by omega)) hd
      rw [e, ← hq]
      rw [hq2] at h ⊢
      simp only [if_true] at h ⊢
      obtain ⟨k, hk⟩ : ∃ k, k = idxF (lateW i q.1.2 (out ++ [((i : Int), q.1.1, q.1.2, q.1.2 + getI du 0 i)])) ws := ⟨_, rfl⟩
      rw [← hk] at h ⊢
      by_cases h1 : k < 0
      · simp only [if_pos h1] at h ⊢
        exact runG_less hm hd n (i + 1) _ _ (by omega) h
      · simp only [if_neg h1] at h
        simp at h

/-- What is reached alike makes the same run. -/
theorem runG_congr {xs : List StT} {ws : List WiT} {du mo : List Int} {de tl fa tl' fa' : Int} (hr : ∀ i t, i < xs.length → reachedAt xs du mo de tl' fa' i t = reachedAt xs du mo de tl fa i t) : ∀ (n i : Nat) (out : List ViT) (t : Int), i + n = xs.length →
    runG xs ws du mo de tl' fa' n i out t = runG xs ws du mo de tl fa n i out t
  | 0, i, out, t, _ => rfl
  | n + 1, i, out, t, hi => by
    simp only [runG]
    rw [hr i t (by omega)]
    split
    · split
      · exact runG_congr hr n (i + 1) _ _ (by omega)
      · rfl
    · rfl

theorem reachedF_no {mt ms st ss de tl fa t mv du : Int} (h : ¬ (tl = mt ∧ fa < ms + du)) : reachedF mt ms st ss de tl fa t mv du = ((mt, ms), decide (t + mv ≤ ms)) := by
  unfold reachedF; rw [if_neg h]

/-! ### Later times -/

def shS (d : Int) (s : StT) : StT := (s.1, s.2.1, (s.2.2.1.1, s.2.2.1.2 + d), s.2.2.2.1, s.2.2.2.2 + d)
def shV (d : Int) (v : ViT) : ViT := (v.1, v.2.1, v.2.2.1 + d, v.2.2.2 + d)

theorem getI_map {α β : Type} {f : α → β} {xs : List α} {d : α} {e : β} {i : Nat} (h : i < xs.length) : getI (xs.map f) e i = f (getI xs d i) := by
  simp [getI, List.getD, List.getElem?_eq_getElem h]

theorem reachedF_shift {mt ms st ss de tl fa fa' t mv du d : Int} (h : (tl = -1 ∧ 0 ≤ mt) ∨ fa' = fa + d) :
    reachedF mt (ms + d) st (ss + d) de tl fa' (t + d) mv du = (((reachedF mt ms st ss de tl fa t mv du).1.1, (reachedF mt ms st ss de tl fa t mv du).1.2 + d), (reachedF mt ms st ss de tl fa t mv du).2) := by
  rcases h with h | rfl
  · rw [reachedF_no (by omega), reachedF_no (by omega)]
    simp only [Prod.mk.injEq, true_and, decide_eq_decide]
    omega
  · unfold reachedF
    by_cases h1 : tl = mt ∧ fa < ms + du
    · rw [if_pos h1, if_pos (by omega)]
      by_cases h2 : fa ≤ t
      · rw [if_pos h2, if_pos (by omega)]
        simp only [Prod.mk.injEq, true_and, decide_eq_decide]; omega
      · rw [if_neg h2, if_neg (by omega)]
        by_cases h3 : fa < ms
        · rw [if_pos h3, if_pos (by omega)]
          simp only [Prod.mk.injEq, true_and, decide_eq_decide]; omega
        · rw [if_neg h3, if_neg (by omega)]
          by_cases h4 : ms < t + mv
          · rw [if_pos h4, if_pos (by omega)]
          · rw [if_neg h4, if_neg (by omega)]
            simp only [Prod.mk.injEq, true_and, decide_eq_decide]; omega
    · rw [if_neg h1, if_neg (by omega)]
      simp only [Prod.mk.injEq, true_and, decide_eq_decide]; omega

theorem idxF_congr {α : Type} {p q : α → Bool} : ∀ {xs : List α}, (∀ x ∈ xs, p x = q x) → idxF p xs = idxF q xs
  | [], _ => rfl
  | x :: r, h => by
    have h1 := h x (by simp)
    have h2 := idxF_congr (p := p) (q := q) (xs := r) fun y hy => h y (by simp [hy])
    simp only [idxF, h1, h2]

theorem runG_shift {e a b : Int} {xs : List StT} {ws : List WiT} (F : Facts e a b xs ws) {du mo : List Int} {de tl fa fa' d : Int} (h : tl = -1 ∨ fa' = fa + d) : ∀ (n : Nat) (out : List ViT) (t : Int), out.length + n = xs.length →
    runG (xs.map (shS d)) ws du mo de tl fa' n out.length (out.map (shV d)) (t + d) =
      ((runG xs ws du mo de tl fa n out.length out t).1.map (shV d), (runG xs ws du mo de tl fa n out.length out t).2)
  | 0, out, t, _ => rfl
  | n + 1, out, t, hi => by
    have hl : out.length < xs.length := by omega
    have hs := F.st out.length hl
    unfold StOk at hs
    have hr : reachedAt (xs.map (shS d)) du mo de tl fa' out.length (t + d) = (((reachedAt xs du mo de tl fa out.length t).1.1, (reachedAt xs du mo de tl fa out.length t).1.2 + d), (reachedAt xs du mo de tl fa out.length t).2) := by
      unfold reachedAt
      rw [getI_map (d := tStage.dflt) hl]
      refine reachedF_shift ?_
      rcases h with h | h
      · exact .inl ⟨h, hs.2.1.1⟩
      · exact .inr h
    simp only [runG]
    rw [hr]
    generalize reachedAt xs du mo de tl fa out.length t = q
    dsimp only
    cases q.2 with
    | false => simp
    | true =>
      simp only [if_true]
      have he : q.1.2 + d + getI du 0 out.length = q.1.2 + getI du 0 out.length + d := by omega
      rw [he]
      have ho : out.map (shV d) ++ [((out.length : Int), q.1.1, q.1.2 + d, q.1.2 + getI du 0 out.length + d)] = (out ++ [((out.length : Int), q.1.1, q.1.2, q.1.2 + getI du 0 out.length)]).map (shV d) := by simp [shV]
      rw [ho]
      obtain ⟨out', ho'⟩ : ∃ o, o = out ++ [((out.length : Int), q.1.1, q.1.2, q.1.2 + getI du 0 out.length)] := ⟨_, rfl⟩
      have hl' : out'.length = out.length + 1 := by rw [ho']; simp
      rw [← ho']
      have hk : idxF (lateW out.length (q.1.2 + d) (out'.map (shV d))) ws = idxF (lateW out.length q.1.2 out') ws := by
        refine idxF_congr fun w hw => ?_
        obtain ⟨k, hk, rfl⟩ := List.getElem_of_mem hw
        have W := wi_ok F k hk
        have e1 : ws[k] = getI ws tWin.dflt k := (getI_lt hk).symm
        unfold wFr wTo at W
        rw [e1]
        unfold lateW
        by_cases h1 : (getI ws tWin.dflt k).2.1 = (out.length : Int)
        · have h2 : (getI ws tWin.dflt k).1.toNat < out'.length := by
            have h3 : (out.length : Int) = (getI ws tWin.dflt k).2.1 := h1.symm
            omega
          rw [getI_map (d := tVisit.dflt) h2]
          congr 1
          rw [decide_eq_decide]
          show wLi ws k < q.1.2 + d - ((getI out' tVisit.dflt (wFr ws k).toNat).2.2.2 + d) ↔ wLi ws k < q.1.2 - (getI out' tVisit.dflt (wFr ws k).toNat).2.2.2
          omega
        · rw [decide_eq_false h1]; rfl
      rw [hk]
      split
      · rw [← hl']
        exact runG_shift F h n out' _ (by omega)
      · rfl
end Go.AM.Ytgpnkpiinmicgaa
