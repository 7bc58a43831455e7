/- What Chosen returns is possible; what Run's result says. -/
import Derived.Test.YtgpnkpiinmicgaaWkChosen
set_option linter.all false
namespace Go.AM.Ytgpnkpiinmicgaa.Pl
open Go.Proofs

theorem getI_lt {α : Type} {xs : List α} {d : α} {i : Nat} (h : i < xs.length) : getI xs d i = xs[i] := by simp [getI, List.getD, List.getElem?_eq_getElem h]

theorem cDu_at {xs : List StT} {y : List Two} {i : Nat} : ∀ {n : Nat}, i < n → getI (cDu xs y n) 0 i = (stg xs i).1 + pickF (two y i).1 ((stg xs i).2.1 - (stg xs i).1 + 1)
  | 0, h => by omega
  | n + 1, h => by
    by_cases hi : i < n
    · rw [cDu, getI_append_lt (by rw [cDu_len]; exact hi), cDu_at hi]
    · obtain rfl : i = n := by omega
      have := @getI_append_eq Int (cDu xs y i) ((stg xs i).1 + pickF (two y i).1 ((stg xs i).2.1 - (stg xs i).1 + 1)) 0
      rwa [cDu_len] at this
theorem cMo_at {a b : Int} {y : List Two} {i : Nat} : ∀ {n : Nat}, i < n → getI (cMo a b y n) 0 i = a + pickF (two y i).2 (b - a + 1)
  | 0, h => by omega
  | n + 1, h => by
    by_cases hi : i < n
    · rw [cMo, getI_append_lt (by rw [cMo_len]; exact hi), cMo_at hi]
    · obtain rfl : i = n := by omega
      have := @getI_append_eq Int (cMo a b y i) (a + pickF (two y i).2 (b - a + 1)) 0
      rwa [cMo_len] at this

/-- The numbers of a failure are within their bounds. -/
theorem fault_b {e a b : Int} {xs : List StT} {ws : List WiT} (F : Facts e a b xs ws) (tool at' : Int) :
    (cTl xs tool = -1 ∧ cFa xs tool at' = 0) ∨ (0 ≤ cTl xs tool ∧ cTl xs tool ≤ 59 ∧ 0 ≤ cFa xs tool at' ∧ cFa xs tool at' ≤ 1000000 + 50) := by
  have hn := F.n
  have hix := @pick_b (tool.tdiv 4) (xs.length : Int) (by omega)
  have hs := F.st (cIx xs tool).toNat (by unfold cIx; omega)
  have hl := F.st ((xs.length : Int) - 1).toNat (by omega)
  unfold StOk at hs hl
  have p3 := @pick_b at' ((getI xs tStage.dflt ((xs.length : Int) - 1).toNat).2.2.2.2 + 50) (by omega)
  have p4 := @pick_b (at'.tdiv 3) 50 (by decide)
  unfold cTl cFa stg
  by_cases h : 0 < pickF tool 4
  · rw [if_pos h, if_pos h]
    split <;> omega
  · rw [if_neg h, if_neg h]
    exact .inl ⟨rfl, rfl⟩

theorem poss_of {e a b : Int} {xs : List StT} {ws : List WiT} {du mo : List Int} {de tl fa : Int} (hv : validF e a b xs ws = true) (h1 : du.length = xs.length) (h2 : mo.length = xs.length) (h3 : a ≤ de ∧ de ≤ b)
    (h4 : ∀ i, i < xs.length → AtOk (getI xs tStage.dflt i).1 (getI xs tStage.dflt i).2.1 a b (getI du 0 i) (getI mo 0 i)) (h5 : (tl = -1 ∧ fa = 0) ∨ (0 ≤ tl ∧ tl ≤ 59 ∧ 0 ≤ fa ∧ fa ≤ 1000000)) : possF e a b xs ws du mo de tl fa = true := by
  unfold possF
  rw [hv]
  simp only [Bool.true_and, Bool.and_eq_true, Bool.or_eq_true, within_iff, decide_eq_true_eq, List.all_eq_true, List.mem_range]
  refine ⟨⟨⟨⟨h1, h2⟩, h3⟩, fun i hi => ?_⟩, ?_⟩
  · have := h4 i hi
    unfold AtOk at this
    simpa only [fitsAt, Bool.and_eq_true, within_iff] using this
  · rcases h5 with h | h
    · exact .inl h
    · exact .inr ⟨⟨h.1, h.2.1⟩, h.2.2.1, h.2.2.2⟩

theorem chosen_at {e a b : Int} {xs : List StT} {ws : List WiT} (F : Facts e a b xs ws) (y : List Two) : ∀ i, i < xs.length → AtOk (getI xs tStage.dflt i).1 (getI xs tStage.dflt i).2.1 a b (getI (cDu xs y xs.length) 0 i) (getI (cMo a b y xs.length) 0 i) := fun i hi => by
  rw [cDu_at hi, cMo_at hi]
  have hs := F.st i hi
  have hab := F.ab
  unfold StOk at hs
  have p1 := @pick_b (two y i).1 ((stg xs i).2.1 - (stg xs i).1 + 1) (by unfold stg; omega)
  have p2 := @pick_b (two y i).2 (b - a + 1) (by omega)
  unfold stg at p1 ⊢
  unfold AtOk
  omega

theorem cDe_b {e a b : Int} {xs : List StT} {ws : List WiT} (F : Facts e a b xs ws) (y : List Two) : a ≤ cDe a b y ∧ cDe a b y ≤ b := by
  have hab := F.ab
  have := @pick_b ((getI y tTwo.dflt 0).1.tdiv 7) (b - a + 1) (by omega)
  unfold cDe
  split <;> omega

/-- A plan of slots that do not begin too late: so every scenario of Chosen's is possible. -/
theorem chosen_poss {e a b : Int} {xs : List StT} {ws : List WiT} (hv : validF e a b xs ws = true) (hlate : (getI xs tStage.dflt ((xs.length : Int) - 1).toNat).2.2.2.2 + 50 ≤ 1000000 ∧ ∀ i, i < xs.length → (getI xs tStage.dflt i).2.2.1.2 + 50 ≤ 1000000) (y : List Two) (tool at' : Int) :
    possF e a b xs ws (cDu xs y xs.length) (cMo a b y xs.length) (cDe a b y) (cTl xs tool) (cFa xs tool at') = true := by
  have F := valid_facts hv
  refine poss_of hv (cDu_len _) (cMo_len _) (cDe_b F y) (chosen_at F y) ?_
  rcases fault_b F tool at' with h | h
  · exact .inl h
  · refine .inr ⟨h.1, h.2.1, h.2.2.1, ?_⟩
    have hn := F.n
    have hix := @pick_b (tool.tdiv 4) (xs.length : Int) (by omega)
    have h1 := hlate.1
    have h2 := hlate.2 (cIx xs tool).toNat (by unfold cIx; omega)
    have hl := F.st ((xs.length : Int) - 1).toNat (by omega)
    unfold StOk at hl
    have p3 := @pick_b at' ((getI xs tStage.dflt ((xs.length : Int) - 1).toNat).2.2.2.2 + 50) (by omega)
    have p4 := @pick_b (at'.tdiv 3) 50 (by decide)
    unfold cFa stg
    split
    · split <;> omega
    · omega

theorem made_late (x : List Six) : (getI (mXs x) tStage.dflt (((mXs x).length : Int) - 1).toNat).2.2.2.2 + 50 ≤ 1000000 ∧ ∀ i, i < (mXs x).length → (getI (mXs x) tStage.dflt i).2.2.1.2 + 50 ≤ 1000000 := by
  obtain ⟨h1, h2⟩ := mXs_b x
  have hn := nst_b x
  refine ⟨?_, fun i hi => ?_⟩
  · have g := h2 (((mXs x).length : Int) - 1).toNat (by omega)
    unfold SGood FGood at g
    omega
  · have g := h2 i (by omega)
    unfold SGood FGood at g
    omega

/-! ### Run -/

abbrev ViT := Int × Int × Int × Int
def vis (out : List ViT) (j : Nat) : ViT := getI out tVisit.dflt j
def prevE (e : Int) (out : List ViT) : Nat → Int
  | 0 => e
  | j + 1 => (vis out j).2.2.2

/-- Visit j is that of the slot that is reached. -/
def VisR (xs : List StT) (du mo : List Int) (de tl fa e : Int) (out : List ViT) (j : Nat) : Prop :=
  reachedAt xs du mo de tl fa j (prevE e out j) = (((vis out j).2.1, (vis out j).2.2.1), true) ∧ (vis out j).1 = (j : Int) ∧ (vis out j).2.2.2 = (vis out j).2.2.1 + getI du 0 j

def wFr (ws : List WiT) (k : Nat) : Int := (getI ws tWin.dflt k).1
def wTo (ws : List WiT) (k : Nat) : Int := (getI ws tWin.dflt k).2.1
def wLi (ws : List WiT) (k : Nat) : Int := (getI ws tWin.dflt k).2.2
theorem wi_ok {e a b : Int} {xs : List StT} {ws : List WiT} (F : Facts e a b xs ws) (k : Nat) (hk : k < ws.length) : 0 ≤ wFr ws k ∧ wFr ws k < wTo ws k ∧ wTo ws k < (xs.length : Int) ∧ 0 ≤ wLi ws k ∧ wLi ws k ≤ 1000000 := F.ws k hk

def LateAt (ws : List WiT) (out : List ViT) (k : Nat) : Prop := wLi ws k < (vis out (wTo ws k).toNat).2.2.1 - (vis out (wFr ws k).toNat).2.2.2

/-- What a result says. m: how many stages were processed. -/
structure RunR (xs : List StT) (ws : List WiT) (du mo : List Int) (de tl fa e : Int) (r : List ViT) (kind num : Int) : Prop where
  len : r.length ≤ xs.length
  vis : ∀ j, j < r.length → VisR xs du mo de tl fa e r j
  kept : ∀ k, k < ws.length → wTo ws k < r.length → LateAt ws r k → kind = 2 ∧ wTo ws k + 1 = r.length ∧ num ≤ k
  ends : (kind = 0 ∧ num = 0 ∧ r.length = xs.length) ∨ (kind = 1 ∧ num = r.length ∧ r.length < xs.length ∧ (reachedAt xs du mo de tl fa r.length (prevE e r r.length)).2 = false) ∨
    (kind = 2 ∧ 0 ≤ num ∧ num < ws.length ∧ wTo ws num.toNat + 1 = r.length ∧ LateAt ws r num.toNat)

theorem vis_lt {out : List ViT} {v : ViT} {j : Nat} (h : j < out.length) : vis (out ++ [v]) j = vis out j := getI_append_lt h
theorem vis_eq {out : List ViT} {v : ViT} : vis (out ++ [v]) out.length = v := getI_append_eq
theorem prevE_lt {e : Int} {out : List ViT} {v : ViT} {j : Nat} (h : j ≤ out.length) : prevE e (out ++ [v]) j = prevE e out j := by
  cases j with
  | zero => rfl
  | succ j => simp only [prevE]; rw [vis_lt (by omega)]
theorem prevE_eq {e : Int} {out : List ViT} {v : ViT} : prevE e (out ++ [v]) (out.length + 1) = v.2.2.2 := by simp only [prevE]; rw [vis_eq]

theorem idxF_lt {α : Type} {p : α → Bool} {d : α} : ∀ {xs : List α}, ¬ idxF p xs < 0 → (idxF p xs).toNat < xs.length ∧ p (getI xs d (idxF p xs).toNat) = true ∧ ∀ j : Nat, (j : Int) < idxF p xs → p (getI xs d j) = false
  | [], h => by simp [idxF] at h
  | x :: r, h => by
    unfold idxF at h ⊢
    split
    · rename_i hp
      refine ⟨by simp, ?_, fun j hj => by omega⟩
      simpa [getI, List.getD] using hp
    · rename_i hp
      rw [if_neg hp] at h
      split at h
      · exact absurd h (by decide)
      · rename_i h1
        rw [if_neg h1]
        obtain ⟨h2, h3, h4⟩ := idxF_lt (d := d) h1
        have e : (idxF p r + 1).toNat = (idxF p r).toNat + 1 := by omega
        rw [e]
        refine ⟨by simpa using h2, by simpa [getI, List.getD] using h3, fun j hj => ?_⟩
        cases j with
        | zero => simpa [getI, List.getD] using hp
        | succ j =>
          have := h4 j (by omega)
          simpa [getI, List.getD] using this

theorem idxF_neg {α : Type} {p : α → Bool} {d : α} : ∀ {xs : List α}, idxF p xs < 0 → ∀ j, j < xs.length → p (getI xs d j) = false
  | [], _, j, hj => by simp at hj
  | x :: r, h, j, hj => by
    unfold idxF at h
    split at h
    · exact absurd h (by decide)
    · rename_i hp
      split at h
      · rename_i h1
        cases j with
        | zero => simpa [getI, List.getD] using hp
        | succ j => have := idxF_neg (d := d) h1 j (by simpa using hj); simpa [getI, List.getD] using this
      · omega

theorem runG_spec {e a b : Int} {xs : List StT} {ws : List WiT} (F : Facts e a b xs ws) {du mo : List Int} {de tl fa : Int} : ∀ (n : Nat) (out : List ViT) (t : Int), out.length + n = xs.length → t = prevE e out out.length →
    (∀ j, j < out.length → VisR xs du mo de tl fa e out j) → (∀ k, k < ws.length → wTo ws k < out.length → ¬ LateAt ws out k) →
    RunR xs ws du mo de tl fa e (runG xs ws du mo de tl fa n out.length out t).1 (runG xs ws du mo de tl fa n out.length out t).2.1 (runG xs ws du mo de tl fa n out.length out t).2.2
  | 0, out, t, h1, h2, h3, h4 => ⟨by show out.length ≤ _; omega, h3, fun k hk hl hla => absurd hla (h4 k hk hl), .inl ⟨rfl, rfl, by show out.length = _; omega⟩⟩
  | n + 1, out, t, h1, h2, h3, h4 => by
    simp only [runG]
    split
    · rename_i hok
      obtain ⟨r, hr⟩ : ∃ r, r = reachedAt xs du mo de tl fa out.length t := ⟨_, rfl⟩
      rw [← hr] at hok ⊢
      obtain ⟨out', ho⟩ : ∃ out', out' = out ++ [((out.length : Int), r.1.1, r.1.2, r.1.2 + getI du 0 out.length)] := ⟨_, rfl⟩
      have hlen : out'.length = out.length + 1 := by rw [ho]; simp
      have hv : vis out' out.length = ((out.length : Int), r.1.1, r.1.2, r.1.2 + getI du 0 out.length) := by rw [ho]; exact vis_eq
      have hvis : ∀ j, j < out'.length → VisR xs du mo de tl fa e out' j := fun j hj => by
        by_cases hj2 : j < out.length
        · have := h3 j hj2
          unfold VisR at this ⊢
          rw [ho, vis_lt hj2, prevE_lt (by omega)]; exact this
        · obtain rfl : j = out.length := by omega
          unfold VisR
          rw [hv, ho, prevE_lt (Nat.le_refl _), ← h2, ← hr]
          exact ⟨by rw [← hok], rfl, rfl⟩
      have hold : ∀ k, k < ws.length → wTo ws k < out.length → ¬ LateAt ws out' k := fun k hk hl hla => by
        refine h4 k hk hl ?_
        have W := wi_ok F k hk
        unfold LateAt at hla ⊢
        rw [ho, vis_lt (by omega), vis_lt (by omega)] at hla
        exact hla
      have hlw : ∀ k, k < ws.length → (lateW out.length r.1.2 out' (getI ws tWin.dflt k) = true ↔ wTo ws k = out.length ∧ LateAt ws out' k) := fun k hk => by
        unfold LateAt
        show (decide (wTo ws k = (out.length : Int)) && decide (wLi ws k < r.1.2 - (vis out' (wFr ws k).toNat).2.2.2)) = true ↔ _
        simp only [Bool.and_eq_true, decide_eq_true_eq]
        constructor
        · rintro ⟨h5, h6⟩
          refine ⟨h5, ?_⟩
          rw [show (wTo ws k).toNat = out.length by omega, hv]; exact h6
        · rintro ⟨h5, h6⟩
          refine ⟨h5, ?_⟩
          rw [show (wTo ws k).toNat = out.length by omega, hv] at h6; exact h6
      rw [← ho]
      split
      · rename_i hk
        have hnone := idxF_neg (d := tWin.dflt) hk
        have e2 : out.length + 1 = out'.length := hlen.symm
        rw [e2]
        refine runG_spec F n out' _ (by omega) ?_ hvis fun k hk2 hl hla => ?_
        · rw [← e2, ho, prevE_eq]
        · by_cases hl2 : wTo ws k < out.length
          · exact hold k hk2 hl2 hla
          · have := (hlw k hk2).2 ⟨by omega, hla⟩
            rw [hnone k hk2] at this; cases this
      · rename_i hk
        obtain ⟨k1, k2, k3⟩ := idxF_lt (d := tWin.dflt) hk
        have := (hlw _ k1).1 k2
        show RunR xs ws du mo de tl fa e out' 2 (idxF (lateW out.length r.1.2 out') ws)
        refine ⟨by omega, hvis, fun k hk2 hl hla => ?_, .inr (.inr ⟨rfl, by omega, by omega, by rw [hlen]; omega, this.2⟩)⟩
        by_cases hl2 : wTo ws k < out.length
        · exact absurd hla (hold k hk2 hl2)
        · have h6 := (hlw k hk2).2 ⟨by omega, hla⟩
          refine ⟨rfl, by omega, Decidable.byContradiction fun h7 => ?_⟩
          rw [k3 k (by omega)] at h6; cases h6
    · rename_i hok
      refine ⟨by show out.length ≤ _; omega, h3, fun k hk hl hla => absurd hla (h4 k hk hl), .inr (.inl ⟨rfl, rfl, by show out.length < _; omega, ?_⟩)⟩
      rw [← h2]; simpa using hok

theorem run_spec {e a b : Int} {xs : List StT} {ws : List WiT} {du mo : List Int} {de tl fa : Int} (h : possF e a b xs ws du mo de tl fa = true) :
    (runF e a b xs ws du mo de tl fa).2.2 = 0 ∧ RunR xs ws du mo de tl fa e (runF e a b xs ws du mo de tl fa).1 (runF e a b xs ws du mo de tl fa).2.1.1 (runF e a b xs ws du mo de tl fa).2.1.2 := by
  have F := (poss_facts h).toFacts
  unfold runF
  rw [h]
  exact ⟨rfl, runG_spec F xs.length [] e (by simp) rfl (fun j hj => by simp at hj) (fun k hk hl => by have := wi_ok F k hk; simp at hl; omega)⟩

theorem reachedF_ok {mt ms st ss de tl fa t mv du tool start a : Int} (h : reachedF mt ms st ss de tl fa t mv du = ((tool, start), true)) (hmv : a ≤ mv) (hde : a ≤ de) :
    ((tool = mt ∧ start = ms ∧ ¬ (tl = mt ∧ fa < ms + du)) ∨ (tool = st ∧ start = ss)) ∧ t + a ≤ start := by
  unfold reachedF at h
  split at h
  · split at h
    · simp only [Prod.mk.injEq, decide_eq_true_eq] at h; omega
    · split at h
      · simp only [Prod.mk.injEq, decide_eq_true_eq] at h; omega
      · split at h
        · simp at h
        · simp only [Prod.mk.injEq, decide_eq_true_eq] at h; omega
  · simp only [Prod.mk.injEq, decide_eq_true_eq] at h; omega

def sMn (xs : List StT) (j : Nat) : Int := (getI xs tStage.dflt j).1
def sMx (xs : List StT) (j : Nat) : Int := (getI xs tStage.dflt j).2.1
def sMt (xs : List StT) (j : Nat) : Int := (getI xs tStage.dflt j).2.2.1.1
def sMs (xs : List StT) (j : Nat) : Int := (getI xs tStage.dflt j).2.2.1.2
def sSt (xs : List StT) (j : Nat) : Int := (getI xs tStage.dflt j).2.2.2.1
def sSs (xs : List StT) (j : Nat) : Int := (getI xs tStage.dflt j).2.2.2.2

/-- A visit of a result, in numbers. -/
def VisN (i v0 v1 v2 v3 mt ms st ss tl fa du pe a : Int) : Prop :=
  v0 = i ∧ ((v1 = mt ∧ v2 = ms ∧ ¬ (tl = mt ∧ fa < ms + du)) ∨ (v1 = st ∧ v2 = ss)) ∧ pe + a ≤ v2 ∧ v3 = v2 + du ∧ (0 ≤ v2 ∧ v2 ≤ 1000000) ∧ (0 ≤ du ∧ du ≤ 10000) ∧ mt ≠ st

theorem visN {e a b : Int} {xs : List StT} {ws : List WiT} {du mo : List Int} {de tl fa : Int} (C : Chance e a b xs ws du mo de tl fa) {r : List ViT} {j : Nat} (h : VisR xs du mo de tl fa e r j) (hj : j < xs.length) :
    VisN j (vis r j).1 (vis r j).2.1 (vis r j).2.2.1 (vis r j).2.2.2 (sMt xs j) (sMs xs j) (sSt xs j) (sSs xs j) tl fa (getI du 0 j) (prevE e r j) a := by
  obtain ⟨h1, h2, h3⟩ := h
  have hat := C.at' j hj
  have hs := C.st j hj
  have hde := C.deb
  unfold AtOk at hat
  unfold StOk at hs
  have h4 := reachedF_ok (a := a) h1 (by omega) (by omega)
  unfold VisN sMt sMs sSt sSs
  refine ⟨h2, h4.1, h4.2, h3, ?_, ?_, ?_⟩ <;> omega
end Go.AM.Ytgpnkpiinmicgaa.Pl
