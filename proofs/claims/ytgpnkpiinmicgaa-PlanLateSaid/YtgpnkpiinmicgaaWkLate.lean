/- The law PlanLate: her function. -/
import Derived.Test.YtgpnkpiinmicgaaWkKept
set_option linter.all false
set_option linter.all false
namespace Go.AM.Ytgpnkpiinmicgaa
open Go.Proofs
set_option maxRecDepth 100000
set_option maxHeartbeats 8000000

def late1 (nu n l : Int) : Bool := decide (0 ≤ nu) && decide (nu < n) && decide (l = nu)
def late2 (nu n : Int) : Bool := decide (nu < 0) || decide (n ≤ nu)
def late3 (la t l tl k : Int) : Bool := decide (l ≤ t) || (decide (0 ≤ la) && decide (t = tl) && decide (la < k))

/-- The windows' loop: la is the window that is told to be late, or -1. -/
theorem late_key {xs : List StT} {ws : List WiT} {du mo : List Int} {de tl fa e : Int} {r : List ViT} {kd nu la : Int} (hR : RunR xs ws du mo de tl fa e r kd nu) (hla : (kd = 2 ∧ la = nu) ∨ (kd ≠ 2 ∧ la = -1)) {k : Nat} (hk : k < ws.length)
    (h1 : wTo ws k < r.length) (h2 : ¬ (0 ≤ la ∧ wTo ws k = wTo ws la.toNat ∧ la < k)) : LateAt ws r k ↔ (k : Int) = la := by
  constructor
  · intro h
    obtain ⟨h3, h4, h5⟩ := hR.kept k hk h1 h
    rcases hR.ends with h6 | h6 | h6
    · omega
    · omega
    · rcases hla with h7 | h7
      · have e : la.toNat = nu.toNat := by rw [h7.2]
        rw [e] at h2
        have : wTo ws nu.toNat + 1 = (r.length : Int) := h6.2.2.2.1
        omega
      · omega
  · intro h
    rcases hR.ends with h6 | h6 | h6
    · omega
    · omega
    · rcases hla with h7 | h7
      · have e : nu.toNat = k := by omega
        rw [← e]; exact h6.2.2.2.2
      · omega

theorem lateOk : SpecSound Try.prog 4 planS := by
  refine soundP (envOf sigLawOk) Try.func4 (c := body Try.f4) rfl (by kernel_rfl) rfl ?_
  intro args out hf hpre
  split at hf <;> try (cases hf; done)
  rename_i x y tool at'
  cases hf
  refine ⟨Nat.le_of_ble_eq_true rfl, initI (args := [.sl tSix x, .sl tTwo y, .int .i64 tool, .int .i64 at']) rfl ?_⟩
  have hlen := made_len x
  have hposs := chosen_poss (made_valid x) (made_late x) y tool at'
  repeat' (first
    | with_reducible refine pN ?_
    | with_reducible refine cN ?_
    | with_reducible refine bN ?_
    | with_reducible refine cE ?_
    | with_reducible refine cR ?_
    | with_reducible refine bR ?_
    | with_reducible refine lE ?_
    | with_reducible refine lR ?_
    | with_reducible refine jE ?_
    | with_reducible refine jR ?_
    | refine bE rfl ?_
    | refine bP rfl ?_
    | refine pC (by first | exact True.intro | omega | (intros; first | exact True.intro | omega) | (simp only [List.length_cons, List.length_nil, Int.toNat_natCast]; omega) | first | exact made_valid _ | exact hlen) ?_
    | refine seqI rfl ?_
    | refine regI rfl ?_
    | refine scopeI rfl ?_
    | refine blockI rfl ?_
    | refine exitI rfl ?_
    | refine retI rfl ?_
    | refine skipI rfl ?_)
  generalize cDu (mXs x) y (mXs x).length = du at *
  generalize cMo (mA x) (mB x) y (mXs x).length = mo at *
  generalize cDe (mA x) (mB x) y = de at *
  generalize cTl (mXs x) tool = tl at *
  generalize cFa (mXs x) tool at' = fa at *
  generalize mE x = e at *
  generalize mA x = a at *
  generalize mB x = b at *
  generalize mXs x = xs at *
  generalize mWs x = ws at *
  obtain ⟨hr0, hR⟩ := run_spec hposs
  obtain ⟨r, hr⟩ : ∃ r, r = (runF e a b xs ws du mo de tl fa).1 := ⟨_, rfl⟩
  obtain ⟨kd, hkd⟩ : ∃ r, r = (runF e a b xs ws du mo de tl fa).2.1.1 := ⟨_, rfl⟩
  obtain ⟨nu, hnu⟩ : ∃ r, r = (runF e a b xs ws du mo de tl fa).2.1.2 := ⟨_, rfl⟩
  rw [← hr, ← hkd, ← hnu] at hR
  simp only [hr0, ← hr, ← hkd, ← hnu]
  refine condF rfl ?_
  repeat' (first
    | with_reducible refine pN ?_
    | with_reducible refine cN ?_
    | with_reducible refine bN ?_
    | with_reducible refine cE ?_
    | with_reducible refine cR ?_
    | with_reducible refine bR ?_
    | with_reducible refine lE ?_
    | with_reducible refine lR ?_
    | with_reducible refine jE ?_
    | with_reducible refine jR ?_
    | refine bE rfl ?_
    | refine bP rfl ?_
    | refine pC (by first | exact True.intro | omega | (intros; first | exact True.intro | omega) | (simp only [List.length_cons, List.length_nil, Int.toNat_natCast]; omega)) ?_
    | refine seqI rfl ?_
    | refine regI rfl ?_
    | refine scopeI rfl ?_
    | refine blockI rfl ?_
    | refine exitI rfl ?_
    | refine retI rfl ?_
    | refine skipI rfl ?_)
  have C := poss_facts hposs
  have hn := C.n
  have hw := C.w
  refine condI rfl (fun c1 => ?_) (fun c1 => ?_)
  · simp only [decide_eq_true_eq] at c1
    repeat' (first
      | with_reducible refine pN ?_
      | with_reducible refine cN ?_
      | with_reducible refine bN ?_
      | with_reducible refine cE ?_
      | with_reducible refine cR ?_
      | with_reducible refine bR ?_
      | with_reducible refine lE ?_
      | with_reducible refine lR ?_
      | with_reducible refine jE ?_
      | with_reducible refine jR ?_
      | refine bE rfl ?_
      | refine bP rfl ?_
      | refine pC (by first | exact True.intro | omega | (intros; first | exact True.intro | omega) | (simp only [List.length_cons, List.length_nil, Int.toNat_natCast]; omega)) ?_
      | refine seqI rfl ?_
      | refine regI rfl ?_
      | refine scopeI rfl ?_
      | refine blockI rfl ?_
      | refine exitI rfl ?_
      | refine retI rfl ?_
      | refine skipI rfl ?_)
    refine endR rfl ?_
    repeat' (first | exact trivial | exact rfl | refine ⟨rfl, ?_⟩ | refine And.intro ?_ ?_)
    have : late1 nu xs.length r.length = true := by
      unfold late1
      simp only [Bool.and_eq_true, decide_eq_true_eq]
      rcases hR.ends with h | h | h <;> omega
    exact this.symm
  · simp only [decide_eq_false_iff_not] at c1
    repeat' (first
      | with_reducible refine pN ?_
      | with_reducible refine cN ?_
      | with_reducible refine bN ?_
      | with_reducible refine cE ?_
      | with_reducible refine cR ?_
      | with_reducible refine bR ?_
      | with_reducible refine lE ?_
      | with_reducible refine lR ?_
      | with_reducible refine jE ?_
      | with_reducible refine jR ?_
      | refine bE rfl ?_
      | refine bP rfl ?_
      | refine pC (by first | exact True.intro | omega | (intros; first | exact True.intro | omega) | (simp only [List.length_cons, List.length_nil, Int.toNat_natCast]; omega)) ?_
      | refine seqI rfl ?_
      | refine regI rfl ?_
      | refine scopeI rfl ?_
      | refine blockI rfl ?_
      | refine exitI rfl ?_
      | refine retI rfl ?_
      | refine skipI rfl ?_)
    refine joinC (fun la : Int => [(15, .int .i64 la)]) (fun _ => []) (fun la => (kd = 2 ∧ la = nu) ∨ (kd ≠ 2 ∧ la = -1)) (fun _ => rfl) ?_ (fun la hla => ?_)
    · refine condI rfl (fun c2 => ?_) (fun c2 => ?_)
      · simp only [decide_eq_true_eq] at c2
        obtain ⟨h1, h2, h3⟩ : 0 ≤ nu ∧ nu < ws.length ∧ wTo ws nu.toNat + 1 = r.length := by
          rcases hR.ends with h | h | h
          · omega
          · omega
          · exact ⟨h.2.1, h.2.2.1, h.2.2.2.1⟩
        have W := wi_ok C.toFacts nu.toNat (by omega)
        have W2 := W
        unfold wTo wFr wLi at W2
        repeat' (first
          | with_reducible refine pN ?_
          | with_reducible refine cN ?_
          | with_reducible refine bN ?_
          | with_reducible refine cE ?_
          | with_reducible refine cR ?_
          | with_reducible refine bR ?_
          | with_reducible refine lE ?_
          | with_reducible refine lR ?_
          | with_reducible refine jE ?_
          | with_reducible refine jR ?_
          | refine bE rfl ?_
          | refine bP rfl ?_
          | refine pC (by first | exact True.intro | omega | (intros; first | exact True.intro | omega) | (simp only [List.length_cons, List.length_nil, Int.toNat_natCast]; omega)) ?_
          | refine seqI rfl ?_
          | refine regI rfl ?_
          | refine scopeI rfl ?_
          | refine blockI rfl ?_
          | refine exitI rfl ?_
          | refine retI rfl ?_
          | refine skipI rfl ?_)
        refine condI rfl (fun c3 => ?_) (fun c3 => ?_)
        · exfalso
          have c3' : late2 nu ws.length = true := c3
          unfold late2 at c3'
          simp only [Bool.or_eq_true, decide_eq_true_eq] at c3'
          omega
        · repeat' (first
            | with_reducible refine pN ?_
            | with_reducible refine cN ?_
            | with_reducible refine bN ?_
            | with_reducible refine cE ?_
            | with_reducible refine cR ?_
            | with_reducible refine bR ?_
            | with_reducible refine lE ?_
            | with_reducible refine lR ?_
            | with_reducible refine jE ?_
            | with_reducible refine jR ?_
            | refine bE rfl ?_
            | refine bP rfl ?_
            | refine pC (by first | exact True.intro | omega | (intros; first | exact True.intro | omega) | (simp only [List.length_cons, List.length_nil, Int.toNat_natCast]; omega)) ?_
            | refine seqI rfl ?_
            | refine regI rfl ?_
            | refine scopeI rfl ?_
            | refine blockI rfl ?_
            | refine exitI rfl ?_
            | refine retI rfl ?_
            | refine skipI rfl ?_)
          refine condI rfl (fun c4 => ?_) (fun c4 => ?_)
          · exfalso
            have c4' : decide ((r.length : Int) ≠ wTo ws nu.toNat + 1) = true := c4
            rw [decide_eq_true_eq] at c4'
            omega
          · repeat' (first
              | with_reducible refine pN ?_
              | with_reducible refine cN ?_
              | with_reducible refine bN ?_
              | with_reducible refine cE ?_
              | with_reducible refine cR ?_
              | with_reducible refine bR ?_
              | with_reducible refine lE ?_
              | with_reducible refine lR ?_
              | with_reducible refine jE ?_
              | with_reducible refine jR ?_
              | refine bE rfl ?_
              | refine bP rfl ?_
              | refine pC (by first | exact True.intro | omega | (intros; first | exact True.intro | omega) | (simp only [List.length_cons, List.length_nil, Int.toNat_natCast]; omega)) ?_
              | refine seqI rfl ?_
              | refine regI rfl ?_
              | refine scopeI rfl ?_
              | refine blockI rfl ?_
              | refine exitI rfl ?_
              | refine retI rfl ?_
              | refine skipI rfl ?_)
            refine meetI nu rfl (.inl ⟨c2, rfl⟩) ?_
            repeat' (first | exact trivial | exact rfl | refine ⟨rfl, ?_⟩ | refine And.intro ?_ ?_)
      · simp only [decide_eq_false_iff_not] at c2
        have h1 : r.length = xs.length := by
          rcases hR.ends with h | h | h <;> omega
        repeat' (first
          | with_reducible refine pN ?_
          | with_reducible refine cN ?_
          | with_reducible refine bN ?_
          | with_reducible refine cE ?_
          | with_reducible refine cR ?_
          | with_reducible refine bR ?_
          | with_reducible refine lE ?_
          | with_reducible refine lR ?_
          | with_reducible refine jE ?_
          | with_reducible refine jR ?_
          | refine bE rfl ?_
          | refine bP rfl ?_
          | refine pC (by first | exact True.intro | omega | (intros; first | exact True.intro | omega) | (simp only [List.length_cons, List.length_nil, Int.toNat_natCast]; omega)) ?_
          | refine seqI rfl ?_
          | refine regI rfl ?_
          | refine scopeI rfl ?_
          | refine blockI rfl ?_
          | refine exitI rfl ?_
          | refine retI rfl ?_
          | refine skipI rfl ?_)
        refine condI rfl (fun c3 => ?_) (fun c3 => ?_)
        · exfalso
          have c3' : decide ((r.length : Int) ≠ xs.length) = true := c3
          rw [decide_eq_true_eq] at c3'
          omega
        · repeat' (first
            | with_reducible refine pN ?_
            | with_reducible refine cN ?_
            | with_reducible refine bN ?_
            | with_reducible refine cE ?_
            | with_reducible refine cR ?_
            | with_reducible refine bR ?_
            | with_reducible refine lE ?_
            | with_reducible refine lR ?_
            | with_reducible refine jE ?_
            | with_reducible refine jR ?_
            | refine bE rfl ?_
            | refine bP rfl ?_
            | refine pC (by first | exact True.intro | omega | (intros; first | exact True.intro | omega) | (simp only [List.length_cons, List.length_nil, Int.toNat_natCast]; omega)) ?_
            | refine seqI rfl ?_
            | refine regI rfl ?_
            | refine scopeI rfl ?_
            | refine blockI rfl ?_
            | refine exitI rfl ?_
            | refine retI rfl ?_
            | refine skipI rfl ?_)
          refine meetI (-1) rfl (.inr ⟨c2, rfl⟩) ?_
          repeat' (first | exact trivial | exact rfl | refine ⟨rfl, ?_⟩ | refine And.intro ?_ ?_)
    · have hlb : la < 0 ∨ (0 ≤ la ∧ la < ws.length) := by
        rcases hR.ends with h | h | h <;> omega
      repeat' (first
        | with_reducible refine pN ?_
        | with_reducible refine cN ?_
        | with_reducible refine bN ?_
        | with_reducible refine cE ?_
        | with_reducible refine cR ?_
        | with_reducible refine bR ?_
        | with_reducible refine lE ?_
        | with_reducible refine lR ?_
        | with_reducible refine jE ?_
        | with_reducible refine jR ?_
        | refine bE rfl ?_
        | refine bP rfl ?_
        | refine pC (by first | exact True.intro | omega | (intros; first | exact True.intro | omega) | (simp only [List.length_cons, List.length_nil, Int.toNat_natCast]; omega)) ?_
        | refine seqI rfl ?_
        | refine regI rfl ?_
        | refine scopeI rfl ?_
        | refine blockI rfl ?_
        | refine exitI rfl ?_
        | refine retI rfl ?_
        | refine skipI rfl ?_)
      refine loopI (σ := Nat) (fun k => [(16, .int .i64 k)]) (fun k => []) (fun k => k ≤ ws.length) (fun k => ws.length - k) 0 rfl (fun _ => rfl) rfl ?_ ?_ ?_
      · exact Nat.zero_le _
      · repeat' (first | exact trivial | exact rfl | refine ⟨rfl, ?_⟩ | refine And.intro ?_ ?_)
      · intro k hk
        repeat' (first
          | with_reducible refine pN ?_
          | with_reducible refine cN ?_
          | with_reducible refine bN ?_
          | with_reducible refine cE ?_
          | with_reducible refine cR ?_
          | with_reducible refine bR ?_
          | with_reducible refine lE ?_
          | with_reducible refine lR ?_
          | with_reducible refine jE ?_
          | with_reducible refine jR ?_
          | refine bE rfl ?_
          | refine bP rfl ?_
          | refine pC (by first | exact True.intro | omega | (intros; first | exact True.intro | omega) | (simp only [List.length_cons, List.length_nil, Int.toNat_natCast]; omega)) ?_
          | refine seqI rfl ?_
          | refine regI rfl ?_
          | refine scopeI rfl ?_
          | refine blockI rfl ?_
          | refine exitI rfl ?_
          | refine retI rfl ?_
          | refine skipI rfl ?_)
        refine condI rfl (fun c5 => ?_) (fun c5 => ?_)
        · simp only [decide_eq_true_eq] at c5
          have hklt : k < ws.length := by omega
          have W := wi_ok C.toFacts k hklt
          have hdup : wTo ws k < r.length → ¬ (0 ≤ la ∧ wTo ws k = wTo ws la.toNat ∧ la < k) → (LateAt ws r k ↔ (k : Int) = la) := late_key hR hla hklt
          have hlx := hR.len
          repeat' (first
            | with_reducible refine pN ?_
            | with_reducible refine cN ?_
            | with_reducible refine bN ?_
            | with_reducible refine cE ?_
            | with_reducible refine cR ?_
            | with_reducible refine bR ?_
            | with_reducible refine lE ?_
            | with_reducible refine lR ?_
            | with_reducible refine jE ?_
            | with_reducible refine jR ?_
            | refine bE rfl ?_
            | refine bP rfl ?_
            | refine pC (by first | exact True.intro | omega | (intros; first | exact True.intro | omega) | (simp only [List.length_cons, List.length_nil, Int.toNat_natCast]; omega) | (intros; simp only [decide_eq_true_eq, decide_eq_false_iff_not, Int.toNat_natCast] at *; omega)) ?_
            | refine seqI rfl ?_
            | refine regI rfl ?_
            | refine scopeI rfl ?_
            | refine blockI rfl ?_
            | refine exitI rfl ?_
            | refine retI rfl ?_
            | refine skipI rfl ?_)
          refine condI rfl (fun c6 => ?_) (fun c6 => ?_)
          · repeat' (first
              | with_reducible refine pN ?_
              | with_reducible refine cN ?_
              | with_reducible refine bN ?_
              | with_reducible refine cE ?_
              | with_reducible refine cR ?_
              | with_reducible refine bR ?_
              | with_reducible refine lE ?_
              | with_reducible refine lR ?_
              | with_reducible refine jE ?_
              | with_reducible refine jR ?_
              | refine bE rfl ?_
              | refine bP rfl ?_
              | refine pC (by first | exact True.intro | omega | (intros; first | exact True.intro | omega) | (simp only [List.length_cons, List.length_nil, Int.toNat_natCast]; omega)) ?_
              | refine seqI rfl ?_
              | refine regI rfl ?_
              | refine scopeI rfl ?_
              | refine blockI rfl ?_
              | refine exitI rfl ?_
              | refine retI rfl ?_
              | refine skipI rfl ?_)
            refine roundI (k + 1) rfl ?_ ?_ ?_
            · omega
            · show ws.length - (k + 1) < ws.length - k; omega
            · repeat' (first | exact trivial | exact rfl | refine ⟨rfl, ?_⟩ | refine And.intro ?_ ?_)
          · have c6' : late3 la (wTo ws k) r.length (wTo ws la.toNat) k = false := c6
            unfold late3 at c6'
            simp only [Bool.or_eq_false_iff, Bool.and_eq_false_iff, decide_eq_false_iff_not] at c6'
            have hiff := hdup (by omega) (by omega)
            have Vt := visN C (hR.vis (wTo ws k).toNat (by omega)) (by omega)
            have Vf := visN C (hR.vis (wFr ws k).toNat (by omega)) (by omega)
            unfold VisN at Vt Vf
            have W2 := W
            have Vt2 := Vt
            have Vf2 := Vf
            simp only [vis, wTo, wFr] at Vt2 Vf2
            simp only [wTo, wFr, wLi] at W2
            have c62 : ¬ ((r.length : Int) ≤ (getI ws tWin.dflt k).2.1) := c6'.1
            repeat' (first
              | with_reducible refine pN ?_
              | with_reducible refine cN ?_
              | with_reducible refine bN ?_
              | with_reducible refine cE ?_
              | with_reducible refine cR ?_
              | with_reducible refine bR ?_
              | with_reducible refine lE ?_
              | with_reducible refine lR ?_
              | with_reducible refine jE ?_
              | with_reducible refine jR ?_
              | refine bE rfl ?_
              | refine bP rfl ?_
              | refine pC (by first | exact True.intro | omega | (intros; first | exact True.intro | omega) | (simp only [List.length_cons, List.length_nil, Int.toNat_natCast]; omega)) ?_
              | refine seqI rfl ?_
              | refine regI rfl ?_
              | refine scopeI rfl ?_
              | refine blockI rfl ?_
              | refine exitI rfl ?_
              | refine retI rfl ?_
              | refine skipI rfl ?_)
            refine condI rfl (fun c7 => ?_) (fun c7 => ?_)
            · exfalso
              have c7' : (decide ((vis r (wTo ws k).toNat).2.2.1 - (vis r (wFr ws k).toNat).2.2.2 ≤ wLi ws k) == decide ((k : Int) = la)) = true := c7
              unfold LateAt at hiff
              by_cases h : (k : Int) = la
              · have h2 := hiff.2 h
                rw [decide_eq_true h] at c7'
                simp only [beq_true, decide_eq_true_eq] at c7'
                omega
              · have h2 : ¬ (wLi ws k < (vis r (wTo ws k).toNat).2.2.1 - (vis r (wFr ws k).toNat).2.2.2) := fun h3 => h (hiff.1 h3)
                rw [decide_eq_false h] at c7'
                simp only [beq_false, Bool.not_eq_true', decide_eq_false_iff_not] at c7'
                omega
            · repeat' (first
                | with_reducible refine pN ?_
                | with_reducible refine cN ?_
                | with_reducible refine bN ?_
                | with_reducible refine cE ?_
                | with_reducible refine cR ?_
                | with_reducible refine bR ?_
                | with_reducible refine lE ?_
                | with_reducible refine lR ?_
                | with_reducible refine jE ?_
                | with_reducible refine jR ?_
                | refine bE rfl ?_
                | refine bP rfl ?_
                | refine pC (by first | exact True.intro | omega | (intros; first | exact True.intro | omega) | (simp only [List.length_cons, List.length_nil, Int.toNat_natCast]; omega)) ?_
                | refine seqI rfl ?_
                | refine regI rfl ?_
                | refine scopeI rfl ?_
                | refine blockI rfl ?_
                | refine exitI rfl ?_
                | refine retI rfl ?_
                | refine skipI rfl ?_)
              refine roundI (k + 1) rfl ?_ ?_ ?_
              · omega
              · show ws.length - (k + 1) < ws.length - k; omega
              · repeat' (first | exact trivial | exact rfl | refine ⟨rfl, ?_⟩ | refine And.intro ?_ ?_)
        · repeat' (first
            | with_reducible refine pN ?_
            | with_reducible refine cN ?_
            | with_reducible refine bN ?_
            | with_reducible refine cE ?_
            | with_reducible refine cR ?_
            | with_reducible refine bR ?_
            | with_reducible refine lE ?_
            | with_reducible refine lR ?_
            | with_reducible refine jE ?_
            | with_reducible refine jR ?_
            | refine bE rfl ?_
            | refine bP rfl ?_
            | refine pC (by first | exact True.intro | omega | (intros; first | exact True.intro | omega) | (simp only [List.length_cons, List.length_nil, Int.toNat_natCast]; omega)) ?_
            | refine seqI rfl ?_
            | refine regI rfl ?_
            | refine scopeI rfl ?_
            | refine blockI rfl ?_
            | refine exitI rfl ?_
            | refine retI rfl ?_
            | refine skipI rfl ?_)
          refine endR rfl ?_
          repeat' (first | exact trivial | exact rfl | refine ⟨rfl, ?_⟩ | refine And.intro ?_ ?_)
end Go.AM.Ytgpnkpiinmicgaa
