/- The law PlanShift: her function. -/
import Derived.Test.YtgpnkpiinmicgaaWkFail
set_option linter.all false
namespace Go.AM.Ytgpnkpiinmicgaa
open Go.Proofs
set_option maxRecDepth 100000
set_option maxHeartbeats 8000000

/-- The first i stages later by d. -/
def shN (d : Int) (xs : List StT) (i : Nat) : List StT := xs.mapIdx fun j s => if j < i then shS d s else s
/-- A stage whose main slot is later. -/
def shM (d : Int) (s : StT) : StT := (s.1, s.2.1, (s.2.2.1.1, s.2.2.1.2 + d), s.2.2.2.1, s.2.2.2.2)

/-- A stage whose spare slot is later. -/
def shQ (d : Int) (s : StT) : StT := (s.1, s.2.1, (s.2.2.1.1, s.2.2.1.2), s.2.2.2.1, s.2.2.2.2 + d)

theorem shN_len {d : Int} {xs : List StT} {i : Nat} : (shN d xs i).length = xs.length := by simp [shN]
theorem shN_zero {d : Int} {xs : List StT} : shN d xs 0 = xs := by
  refine List.ext_getElem (by simp [shN]) fun j h1 h2 => ?_
  simp [shN]
theorem shN_all {d : Int} {xs : List StT} : shN d xs xs.length = xs.map (shS d) := by
  refine List.ext_getElem (by simp [shN]) fun j h1 h2 => ?_
  simp only [shN, List.getElem_mapIdx, List.getElem_map]
  rw [if_pos (by simpa [shN] using h1)]
theorem shN_get {d : Int} {xs : List StT} {i : Nat} (h : i < xs.length) : getI (shN d xs i) tStage.dflt i = getI xs tStage.dflt i := by
  rw [getI_lt (by rw [shN_len]; exact h), getI_lt h]
  simp [shN]
theorem getI_set_eq {α : Type} {xs : List α} {i : Nat} {v d : α} (h : i < xs.length) : getI (xs.set i v) d i = v := by
  simp [getI, List.getD, h]
theorem shN_set {d : Int} {xs : List StT} {i : Nat} (h : i < xs.length) : (shN d xs i).set i (shS d (getI xs tStage.dflt i)) = shN d xs (i + 1) := by
  refine List.ext_getElem (by simp [shN]) fun j h1 h2 => ?_
  rw [List.getElem_set]
  simp only [shN, List.getElem_mapIdx]
  by_cases hj : i = j
  · subst hj
    rw [if_pos rfl, if_pos (by omega), getI_lt h]
  · rw [if_neg hj]
    by_cases h3 : j < i
    · rw [if_pos h3, if_pos (by omega)]
    · rw [if_neg h3, if_neg (by omega)]

theorem valid_shift {e a b d : Int} {xs : List StT} {ws : List WiT} (hv : validF e a b xs ws = true) (hd : 0 ≤ d ∧ d < 10000) (he : e ≤ 100) (hsm : ∀ i, i < xs.length → 0 ≤ sMs xs i ∧ sMs xs i ≤ 700 ∧ 0 ≤ sSs xs i ∧ sSs xs i ≤ 700 ∧ sMx xs i ≤ 31) :
    validF (e + d) a b (xs.map (shS d)) ws = true := by
  have F := valid_facts hv
  have hF := F.e
  unfold validF at hv ⊢
  simp only [List.length_map, Bool.and_eq_true, within_iff, decide_eq_true_eq, Bool.not_eq_true'] at hv ⊢
  obtain ⟨⟨⟨⟨⟨h1, h2⟩, h3⟩, h4⟩, h5⟩, h6, h7⟩ := hv
  refine ⟨⟨⟨⟨⟨by omega, h2⟩, h3⟩, h4⟩, h5⟩, ?_, h7⟩
  rw [List.any_eq_false]
  intro s hs
  obtain ⟨s0, hs0, rfl⟩ := List.mem_map.1 hs
  obtain ⟨i, hi, rfl⟩ := List.getElem_of_mem hs0
  have S := F.st i hi
  have M := hsm i hi
  unfold StOk at S
  unfold sMs sSs sMx at M
  rw [getI_lt hi] at S M
  show ¬ (!isStageF xs[i].1 xs[i].2.1 xs[i].2.2.1.1 (xs[i].2.2.1.2 + d) xs[i].2.2.2.1 (xs[i].2.2.2.2 + d)) = true
  simp only [isStageF, isSlotF, withinF, Bool.not_eq_true', Bool.not_eq_false, Bool.and_eq_true, decide_eq_true_eq]
  refine ⟨⟨⟨⟨⟨?_, ?_⟩, ?_⟩, ⟨?_, ?_⟩, ?_, ?_⟩, ⟨?_, ?_⟩, ?_, ?_⟩, ?_⟩ <;> omega

theorem shiftOk : SpecSound Try.prog 7 plan5S := by
  refine soundP (envOf sigLaw2Ok) Try.func7 (c := body Try.f7) rfl (by kernel_rfl) rfl ?_
  intro args out hf hpre
  split at hf <;> try (cases hf; done)
  rename_i x y tool at' by'
  cases hf
  refine ⟨Nat.le_of_ble_eq_true rfl, initI (args := [.sl tSix x, .sl tTwo y, .int .i64 tool, .int .i64 at', .int .i64 by']) rfl ?_⟩
  have hlen := made_len x
  have hposs := chosen_poss (made_valid x) (made_late x) y tool at'
  have hsm := made_small x
  have hv := made_valid x
  have hfl : cFa (mXs x) tool at' ≤ 2000 := by
    have h1 := mXs_b x
    have hn := nst_b x
    have hix := @pick_b (tool.tdiv 4) ((mXs x).length : Int) (by omega)
    have p1 := hsm (cIx (mXs x) tool).toNat (by unfold cIx; omega)
    have p2 := hsm (((mXs x).length : Int) - 1).toNat (by omega)
    unfold sMs sSs at p1 p2
    have p3 := @pick_b at' ((getI (mXs x) tStage.dflt (((mXs x).length : Int) - 1).toNat).2.2.2.2 + 50) (by omega)
    have p4 := @pick_b (at'.tdiv 3) 50 (by decide)
    unfold cFa stg
    split
    · split <;> omega
    · omega
  have hEb := mE_b x
  have hdb := @pick_b by' 10000 (by decide)
  repeat' (first
    | with_reducible refine pN ?_
    | with_reducible refine cN ?_
    | with_reducible refine bN ?_
    | with_reducible refine cE ?_
    | with_reducible refine cR ?_
    | with_reducible refine bR ?_
    | with_reducible refine lE ?_
    | with_reducible refine lR ?_
    | with_reducible refine jE ?_
    | with_reducible refine jR ?_
    | refine bE rfl ?_
    | refine bP rfl ?_
    | refine pC (by first | exact True.intro | omega | (intros; first | exact True.intro | omega) | (simp only [List.length_cons, List.length_nil, Int.toNat_natCast]; omega) | first | exact made_valid _ | exact hlen) ?_
    | refine seqI rfl ?_
    | refine regI rfl ?_
    | refine scopeI rfl ?_
    | refine blockI rfl ?_
    | refine exitI rfl ?_
    | refine retI rfl ?_
    | refine skipI rfl ?_)
  generalize mXs x = xs at *
  generalize mE x = e at *
  generalize mA x = a at *
  generalize mB x = b at *
  generalize mWs x = ws at *
  generalize pickF by' 10000 = d at *
  have C := poss_facts hposs
  have hn := C.n
  refine loopI (σ := Nat) (fun i => [(14, .int .i64 i)]) (fun i => [(key 30 0, .seq tStage (shN d xs i))]) (fun i => i ≤ xs.length) (fun i => xs.length - i) 0 rfl (fun _ => rfl) rfl ?_ ?_ ?_
  · exact Nat.zero_le _
  · repeat' (first | exact trivial | exact rfl | refine ⟨rfl, ?_⟩ | refine And.intro ?_ ?_)
    exact shN_zero
  · intro i hi
    have hsl := @shN_len d xs i
    repeat' (first
      | with_reducible refine pN ?_
      | with_reducible refine cN ?_
      | with_reducible refine bN ?_
      | with_reducible refine cE ?_
      | with_reducible refine cR ?_
      | with_reducible refine bR ?_
      | with_reducible refine lE ?_
      | with_reducible refine lR ?_
      | with_reducible refine jE ?_
      | with_reducible refine jR ?_
      | refine bE rfl ?_
      | refine bP rfl ?_
      | refine pC (by first | exact True.intro | omega | (intros; first | exact True.intro | omega) | (simp only [List.length_cons, List.length_nil, Int.toNat_natCast]; omega)) ?_
      | refine seqI rfl ?_
      | refine regI rfl ?_
      | refine scopeI rfl ?_
      | refine blockI rfl ?_
      | refine exitI rfl ?_
      | refine retI rfl ?_
      | refine skipI rfl ?_)
    refine condI rfl (fun c1 => ?_) (fun c1 => ?_)
    · simp only [decide_eq_true_eq] at c1
      have hilt : i < xs.length := by omega
      have hm := hsm i hilt
      have hg := shN_get (d := d) hilt
      unfold sMs sSs sMx at hm
      rw [← hg] at hm
      have hset : getI ((shN d xs i).set i (shM d (getI xs tStage.dflt i))) tStage.dflt i = shM d (getI xs tStage.dflt i) := getI_set_eq (by omega)
      have hset2 : (getI ((shN d xs i).set i (shM d (getI xs tStage.dflt i))) tStage.dflt i).2.2.2.2 = (getI (shN d xs i) tStage.dflt i).2.2.2.2 := by rw [hset, hg]; rfl
      have hsl2 : ((shN d xs i).set i (shM d (getI xs tStage.dflt i))).length = xs.length := by rw [List.length_set, hsl]
      refine skipI rfl (cN (seqI rfl (blockI rfl ?_)))
      refine seqI rfl ?_
      refine regI rfl ?_
      repeat' (first | with_reducible refine pN ?_ | refine pC (by first | omega | (simp only [Int.toNat_natCast]; omega)) ?_)
      refine cN ?_
      refine tidyI [] [(key 30 0, .seq tStage ((shN d xs i).set i (shM d (getI xs tStage.dflt i))))] rfl rfl ?_ ?_
      · repeat' (first | exact trivial | with_reducible exact rfl | refine And.intro ?_ ?_)
        show _ = (shN d xs i).set i (shM d (getI (shN d xs i) tStage.dflt i))
        rw [hg]
      · repeat' (first
          | with_reducible refine pN ?_
          | with_reducible refine cN ?_
          | with_reducible refine bN ?_
          | with_reducible refine cE ?_
          | with_reducible refine cR ?_
          | with_reducible refine bR ?_
          | with_reducible refine lE ?_
          | with_reducible refine lR ?_
          | with_reducible refine jE ?_
          | with_reducible refine jR ?_
          | refine bE rfl ?_
          | refine bP rfl ?_
          | refine pC (by first | exact True.intro | omega | (intros; first | exact True.intro | omega) | (simp only [List.length_cons, List.length_nil, Int.toNat_natCast]; omega) | (simp only [Int.toNat_natCast]; omega)) ?_
          | refine seqI rfl ?_
          | refine regI rfl ?_
          | refine scopeI rfl ?_
          | refine blockI rfl ?_
          | refine exitI rfl ?_
          | refine retI rfl ?_
          | refine skipI rfl ?_)
        refine roundI (i + 1) rfl ?_ ?_ ?_
        · omega
        · show xs.length - (i + 1) < xs.length - i; omega
        · repeat' (first | exact trivial | with_reducible exact rfl | refine And.intro ?_ ?_)
          · rfl
          rw [← shN_set hilt]
          show _ = ((shN d xs i).set i (shM d (getI xs tStage.dflt i))).set i (shQ d (getI ((shN d xs i).set i (shM d (getI xs tStage.dflt i))) tStage.dflt i))
          rw [hset, List.set_set]
          rfl
    · simp only [decide_eq_false_iff_not] at c1
      obtain rfl : i = xs.length := by omega
      rw [shN_all]
      repeat' (first
        | with_reducible refine pN ?_
        | with_reducible refine cN ?_
        | with_reducible refine bN ?_
        | with_reducible refine cE ?_
        | with_reducible refine cR ?_
        | with_reducible refine bR ?_
        | with_reducible refine lE ?_
        | with_reducible refine lR ?_
        | with_reducible refine jE ?_
        | with_reducible refine jR ?_
        | refine bE rfl ?_
        | refine bP rfl ?_
        | refine pC (by first | exact True.intro | omega | (intros; first | exact True.intro | omega) | (simp only [List.length_cons, List.length_nil, Int.toNat_natCast]; omega) | first | exact hv | exact hlen) ?_
        | refine seqI rfl ?_
        | refine regI rfl ?_
        | refine scopeI rfl ?_
        | refine blockI rfl ?_
        | refine exitI rfl ?_
        | refine retI rfl ?_
        | refine skipI rfl ?_)
      have F := valid_facts hv
      have hfb := fault_b F tool at'
      generalize cDu xs y xs.length = du at *
      generalize cMo a b y xs.length = mo at *
      generalize cDe a b y = de at *
      generalize cTl xs tool = tl at *
      generalize cFa xs tool at' = fa at *
      obtain ⟨fa', hfa'⟩ : ∃ f, f = if 0 ≤ tl then fa + d else fa := ⟨_, rfl⟩
      refine joinC (fun _ : Unit => []) (fun _ => [(16, .box [.own (key 82 0), .own (key 82 1), .int .i64 de, .int .i64 tl, .int .i64 fa'])]) (fun _ => True) (fun _ => rfl) ?_ (fun _ _ => ?_)
      · refine condI rfl (fun c2 => ?_) (fun c2 => ?_)
        · simp only [decide_eq_true_eq] at c2
          repeat' (first
            | with_reducible refine pN ?_
            | with_reducible refine cN ?_
            | with_reducible refine bN ?_
            | with_reducible refine cE ?_
            | with_reducible refine cR ?_
            | with_reducible refine bR ?_
            | with_reducible refine lE ?_
            | with_reducible refine lR ?_
            | with_reducible refine jE ?_
            | with_reducible refine jR ?_
            | refine bE rfl ?_
            | refine bP rfl ?_
            | refine pC (by first | exact True.intro | omega | (intros; first | exact True.intro | omega) | (simp only [List.length_cons, List.length_nil, Int.toNat_natCast]; omega)) ?_
            | refine seqI rfl ?_
            | refine regI rfl ?_
            | refine scopeI rfl ?_
            | refine blockI rfl ?_
            | refine exitI rfl ?_
            | refine retI rfl ?_
            | refine skipI rfl ?_)
          refine meetI () rfl trivial ?_
          repeat' (first | exact trivial | exact rfl | refine ⟨rfl, ?_⟩ | refine And.intro ?_ ?_)
          rw [hfa', if_pos c2]
        · simp only [decide_eq_false_iff_not] at c2
          repeat' (first
            | with_reducible refine pN ?_
            | with_reducible refine cN ?_
            | with_reducible refine bN ?_
            | with_reducible refine cE ?_
            | with_reducible refine cR ?_
            | with_reducible refine bR ?_
            | with_reducible refine lE ?_
            | with_reducible refine lR ?_
            | with_reducible refine jE ?_
            | with_reducible refine jR ?_
            | refine bE rfl ?_
            | refine bP rfl ?_
            | refine pC (by first | exact True.intro | omega | (intros; first | exact True.intro | omega) | (simp only [List.length_cons, List.length_nil, Int.toNat_natCast]; omega)) ?_
            | refine seqI rfl ?_
            | refine regI rfl ?_
            | refine scopeI rfl ?_
            | refine blockI rfl ?_
            | refine exitI rfl ?_
            | refine retI rfl ?_
            | refine skipI rfl ?_)
          refine meetI () rfl trivial ?_
          repeat' (first | exact trivial | exact rfl | refine ⟨rfl, ?_⟩ | refine And.intro ?_ ?_)
          rw [hfa', if_neg c2]
      · have hv2 := valid_shift hv hdb hEb.2 hsm
        have hsh : tl = -1 ∨ fa' = fa + d := by
          rcases hfb with h | h
          · exact .inl h.1
          · exact .inr (by rw [hfa', if_pos h.1])
        have hposs2 : possF (e + d) a b (xs.map (shS d)) ws du mo de tl fa' = true := by
          refine poss_of hv2 (by rw [List.length_map]; exact C.dul) (by rw [List.length_map]; exact C.mol) C.deb (fun i hi => ?_) ?_
          · rw [List.length_map] at hi
            rw [getI_map (d := tStage.dflt) hi]
            exact C.at' i hi
          · rcases hfb with h | h
            · exact .inl ⟨h.1, by rw [hfa', if_neg (by omega)]; exact h.2⟩
            · exact .inr ⟨h.1, h.2.1, by rw [hfa', if_pos h.1]; omega, by rw [hfa', if_pos h.1]; omega⟩
        have hlen2 : (xs.map (shS d)).length ≤ 1000000000000 := by rw [List.length_map]; exact hlen
        obtain ⟨hr0, hR⟩ := run_spec hposs
        have hl1 := hR.len
        have hrun : runF (e + d) a b (xs.map (shS d)) ws du mo de tl fa' = ((runF e a b xs ws du mo de tl fa).1.map (shV d), (runF e a b xs ws du mo de tl fa).2) := by
          have e1 := runG_shift F (du := du) (mo := mo) (de := de) hsh xs.length [] e (by simp)
          unfold runF
          rw [hposs, hposs2]
          simp only [if_true, List.length_map]
          simp only [List.length_nil, List.map_nil] at e1
          rw [e1]
        repeat' (first
          | with_reducible refine pN ?_
          | with_reducible refine cN ?_
          | with_reducible refine bN ?_
          | with_reducible refine cE ?_
          | with_reducible refine cR ?_
          | with_reducible refine bR ?_
          | with_reducible refine lE ?_
          | with_reducible refine lR ?_
          | with_reducible refine jE ?_
          | with_reducible refine jR ?_
          | refine bE rfl ?_
          | refine bP rfl ?_
          | refine pC (by first | exact True.intro | omega | (intros; first | exact True.intro | omega) | (simp only [List.length_cons, List.length_nil, Int.toNat_natCast]; omega) | first | exact hlen | exact hlen2) ?_
          | refine seqI rfl ?_
          | refine regI rfl ?_
          | refine scopeI rfl ?_
          | refine blockI rfl ?_
          | refine exitI rfl ?_
          | refine retI rfl ?_
          | refine skipI rfl ?_)
        rw [hrun]
        dsimp only
        generalize runF e a b xs ws du mo de tl fa = q at *
        refine condI rfl (fun c3 => ?_) (fun c3 => ?_)
        · exfalso
          have c3' : ((decide (q.2.2 ≠ 0) || decide (q.2.2 ≠ 0)) || !(decide (q.2.1.1 = q.2.1.1) && decide (q.2.1.2 = q.2.1.2)) || decide ((q.1.length : Int) ≠ ((q.1.map (shV d)).length : Int))) = true := c3
          rw [hr0, List.length_map] at c3'
          simp at c3'
        · have hql : (q.1.map (shV d)).length = q.1.length := List.length_map _
          repeat' (first
            | with_reducible refine pN ?_
            | with_reducible refine cN ?_
            | with_reducible refine bN ?_
            | with_reducible refine cE ?_
            | with_reducible refine cR ?_
            | with_reducible refine bR ?_
            | with_reducible refine lE ?_
            | with_reducible refine lR ?_
            | with_reducible refine jE ?_
            | with_reducible refine jR ?_
            | refine bE rfl ?_
            | refine bP rfl ?_
            | refine pC (by first | exact True.intro | omega | (intros; first | exact True.intro | omega) | (simp only [List.length_cons, List.length_nil, Int.toNat_natCast]; omega)) ?_
            | refine seqI rfl ?_
            | refine regI rfl ?_
            | refine scopeI rfl ?_
            | refine blockI rfl ?_
            | refine exitI rfl ?_
            | refine retI rfl ?_
            | refine skipI rfl ?_)
          refine loopI (σ := Nat) (fun k => [(23, .int .i64 k)]) (fun k => []) (fun k => k ≤ q.1.length) (fun k => q.1.length - k) 0 rfl (fun _ => rfl) rfl ?_ ?_ ?_
          · exact Nat.zero_le _
          · repeat' (first | exact trivial | exact rfl | refine ⟨rfl, ?_⟩ | refine And.intro ?_ ?_)
          · intro k hk
            repeat' (first
              | with_reducible refine pN ?_
              | with_reducible refine cN ?_
              | with_reducible refine bN ?_
              | with_reducible refine cE ?_
              | with_reducible refine cR ?_
              | with_reducible refine bR ?_
              | with_reducible refine lE ?_
              | with_reducible refine lR ?_
              | with_reducible refine jE ?_
              | with_reducible refine jR ?_
              | refine bE rfl ?_
              | refine bP rfl ?_
              | refine pC (by first | exact True.intro | omega | (intros; first | exact True.intro | omega) | (simp only [List.length_cons, List.length_nil, Int.toNat_natCast]; omega)) ?_
              | refine seqI rfl ?_
              | refine regI rfl ?_
              | refine scopeI rfl ?_
              | refine blockI rfl ?_
              | refine exitI rfl ?_
              | refine retI rfl ?_
              | refine skipI rfl ?_)
            refine condI rfl (fun c4 => ?_) (fun c4 => ?_)
            · simp only [decide_eq_true_eq] at c4
              have hklt : k < q.1.length := by omega
              have hgm : getI (q.1.map (shV d)) tVisit.dflt k = shV d (getI q.1 tVisit.dflt k) := getI_map hklt
              have V := visN C (hR.vis k hklt) (by omega)
              unfold VisN vis at V
              repeat' (first
                | with_reducible refine pN ?_
                | with_reducible refine cN ?_
                | with_reducible refine bN ?_
                | with_reducible refine cE ?_
                | with_reducible refine cR ?_
                | with_reducible refine bR ?_
                | with_reducible refine lE ?_
                | with_reducible refine lR ?_
                | with_reducible refine jE ?_
                | with_reducible refine jR ?_
                | refine bE rfl ?_
                | refine bP rfl ?_
                | refine pC (by first | exact True.intro | omega | (intros; first | exact True.intro | omega) | (simp only [List.length_cons, List.length_nil, Int.toNat_natCast]; omega) | (intros; simp only [Int.toNat_natCast]; omega)) ?_
                | refine seqI rfl ?_
                | refine regI rfl ?_
                | refine scopeI rfl ?_
                | refine blockI rfl ?_
                | refine exitI rfl ?_
                | refine retI rfl ?_
                | refine skipI rfl ?_)
              refine condI rfl (fun c5 => ?_) (fun c5 => ?_)
              · exfalso
                have c5' : (decide ((getI q.1 tVisit.dflt k).2.1 ≠ (getI (q.1.map (shV d)) tVisit.dflt k).2.1) || decide ((getI q.1 tVisit.dflt k).2.2.1 + d ≠ (getI (q.1.map (shV d)) tVisit.dflt k).2.2.1) || decide ((getI q.1 tVisit.dflt k).2.2.2 + d ≠ (getI (q.1.map (shV d)) tVisit.dflt k).2.2.2)) = true := c5
                rw [hgm] at c5'
                simp [shV] at c5'
              · repeat' (first
                  | with_reducible refine pN ?_
                  | with_reducible refine cN ?_
                  | with_reducible refine bN ?_
                  | with_reducible refine cE ?_
                  | with_reducible refine cR ?_
                  | with_reducible refine bR ?_
                  | with_reducible refine lE ?_
                  | with_reducible refine lR ?_
                  | with_reducible refine jE ?_
                  | with_reducible refine jR ?_
                  | refine bE rfl ?_
                  | refine bP rfl ?_
                  | refine pC (by first | exact True.intro | omega | (intros; first | exact True.intro | omega) | (simp only [List.length_cons, List.length_nil, Int.toNat_natCast]; omega)) ?_
                  | refine seqI rfl ?_
                  | refine regI rfl ?_
                  | refine scopeI rfl ?_
                  | refine blockI rfl ?_
                  | refine exitI rfl ?_
                  | refine retI rfl ?_
                  | refine skipI rfl ?_)
                refine roundI (k + 1) rfl ?_ ?_ ?_
                · omega
                · show q.1.length - (k + 1) < q.1.length - k; omega
                · repeat' (first | exact trivial | exact rfl | refine ⟨rfl, ?_⟩ | refine And.intro ?_ ?_)
            · repeat' (first
                | with_reducible refine pN ?_
                | with_reducible refine cN ?_
                | with_reducible refine bN ?_
                | with_reducible refine cE ?_
                | with_reducible refine cR ?_
                | with_reducible refine bR ?_
                | with_reducible refine lE ?_
                | with_reducible refine lR ?_
                | with_reducible refine jE ?_
                | with_reducible refine jR ?_
                | refine bE rfl ?_
                | refine bP rfl ?_
                | refine pC (by first | exact True.intro | omega | (intros; first | exact True.intro | omega) | (simp only [List.length_cons, List.length_nil, Int.toNat_natCast]; omega)) ?_
                | refine seqI rfl ?_
                | refine regI rfl ?_
                | refine scopeI rfl ?_
                | refine blockI rfl ?_
                | refine exitI rfl ?_
                | refine retI rfl ?_
                | refine skipI rfl ?_)
              refine endR rfl ?_
              repeat' (first | exact trivial | exact rfl | refine ⟨rfl, ?_⟩ | refine And.intro ?_ ?_)
end Go.AM.Ytgpnkpiinmicgaa
