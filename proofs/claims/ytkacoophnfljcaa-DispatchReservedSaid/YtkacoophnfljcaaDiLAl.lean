/- The law DispatchAll: her function. -/
import Derived.Test.YtkacoophnfljcaaDiV
set_option linter.all false
namespace Go.AM.Ytkacoophnfljcaa
open Go.Proofs
set_option maxRecDepth 100000
set_option maxHeartbeats 8000000

/-- Where a booking comes to lie. -/
theorem book_tool {xss : List (List Bk.El)} {b : Bk.El} (g : CalG xss) (hf : freeF xss b = true) : toolL (bookF xss b) (tlB b) = (toolL xss (tlB b)).take (posF (toolL xss (tlB b)) (stB b)) ++ b :: (toolL xss (tlB b)).drop (posF (toolL xss (tlB b)) (stB b)) := by
  obtain ⟨hg, _⟩ := free_iff.1 hf
  have hlt : (tlB b).toNat < xss.length := by have := hg.t1; have := hg.t0; have := g.len; omega
  have e : bookF xss b = xss.set (tlB b).toNat (addF (toolL xss (tlB b)) b) := by unfold bookF; rw [if_pos hf]; rfl
  rw [e]
  show getI (xss.set (tlB b).toNat _) [] (tlB b).toNat = _
  rw [get_set_same hlt]
  show List.take (Int.toNat ((posF _ _ : Nat) : Int)) _ ++ [b] ++ List.drop (Int.toNat ((posF _ _ : Nat) : Int)) _ = _
  rw [Int.toNat_natCast, List.append_assoc]
  rfl

theorem book_end {xss : List (List Bk.El)} {b : Bk.El} (g : CalG xss) (hf : freeF xss b = true) (he : ∀ c ∈ toolL xss (tlB b), enB c ≤ stB b) : toolL (bookF xss b) (tlB b) = toolL xss (tlB b) ++ [b] := by
  obtain ⟨hg, _⟩ := free_iff.1 hf
  rw [book_tool g hf]
  have hT := g.tool hg.t0 hg.t1
  have hp : posF (toolL xss (tlB b)) (stB b) = (toolL xss (tlB b)).length := posF_eq (Nat.le_refl _) (fun k hk => by
    have hm : getI (toolL xss (tlB b)) Bk.dflt k ∈ toolL xss (tlB b) := by
      have := List.getElem_mem (l := toolL xss (tlB b)) (n := k) hk
      simpa [getI, List.getD, List.getElem?_eq_getElem hk] using this
    have h1 := (hT.all _ hm).1.se
    have h2 := he _ hm
    show stB (getI (toolL xss (tlB b)) Bk.dflt k) < stB b
    omega) (fun h => by omega)
  rw [hp, List.take_of_length_le (Nat.le_refl _), List.drop_of_length_le (Nat.le_refl _)]

theorem lots_filter {l : List JobT} {j : JobT} : Lots l → j ∈ l → (l.filter fun a => decide (jLot a ≠ jLot j)).length + 1 = l.length := by
  induction l with
  | nil => intro _ h; simp at h
  | cons a r ih =>
    intro h hj
    have h' := List.pairwise_cons.1 h
    by_cases e : jLot a = jLot j
    · rw [List.filter_cons_of_neg (by simpa using e)]
      have : r.filter (fun a => decide (jLot a ≠ jLot j)) = r := List.filter_eq_self.2 fun b hb => by
        have := h'.1 b hb
        simpa using fun e2 => this (by rw [e, e2])
      rw [this]; rfl
    · rw [List.filter_cons_of_pos (by simpa using e)]
      rcases List.mem_cons.1 hj with rfl | hj
      · exact absurd rfl e
      · have := ih h'.2 hj
        simp only [List.length_cons]
        omega

theorem getB_snoc {T : List Bk.El} {b : Bk.El} {k : Nat} : getI (T ++ [b]) Bk.dflt k = if k < T.length then getI T Bk.dflt k else if k = T.length then b else Bk.dflt := by
  simp only [getI, List.getD]
  split
  · rename_i h; rw [List.getElem?_append_left h]
  · rename_i h
    rw [List.getElem?_append_right (by omega)]
    split
    · rename_i e; rw [e, Nat.sub_self]; rfl
    · rename_i e
      rw [List.getElem?_eq_none (by simp; omega)]
      rfl

/-- One after the other, without a pause. -/
structure AllD (tool : Int) (l0 : List JobT) (i : Nat) (now : Int) (l : List JobT) (xss : List (List Bk.El)) : Prop where
  g : CalG xss
  ln : lenF xss = i
  lots : Lots l
  sub : ∀ a ∈ l, a ∈ l0
  len : l.length + i = l0.length
  n0 : 0 ≤ now
  n1 : now ≤ 80 * i
  tl : (toolL xss tool).length = i
  ends : ∀ c ∈ toolL xss tool, enB c ≤ now
  cont : ∀ k, k + 1 < i → stB (getI (toolL xss tool) Bk.dflt (k + 1)) = enB (getI (toolL xss tool) Bk.dflt k)
  last : ∀ k, k + 1 = i → enB (getI (toolL xss tool) Bk.dflt k) = now

def restF (l : List JobT) (j : JobT) (k : Nat) : List JobT := (l.take k).filter fun a => decide (jLot a ≠ jLot j)
theorem restF_succ {l : List JobT} {j : JobT} {k : Nat} (h : k < l.length) : restF l j (k + 1) = if jLot (getI l jDf k) ≠ jLot j then restF l j k ++ [getI l jDf k] else restF l j k := by
  unfold restF
  rw [take_succ_getI (d := jDf) h, List.filter_append]
  by_cases e : jLot (getI l jDf k) ≠ jLot j
  · rw [if_pos e, List.filter_cons_of_pos (by simpa using e), List.filter_nil]
  · rw [if_neg e, List.filter_cons_of_neg (by simpa using e), List.filter_nil, List.append_nil]
theorem restF_len (l : List JobT) (j : JobT) (k : Nat) : (restF l j k).length ≤ l.length := by
  unfold restF
  exact Nat.le_trans (List.length_filter_le _ _) (by simp; omega)

theorem AllD.step {tool : Int} {l0 : List JobT} {i : Nat} {now : Int} {l : List JobT} {xss : List (List Bk.El)} (h : AllD tool l0 i now l xss) (h0 : 0 ≤ tool) (h1 : tool < 60)
    (ok : ∀ j ∈ l0, 1 ≤ jLen j ∧ jLen j ≤ 60 ∧ 1 ≤ jLot j ∧ jLot j ≤ 13 ∧ 1 ≤ jRec j ∧ jRec j ≤ 3) (hi : i < l0.length) (h12 : l0.length ≤ 12) {rs : List Int} (hr : RulesOk rs) (rc : Int) :
    (pickJ xss tool now rs rc l).2 = true ∧ (pickJ xss tool now rs rc l).1 ∈ l ∧ freeF xss ((tool, now, now + lengthF rc (pickJ xss tool now rs rc l).1, jLot (pickJ xss tool now rs rc l).1) : Bk.El) = true ∧
    AllD tool l0 (i + 1) (now + lengthF rc (pickJ xss tool now rs rc l).1) (restF l (pickJ xss tool now rs rc l).1 l.length) (bookF xss ((tool, now, now + lengthF rc (pickJ xss tool now rs rc l).1, jLot (pickJ xss tool now rs rc l).1) : Bk.El)) := by
  have hn1 := h.n1
  have hn0 := h.n0
  have hlen := h.len
  have hfit : ∀ j ∈ l, fitB xss tool now rc j = true := fun j hj => by
    have hj' := ok j (h.sub j hj)
    have hb := length_b rc j
    rw [fit_iff h.g h0 h1 hn0 (by omega) (by omega)]
    cases hbz : busyF xss tool now (now + lengthF rc j) with
    | false => rfl
    | true =>
      obtain ⟨_, _, _, c, hc, h2, h3⟩ := busy_iff.1 hbz
      have := h.ends c hc
      omega
  have hyes : (pickJ xss tool now rs rc l).2 = true := by
    cases hp : (pickJ xss tool now rs rc l).2 with
    | true => rfl
    | false =>
      have hm : getI l jDf 0 ∈ l := getI_mem (by omega)
      have := pick_no hr h.lots hp _ hm
      rw [hfit _ hm] at this
      cases this
  obtain ⟨hm, hf, _⟩ := pick_spec hr h.lots hyes
  refine ⟨hyes, hm, ?_⟩
  generalize (pickJ xss tool now rs rc l).1 = j at *
  have hj' := ok j (h.sub j hm)
  have hb := length_b rc j
  have hfree := fit_free (o := jLot j) h.g h0 h1 hn0 (by omega) (by omega) (by omega) hf
  refine ⟨hfree, ?_⟩
  obtain ⟨y1, _, y3⟩ := book_yes h.g hfree
  have hT : toolL (bookF xss ((tool, now, now + lengthF rc j, jLot j) : Bk.El)) tool = toolL xss tool ++ [((tool, now, now + lengthF rc j, jLot j) : Bk.El)] := book_end h.g hfree h.ends
  have hrl : (restF l j l.length).length + 1 = l.length := by
    unfold restF
    rw [List.take_of_length_le (Nat.le_refl _)]
    exact lots_filter h.lots hm
  have htl := h.tl
  refine ⟨y1, by rw [y3, h.ln], ?_, ?_, by omega, by omega, by omega, ?_, ?_, ?_, ?_⟩
  · unfold restF
    rw [List.take_of_length_le (Nat.le_refl _)]
    exact List.Pairwise.sublist List.filter_sublist h.lots
  · intro a ha
    unfold restF at ha
    rw [List.take_of_length_le (Nat.le_refl _)] at ha
    exact h.sub a (List.mem_filter.1 ha).1
  · rw [hT]; simp; omega
  · rw [hT]
    intro c hc
    rcases List.mem_append.1 hc with hc | hc
    · have := h.ends c hc
      omega
    · rw [List.mem_singleton.1 hc]
      exact Int.le_refl _
  · rw [hT]
    intro k hk
    rw [getB_snoc, getB_snoc, htl, if_pos (show k < i by omega)]
    by_cases e : k + 1 < i
    · rw [if_pos e]
      exact h.cont k e
    · rw [if_neg e, if_pos (by omega)]
      exact (h.last k (by omega)).symm
  · rw [hT]
    intro k hk
    rw [getB_snoc, htl, if_neg (by omega), if_pos (by omega)]
    rfl

theorem AllD.zero {tool : Int} {l0 : List JobT} (h : Lots l0) : AllD tool l0 0 0 l0 noCal := by
  have e : toolL noCal tool = [] := by
    unfold toolL getI noCal
    rw [List.getD_eq_getElem?_getD, List.getElem?_replicate]
    split <;> rfl
  exact ⟨noCal_good, lenF_no, h, fun _ h => h, by omega, by omega, by omega, by rw [e]; rfl, by rw [e]; simp, fun k hk => by omega, fun k hk => by omega⟩

def lalS : Spec := plain fun
  | [.sl (.pair (.int .i64) (.pair (.int .i64) (.pair (.int .i64) (.int .i64)))) _, .int .i64 _, .int .i64 _] => outV True (.bool true)
  | _ => none

theorem lalOk : SpecSound Try.prog 8 lalS := by
  refine soundP (envOf sigDlOk) Try.func8 (c := body Try.f8) rfl (by kernel_rfl) rfl ?_
  intro args out hf hpre
  split at hf <;> try (cases hf; done)
  rename_i x n ta
  cases hf
  refine ⟨Nat.le_of_ble_eq_true rfl, initI (args := [.sl t4 x, .int .i64 n, .int .i64 ta]) rfl ?_⟩
  have hjl := jobsF_len x
  obtain ⟨hr, hrl⟩ := rulesF_ok n
  have hlots := jobsF_lots x
  have hjok := jobsF_ok x
  have p1 := pick_b (c := ta) (n := 60) (by omega)
  repeat' (first
    | with_reducible refine pN ?_
    | with_reducible refine cN ?_
    | with_reducible refine bN ?_
    | with_reducible refine cE ?_
    | with_reducible refine cR ?_
    | with_reducible refine bR ?_
    | with_reducible refine lE ?_
    | with_reducible refine lR ?_
    | with_reducible refine jE ?_
    | with_reducible refine jR ?_
    | refine bE rfl ?_
    | refine bP rfl ?_
    | refine pC (by first | exact True.intro | omega | (intros; first | exact True.intro | omega) | (simp only [List.length_cons, List.length_nil, Int.toNat_natCast]; omega)) ?_
    | refine seqI rfl ?_
    | refine regI rfl ?_
    | refine scopeI rfl ?_
    | refine blockI rfl ?_
    | refine exitI rfl ?_
    | refine retI rfl ?_
    | refine skipI rfl ?_)
  have hz := AllD.zero (tool := pickF ta 60) hlots
  refine loopI (σ := Nat × Int × Int × List JobT × List (List Bk.El)) (fun s => [(8, .ptr 8000 0), (9, .own 9000), (10, .int .i64 s.2.1), (11, .int .i64 s.2.2.1), (12, .int .i64 s.1)]) (fun s => [(8000, .arr Bk s.2.2.2.2 none), (9000, .seq tJob s.2.2.2.1)]) (fun s => s.1 ≤ (jobsF x).length ∧ AllD (pickF ta 60) (jobsF x) s.1 s.2.1 s.2.2.2.1 s.2.2.2.2) (fun s => (jobsF x).length - s.1) (0, 0, 0, jobsF x, noCal) rfl (fun _ => rfl) rfl ?_ ?_ ?_
  · exact ⟨Nat.zero_le _, hz⟩
  · repeat' (first | exact trivial | exact rfl | refine ⟨rfl, ?_⟩ | refine And.intro ?_ ?_)
  rintro ⟨i, now, rc, l, xss⟩ ⟨hi, hA⟩
  dsimp only at hi hA ⊢
  clear hz
  have hcal := hA.g.cal (by have := hA.ln; omega)
  have hlen := hA.len
  have hn1 := hA.n1
  have hn0 := hA.n0
  repeat' (first
    | with_reducible refine pN ?_
    | with_reducible refine cN ?_
    | with_reducible refine bN ?_
    | with_reducible refine cE ?_
    | with_reducible refine cR ?_
    | with_reducible refine bR ?_
    | with_reducible refine lE ?_
    | with_reducible refine lR ?_
    | with_reducible refine jE ?_
    | with_reducible refine jR ?_
    | refine bE rfl ?_
    | refine bP rfl ?_
    | refine pC (by first | exact True.intro | omega | (intros; first | exact True.intro | omega) | (simp only [List.length_cons, List.length_nil, Int.toNat_natCast]; omega)) ?_
    | refine seqI rfl ?_
    | refine regI rfl ?_
    | refine scopeI rfl ?_
    | refine blockI rfl ?_
    | refine exitI rfl ?_
    | refine retI rfl ?_
    | refine skipI rfl ?_)
  refine condI rfl (fun c1 => ?_) (fun c1 => ?_)
  · simp only [decide_eq_true_eq] at c1
    obtain ⟨hyes, hm, hfree, hstep⟩ := hA.step p1.1 (by omega) hjok (by omega) hjl hr rc
    have hj := hjok _ (hA.sub _ hm)
    have hlb := length_b rc (pickJ xss (pickF ta 60) now (rulesF n) rc l).1
    repeat' (first
      | with_reducible refine pN ?_
      | with_reducible refine cN ?_
      | with_reducible refine bN ?_
      | with_reducible refine cE ?_
      | with_reducible refine cR ?_
      | with_reducible refine bR ?_
      | with_reducible refine lE ?_
      | with_reducible refine lR ?_
      | with_reducible refine jE ?_
      | with_reducible refine jR ?_
      | refine bE rfl ?_
      | refine bP rfl ?_
      | refine pC (by first | exact True.intro | omega | (intros; first | exact True.intro | omega) | (simp only [List.length_cons, List.length_nil, Int.toNat_natCast]; omega) | first | exact ⟨hcal, by omega, by omega⟩) ?_
      | refine seqI rfl ?_
      | refine regI rfl ?_
      | refine scopeI rfl ?_
      | refine blockI rfl ?_
      | refine exitI rfl ?_
      | refine retI rfl ?_
      | refine skipI rfl ?_)
    generalize pickF ta 60 = tool at *
    generalize rulesF n = rs at *
    generalize pickJ xss tool now rs rc l = p at *
    obtain ⟨j, ok⟩ := p
    dsimp only at hyes hm hfree hstep hj hlb ⊢
    subst hyes
    refine condF rfl ?_
    repeat' (first
      | with_reducible refine pN ?_
      | with_reducible refine cN ?_
      | with_reducible refine bN ?_
      | with_reducible refine cE ?_
      | with_reducible refine cR ?_
      | with_reducible refine bR ?_
      | with_reducible refine lE ?_
      | with_reducible refine lR ?_
      | with_reducible refine jE ?_
      | with_reducible refine jR ?_
      | refine bE rfl ?_
      | refine bP rfl ?_
      | refine pC (by first | exact True.intro | omega | (intros; first | exact True.intro | omega) | (simp only [List.length_cons, List.length_nil, Int.toNat_natCast]; omega) | first | exact ⟨hcal, hA.g.sorted⟩ | (show In64 (jLen j + 20); omega) | (show In64 (now + lengthF rc j); omega)) ?_
      | refine seqI rfl ?_
      | refine regI rfl ?_
      | refine scopeI rfl ?_
      | refine blockI rfl ?_
      | refine exitI rfl ?_
      | refine retI rfl ?_
      | refine skipI rfl ?_)
    refine condI rfl (fun c2 => ?_) (fun c2 => ?_)
    · exfalso
      simp only [decide_eq_true_eq] at c2
      exact c2 (errF_zero.2 hfree)
    clear c2
    repeat' (first
      | with_reducible refine pN ?_
      | with_reducible refine cN ?_
      | with_reducible refine bN ?_
      | with_reducible refine cE ?_
      | with_reducible refine cR ?_
      | with_reducible refine bR ?_
      | with_reducible refine lE ?_
      | with_reducible refine lR ?_
      | with_reducible refine jE ?_
      | with_reducible refine jR ?_
      | refine bE rfl ?_
      | refine bP rfl ?_
      | refine pC (by first | exact True.intro | omega | (intros; first | exact True.intro | omega) | (simp only [List.length_cons, List.length_nil, Int.toNat_natCast]; omega)) ?_
      | refine seqI rfl ?_
      | refine regI rfl ?_
      | refine scopeI rfl ?_
      | refine blockI rfl ?_
      | refine exitI rfl ?_
      | refine retI rfl ?_
      | refine skipI rfl ?_)
    refine loopI (σ := Nat) (fun k => [(16, .own 16000), (17, .int .i64 k)]) (fun k => [(16000, .seq tJob (restF l j k))]) (fun k => k ≤ l.length) (fun k => l.length - k) 0 rfl (fun _ => rfl) rfl ?_ ?_ ?_
    · exact Nat.zero_le _
    · repeat' (first | exact trivial | exact rfl | refine ⟨rfl, ?_⟩ | refine And.intro ?_ ?_)
    rintro k hk
    have hrl := restF_len l j k
    repeat' (first
      | with_reducible refine pN ?_
      | with_reducible refine cN ?_
      | with_reducible refine bN ?_
      | with_reducible refine cE ?_
      | with_reducible refine cR ?_
      | with_reducible refine bR ?_
      | with_reducible refine lE ?_
      | with_reducible refine lR ?_
      | with_reducible refine jE ?_
      | with_reducible refine jR ?_
      | refine bE rfl ?_
      | refine bP rfl ?_
      | refine pC (by first | exact True.intro | omega | (intros; first | exact True.intro | omega) | (simp only [List.length_cons, List.length_nil, Int.toNat_natCast]; omega)) ?_
      | refine seqI rfl ?_
      | refine regI rfl ?_
      | refine scopeI rfl ?_
      | refine blockI rfl ?_
      | refine exitI rfl ?_
      | refine retI rfl ?_
      | refine skipI rfl ?_)
    refine condI rfl (fun c3 => ?_) (fun c3 => ?_)
    · simp only [decide_eq_true_eq] at c3
      have hkl : k < l.length := by omega
      have hkn : ((k : Int)).toNat = k := by omega
      have hs := restF_succ (j := j) hkl
      repeat' (first
        | with_reducible refine pN ?_
        | with_reducible refine cN ?_
        | with_reducible refine bN ?_
        | with_reducible refine cE ?_
        | with_reducible refine cR ?_
        | with_reducible refine bR ?_
        | with_reducible refine lE ?_
        | with_reducible refine lR ?_
        | with_reducible refine jE ?_
        | with_reducible refine jR ?_
        | refine bE rfl ?_
        | refine bP rfl ?_
        | refine pC (by first | exact True.intro | omega | (intros; first | exact True.intro | omega) | (simp only [List.length_cons, List.length_nil, Int.toNat_natCast]; omega)) ?_
        | refine seqI rfl ?_
        | refine regI rfl ?_
        | refine scopeI rfl ?_
        | refine blockI rfl ?_
        | refine exitI rfl ?_
        | refine retI rfl ?_
        | refine skipI rfl ?_)
      refine condI rfl (fun c4 => ?_) (fun c4 => ?_)
      · simp only [decide_eq_true_eq] at c4
        have c4' : jLot (getI l jDf k) ≠ jLot j := c4
        rw [if_pos c4'] at hs
        repeat' (first
          | with_reducible refine pN ?_
          | with_reducible refine cN ?_
          | with_reducible refine bN ?_
          | with_reducible refine cE ?_
          | with_reducible refine cR ?_
          | with_reducible refine bR ?_
          | with_reducible refine lE ?_
          | with_reducible refine lR ?_
          | with_reducible refine jE ?_
          | with_reducible refine jR ?_
          | refine bE rfl ?_
          | refine bP rfl ?_
          | refine pC (by first | exact True.intro | omega | (intros; first | exact True.intro | omega) | (simp only [List.length_cons, List.length_nil, Int.toNat_natCast]; omega) | (show ((restF l j k).length + 1) * 56 ≤ 140737488355328; omega)) ?_
          | refine seqI rfl ?_
          | refine regI rfl ?_
          | refine scopeI rfl ?_
          | refine blockI rfl ?_
          | refine exitI rfl ?_
          | refine retI rfl ?_
          | refine skipI rfl ?_)
        refine roundI (k + 1) rfl ?_ ?_ ?_
        · show k + 1 ≤ l.length
          omega
        · show l.length - (k + 1) < l.length - k
          omega
        · repeat' (first | exact trivial | with_reducible exact rfl | refine And.intro ?_ ?_)
          all_goals first | rfl | skip
          show restF l j (k + 1) = _
          rw [hs]
          rfl
      · simp only [decide_eq_false_iff_not] at c4
        have c4' : ¬ jLot (getI l jDf k) ≠ jLot j := c4
        rw [if_neg c4'] at hs
        repeat' (first
          | with_reducible refine pN ?_
          | with_reducible refine cN ?_
          | with_reducible refine bN ?_
          | with_reducible refine cE ?_
          | with_reducible refine cR ?_
          | with_reducible refine bR ?_
          | with_reducible refine lE ?_
          | with_reducible refine lR ?_
          | with_reducible refine jE ?_
          | with_reducible refine jR ?_
          | refine bE rfl ?_
          | refine bP rfl ?_
          | refine pC (by first | exact True.intro | omega | (intros; first | exact True.intro | omega) | (simp only [List.length_cons, List.length_nil, Int.toNat_natCast]; omega)) ?_
          | refine seqI rfl ?_
          | refine regI rfl ?_
          | refine scopeI rfl ?_
          | refine blockI rfl ?_
          | refine exitI rfl ?_
          | refine retI rfl ?_
          | refine skipI rfl ?_)
        refine roundI (k + 1) rfl ?_ ?_ ?_
        · show k + 1 ≤ l.length
          omega
        · show l.length - (k + 1) < l.length - k
          omega
        · repeat' (first | exact trivial | with_reducible exact rfl | refine And.intro ?_ ?_)
          all_goals first | rfl | skip
          show restF l j (k + 1) = _
          rw [hs]
    · simp only [decide_eq_false_iff_not] at c3
      obtain rfl : k = l.length := by omega
      have hsl := hstep.len
      repeat' (first
        | with_reducible refine pN ?_
        | with_reducible refine cN ?_
        | with_reducible refine bN ?_
        | with_reducible refine cE ?_
        | with_reducible refine cR ?_
        | with_reducible refine bR ?_
        | with_reducible refine lE ?_
        | with_reducible refine lR ?_
        | with_reducible refine jE ?_
        | with_reducible refine jR ?_
        | refine bE rfl ?_
        | refine bP rfl ?_
        | refine pC (by first | exact True.intro | omega | (intros; first | exact True.intro | omega) | (simp only [List.length_cons, List.length_nil, Int.toNat_natCast]; omega)) ?_
        | refine seqI rfl ?_
        | refine regI rfl ?_
        | refine scopeI rfl ?_
        | refine blockI rfl ?_
        | refine exitI rfl ?_
        | refine retI rfl ?_
        | refine skipI rfl ?_)
      refine condI rfl (fun c5 => ?_) (fun c5 => ?_)
      · exfalso
        simp only [decide_eq_true_eq] at c5
        omega
      repeat' (first
        | with_reducible refine pN ?_
        | with_reducible refine cN ?_
        | with_reducible refine bN ?_
        | with_reducible refine cE ?_
        | with_reducible refine cR ?_
        | with_reducible refine bR ?_
        | with_reducible refine lE ?_
        | with_reducible refine lR ?_
        | with_reducible refine jE ?_
        | with_reducible refine jR ?_
        | refine bE rfl ?_
        | refine bP rfl ?_
        | refine pC (by first | exact True.intro | omega | (intros; first | exact True.intro | omega) | (simp only [List.length_cons, List.length_nil, Int.toNat_natCast]; omega)) ?_
        | refine seqI rfl ?_
        | refine regI rfl ?_
        | refine scopeI rfl ?_
        | refine blockI rfl ?_
        | refine exitI rfl ?_
        | refine retI rfl ?_
        | refine skipI rfl ?_)
      refine roundI (i + 1, now + lengthF rc j, jRec j, restF l j l.length, bookF xss (tool, now, now + lengthF rc j, jLot j)) rfl ?_ ?_ ?_
      · exact ⟨by show i + 1 ≤ (jobsF x).length; omega, hstep⟩
      · show (jobsF x).length - (i + 1) < (jobsF x).length - i
        omega
      · repeat' (first | exact trivial | exact rfl | refine ⟨rfl, ?_⟩ | refine And.intro ?_ ?_)
  · simp only [decide_eq_false_iff_not] at c1
    have hl : listF xss (pickF ta 60) = toolL xss (pickF ta 60) := by
      unfold listF
      rw [if_pos (toolB_of p1.1 (by omega))]
    have htl := hA.tl
    have hct := hA.cont
    repeat' (first
      | with_reducible refine pN ?_
      | with_reducible refine cN ?_
      | with_reducible refine bN ?_
      | with_reducible refine cE ?_
      | with_reducible refine cR ?_
      | with_reducible refine bR ?_
      | with_reducible refine lE ?_
      | with_reducible refine lR ?_
      | with_reducible refine jE ?_
      | with_reducible refine jR ?_
      | refine bE rfl ?_
      | refine bP rfl ?_
      | refine pC (by first | exact True.intro | omega | (intros; first | exact True.intro | omega) | (simp only [List.length_cons, List.length_nil, Int.toNat_natCast]; omega) | first | exact hcal) ?_
      | refine seqI rfl ?_
      | refine regI rfl ?_
      | refine scopeI rfl ?_
      | refine blockI rfl ?_
      | refine exitI rfl ?_
      | refine retI rfl ?_
      | refine skipI rfl ?_)
    rw [hl]
    generalize toolL xss (pickF ta 60) = T at *
    refine loopI (σ := Nat) (fun k => [(19, .int .i64 k)]) (fun k => []) (fun k => 1 ≤ k ∧ (k ≤ T.length ∨ k = 1)) (fun k => T.length + 1 - k) 1 rfl (fun _ => rfl) rfl ?_ ?_ ?_
    · exact ⟨Nat.le_refl _, .inr rfl⟩
    · repeat' (first | exact trivial | exact rfl | refine ⟨rfl, ?_⟩ | refine And.intro ?_ ?_)
    rintro k ⟨hk1, hk⟩
    repeat' (first
      | with_reducible refine pN ?_
      | with_reducible refine cN ?_
      | with_reducible refine bN ?_
      | with_reducible refine cE ?_
      | with_reducible refine cR ?_
      | with_reducible refine bR ?_
      | with_reducible refine lE ?_
      | with_reducible refine lR ?_
      | with_reducible refine jE ?_
      | with_reducible refine jR ?_
      | refine bE rfl ?_
      | refine bP rfl ?_
      | refine pC (by first | exact True.intro | omega | (intros; first | exact True.intro | omega) | (simp only [List.length_cons, List.length_nil, Int.toNat_natCast]; omega)) ?_
      | refine seqI rfl ?_
      | refine regI rfl ?_
      | refine scopeI rfl ?_
      | refine blockI rfl ?_
      | refine exitI rfl ?_
      | refine retI rfl ?_
      | refine skipI rfl ?_)
    refine condI rfl (fun c3 => ?_) (fun c3 => ?_)
    · simp only [decide_eq_true_eq] at c3
      have hkl : k < T.length := by omega
      obtain ⟨m, rfl⟩ : ∃ m, k = m + 1 := ⟨k - 1, by omega⟩
      have hc := hct m (by omega)
      have e1 : (((m + 1 : Nat) : Int)).toNat = m + 1 := by omega
      have e2 : (((m + 1 : Nat) : Int) - 1).toNat = m := by omega
      repeat' (first
        | with_reducible refine pN ?_
        | with_reducible refine cN ?_
        | with_reducible refine bN ?_
        | with_reducible refine cE ?_
        | with_reducible refine cR ?_
        | with_reducible refine bR ?_
        | with_reducible refine lE ?_
        | with_reducible refine lR ?_
        | with_reducible refine jE ?_
        | with_reducible refine jR ?_
        | refine bE rfl ?_
        | refine bP rfl ?_
        | refine pC (by first | exact True.intro | omega | (intros; first | exact True.intro | omega) | (simp only [List.length_cons, List.length_nil, Int.toNat_natCast]; omega)) ?_
        | refine seqI rfl ?_
        | refine regI rfl ?_
        | refine scopeI rfl ?_
        | refine blockI rfl ?_
        | refine exitI rfl ?_
        | refine retI rfl ?_
        | refine skipI rfl ?_)
      refine condI rfl (fun c4 => ?_) (fun c4 => ?_)
      · exfalso
        simp only [decide_eq_true_eq] at c4
        have c4' : stB (getI T Bk.dflt (m + 1)) ≠ enB (getI T Bk.dflt (((m + 1 : Nat) : Int) - 1).toNat) := c4
        rw [e2] at c4'
        exact c4' hc
      repeat' (first
        | with_reducible refine pN ?_
        | with_reducible refine cN ?_
        | with_reducible refine bN ?_
        | with_reducible refine cE ?_
        | with_reducible refine cR ?_
        | with_reducible refine bR ?_
        | with_reducible refine lE ?_
        | with_reducible refine lR ?_
        | with_reducible refine jE ?_
        | with_reducible refine jR ?_
        | refine bE rfl ?_
        | refine bP rfl ?_
        | refine pC (by first | exact True.intro | omega | (intros; first | exact True.intro | omega) | (simp only [List.length_cons, List.length_nil, Int.toNat_natCast]; omega)) ?_
        | refine seqI rfl ?_
        | refine regI rfl ?_
        | refine scopeI rfl ?_
        | refine blockI rfl ?_
        | refine exitI rfl ?_
        | refine retI rfl ?_
        | refine skipI rfl ?_)
      refine roundI (m + 1 + 1) rfl ?_ ?_ ?_
      · exact ⟨by omega, .inl (by omega)⟩
      · show T.length + 1 - (m + 1 + 1) < T.length + 1 - (m + 1)
        omega
      · repeat' (first | exact trivial | exact rfl | refine ⟨rfl, ?_⟩ | refine And.intro ?_ ?_)
    · simp only [decide_eq_false_iff_not] at c3
      have h0 : l.length = 0 := by omega
      repeat' (first
        | with_reducible refine pN ?_
        | with_reducible refine cN ?_
        | with_reducible refine bN ?_
        | with_reducible refine cE ?_
        | with_reducible refine cR ?_
        | with_reducible refine bR ?_
        | with_reducible refine lE ?_
        | with_reducible refine lR ?_
        | with_reducible refine jE ?_
        | with_reducible refine jR ?_
        | refine bE rfl ?_
        | refine bP rfl ?_
        | refine pC (by first | exact True.intro | omega | (intros; first | exact True.intro | omega) | (simp only [List.length_cons, List.length_nil, Int.toNat_natCast]; omega)) ?_
        | refine seqI rfl ?_
        | refine regI rfl ?_
        | refine scopeI rfl ?_
        | refine blockI rfl ?_
        | refine exitI rfl ?_
        | refine retI rfl ?_
        | refine skipI rfl ?_)
      refine regH [(118, true)] rfl ?_
      repeat' (first | with_reducible refine pN ?_ | refine pC (by first | exact True.intro | (intros; exact True.intro) | (show (true && decide ((l.length : Int) = 0)) = true; rw [decide_eq_true (by omega)]; rfl)) ?_)
      repeat' (first
        | with_reducible refine pN ?_
        | with_reducible refine cN ?_
        | with_reducible refine bN ?_
        | with_reducible refine cE ?_
        | with_reducible refine cR ?_
        | with_reducible refine bR ?_
        | with_reducible refine lE ?_
        | with_reducible refine lR ?_
        | with_reducible refine jE ?_
        | with_reducible refine jR ?_
        | refine bE rfl ?_
        | refine bP rfl ?_
        | refine pC (by first | exact True.intro | omega | (intros; first | exact True.intro | omega) | (simp only [List.length_cons, List.length_nil, Int.toNat_natCast]; omega)) ?_
        | refine seqI rfl ?_
        | refine regI rfl ?_
        | refine scopeI rfl ?_
        | refine blockI rfl ?_
        | refine exitI rfl ?_
        | refine retI rfl ?_
        | refine skipI rfl ?_)
      refine endR rfl ?_
      repeat' (first | exact trivial | exact rfl | refine ⟨rfl, ?_⟩ | refine And.intro ?_ ?_)
      show true = (true && decide ((T.length : Int) = ((jobsF x).length : Nat)))
      rw [decide_eq_true (by omega)]
      rfl
end Go.AM.Ytkacoophnfljcaa
