/- Lists that nobody writes any more: jobs, rules, few. -/
import Derived.Test.YtkacoophnfljcaaDiRa
import Derived.Test.YtkacoophnfljcaaCaRefT
set_option linter.all false
namespace Go.AM.Ytkacoophnfljcaa
open Go.Proofs
set_option maxRecDepth 100000
set_option maxHeartbeats 8000000

def jobsZS : Spec := ⟨true, fun args rows => match args, rows with
  | [.sl (.pair (.int .i64) (.pair (.int .i64) (.pair (.int .i64) (.int .i64)))) x], [] => some ⟨True, .sl tJob (jobsF x), [], true⟩
  | _, _ => none⟩

theorem jobsZOk : SpecSound Try.prog 17 jobsZS := by
  refine soundR (envOf sigPickDOk) Try.func17 (c := body Try.f17) rfl (by kernel_rfl) rfl ?_
  intro args rows out hf hpre
  split at hf <;> try (cases hf; done)
  rename_i x
  cases hf
  refine ⟨Nat.le_of_ble_eq_true rfl, initI (args := [.sl t4 x]) (rows := []) rfl ?_⟩
  repeat' (first
    | with_reducible refine pN ?_
    | with_reducible refine cN ?_
    | with_reducible refine bN ?_
    | with_reducible refine cE ?_
    | with_reducible refine cR ?_
    | with_reducible refine bR ?_
    | with_reducible refine lE ?_
    | with_reducible refine lR ?_
    | with_reducible refine jE ?_
    | with_reducible refine jR ?_
    | refine bE rfl ?_
    | refine bP rfl ?_
    | refine pC (by first | exact True.intro | omega | (intros; first | exact True.intro | omega) | (simp only [List.length_cons, List.length_nil, Int.toNat_natCast]; omega)) ?_
    | refine seqI rfl ?_
    | refine regI rfl ?_
    | refine scopeI rfl ?_
    | refine blockI rfl ?_
    | refine exitI rfl ?_
    | refine retI rfl ?_
    | refine skipI rfl ?_)
  refine loopI (σ := Nat) (fun i => [(3, .own 3000), (4, .int .i64 i)]) (fun i => [(3000, .seq tJob (jobsN x i))]) (fun i => i ≤ x.length ∧ i ≤ 12) (fun i => 12 - i) 0 rfl (fun _ => rfl) rfl ?_ ?_ ?_
  · exact ⟨Nat.zero_le _, by omega⟩
  · repeat' (first | exact trivial | exact rfl | refine ⟨rfl, ?_⟩ | refine And.intro ?_ ?_)
  rintro i ⟨hi, hi12⟩
  have hjl := jobsN_len x i
  repeat' (first
    | with_reducible refine pN ?_
    | with_reducible refine cN ?_
    | with_reducible refine bN ?_
    | with_reducible refine cE ?_
    | with_reducible refine cR ?_
    | with_reducible refine bR ?_
    | with_reducible refine lE ?_
    | with_reducible refine lR ?_
    | with_reducible refine jE ?_
    | with_reducible refine jR ?_
    | refine bE rfl ?_
    | refine bP rfl ?_
    | refine pC (by first | exact True.intro | omega | (intros; first | exact True.intro | omega) | (simp only [List.length_cons, List.length_nil, Int.toNat_natCast]; omega)) ?_
    | refine seqI rfl ?_
    | refine regI rfl ?_
    | refine scopeI rfl ?_
    | refine blockI rfl ?_
    | refine exitI rfl ?_
    | refine retI rfl ?_
    | refine skipI rfl ?_)
  refine condI rfl (fun c1 => ?_) (fun c1 => ?_)
  · have c1' : (decide ((i : Int) < x.length) && decide ((i : Int) < 12)) = true := c1
    simp only [Bool.and_eq_true, decide_eq_true_eq] at c1'
    have hin : ((i : Int)).toNat = i := by omega
    have b1 := pick_b (c := (getI x t4.dflt i).1) (n := 3) (by omega)
    have b2 := pick_b (c := (getI x t4.dflt i).2.2.1) (n := 60) (by omega)
    have b3 := pick_b (c := (getI x t4.dflt i).2.2.2) (n := 25) (by omega)
    have b4 : (7 * (i : Int) + 3).tmod 13 = (7 * (i : Int) + 3) % 13 := Int.tmod_eq_emod_of_nonneg (by omega)
    repeat' (first
      | with_reducible refine pN ?_
      | with_reducible refine cN ?_
      | with_reducible refine bN ?_
      | with_reducible refine cE ?_
      | with_reducible refine cR ?_
      | with_reducible refine bR ?_
      | with_reducible refine lE ?_
      | with_reducible refine lR ?_
      | with_reducible refine jE ?_
      | with_reducible refine jR ?_
      | refine bE rfl ?_
      | refine bP rfl ?_
      | refine pC (by first | exact True.intro | omega | (intros; first | exact True.intro | omega) | (simp only [List.length_cons, List.length_nil, Int.toNat_natCast]; omega) | first | omega | (rw [b4]; omega) | (show ((jobsN x i).length + 1) * 56 ≤ 140737488355328; omega)) ?_
      | refine seqI rfl ?_
      | refine regI rfl ?_
      | refine scopeI rfl ?_
      | refine blockI rfl ?_
      | refine exitI rfl ?_
      | refine retI rfl ?_
      | refine skipI rfl ?_)
    refine roundI (i + 1) rfl ?_ ?_ ?_
    · exact ⟨by show i + 1 ≤ x.length; omega, by show i + 1 ≤ 12; omega⟩
    · show 12 - (i + 1) < 12 - i
      omega
    · repeat' (first | exact trivial | with_reducible exact rfl | refine And.intro ?_ ?_)
      all_goals first | rfl | skip
      show jobsN x (i + 1) = _
      rw [jobsN_succ]
      rfl
  · have c1' : (decide ((i : Int) < x.length) && decide ((i : Int) < 12)) = false := c1
    simp only [Bool.and_eq_false_iff, decide_eq_false_iff_not] at c1'
    refine freezeI 3000 rfl ?_
    repeat' (first
      | with_reducible refine pN ?_
      | with_reducible refine cN ?_
      | with_reducible refine bN ?_
      | with_reducible refine cE ?_
      | with_reducible refine cR ?_
      | with_reducible refine bR ?_
      | with_reducible refine lE ?_
      | with_reducible refine lR ?_
      | with_reducible refine jE ?_
      | with_reducible refine jR ?_
      | refine bE rfl ?_
      | refine bP rfl ?_
      | refine pC (by first | exact True.intro | omega | (intros; first | exact True.intro | omega) | (simp only [List.length_cons, List.length_nil, Int.toNat_natCast]; omega)) ?_
      | refine seqI rfl ?_
      | refine regI rfl ?_
      | refine scopeI rfl ?_
      | refine blockI rfl ?_
      | refine exitI rfl ?_
      | refine retI rfl ?_
      | refine skipI rfl ?_)
    refine endR rfl ?_
    repeat' (first | exact trivial | exact rfl | refine And.intro ?_ ?_)
    unfold jobsF
    rw [show min x.length 12 = i by omega]

def rulesZS : Spec := ⟨true, fun args rows => match args, rows with
  | [.int .i64 n], [] => some ⟨True, .sl tInt (rulesF n), [], true⟩
  | _, _ => none⟩

theorem rulesZOk : SpecSound Try.prog 18 rulesZS := by
  refine soundR (envOf sigPickDOk) Try.func18 (c := body Try.f18) rfl (by kernel_rfl) rfl ?_
  intro args rows out hf hpre
  split at hf <;> try (cases hf; done)
  rename_i n
  cases hf
  refine ⟨Nat.le_of_ble_eq_true rfl, initI (args := [.int .i64 n]) (rows := []) rfl ?_⟩
  have b := pick_b (c := n) (n := 10000) (by omega)
  repeat' (first
    | with_reducible refine pN ?_
    | with_reducible refine cN ?_
    | with_reducible refine bN ?_
    | with_reducible refine cE ?_
    | with_reducible refine cR ?_
    | with_reducible refine bR ?_
    | with_reducible refine lE ?_
    | with_reducible refine lR ?_
    | with_reducible refine jE ?_
    | with_reducible refine jR ?_
    | refine bE rfl ?_
    | refine bP rfl ?_
    | refine pC (by first | exact True.intro | omega | (intros; first | exact True.intro | omega) | (simp only [List.length_cons, List.length_nil, Int.toNat_natCast]; omega)) ?_
    | refine seqI rfl ?_
    | refine regI rfl ?_
    | refine scopeI rfl ?_
    | refine blockI rfl ?_
    | refine exitI rfl ?_
    | refine retI rfl ?_
    | refine skipI rfl ?_)
  unfold rulesF
  generalize pickF n 10000 = m at *
  refine loopI (σ := Nat) (fun i => [(0, .int .i64 (rulesP i m).1), (3, .own 3000), (4, .int .i64 i)]) (fun i => [(3000, .seq tInt (rulesP i m).2)]) (fun i => i ≤ 4) (fun i => 4 - i) 0 rfl (fun _ => rfl) rfl ?_ ?_ ?_
  · omega
  · repeat' (first | exact trivial | exact rfl | refine ⟨rfl, ?_⟩ | refine And.intro ?_ ?_)
  rintro i hi
  obtain ⟨r1, r2, r3, r4⟩ := rulesP_ok b.1 b.2 i
  repeat' (first
    | with_reducible refine pN ?_
    | with_reducible refine cN ?_
    | with_reducible refine bN ?_
    | with_reducible refine cE ?_
    | with_reducible refine cR ?_
    | with_reducible refine bR ?_
    | with_reducible refine lE ?_
    | with_reducible refine lR ?_
    | with_reducible refine jE ?_
    | with_reducible refine jR ?_
    | refine bE rfl ?_
    | refine bP rfl ?_
    | refine pC (by first | exact True.intro | omega | (intros; first | exact True.intro | omega) | (simp only [List.length_cons, List.length_nil, Int.toNat_natCast]; omega)) ?_
    | refine seqI rfl ?_
    | refine regI rfl ?_
    | refine scopeI rfl ?_
    | refine blockI rfl ?_
    | refine exitI rfl ?_
    | refine retI rfl ?_
    | refine skipI rfl ?_)
  refine condI rfl (fun c1 => ?_) (fun c1 => ?_)
  · simp only [decide_eq_true_eq] at c1
    repeat' (first
      | with_reducible refine pN ?_
      | with_reducible refine cN ?_
      | with_reducible refine bN ?_
      | with_reducible refine cE ?_
      | with_reducible refine cR ?_
      | with_reducible refine bR ?_
      | with_reducible refine lE ?_
      | with_reducible refine lR ?_
      | with_reducible refine jE ?_
      | with_reducible refine jR ?_
      | refine bE rfl ?_
      | refine bP rfl ?_
      | refine pC (by first | exact True.intro | omega | (intros; first | exact True.intro | omega) | (simp only [List.length_cons, List.length_nil, Int.toNat_natCast]; omega)) ?_
      | refine seqI rfl ?_
      | refine regI rfl ?_
      | refine scopeI rfl ?_
      | refine blockI rfl ?_
      | refine exitI rfl ?_
      | refine retI rfl ?_
      | refine skipI rfl ?_)
    refine loopI (σ := Nat) (fun k => [(6, .bool (decide ((rulesP i m).1.tmod 7 = 0) || ((rulesP i m).2.take k).any fun r => decide (r = (rulesP i m).1.tmod 7))), (7, .int .i64 k)]) (fun k => []) (fun k => k ≤ (rulesP i m).2.length) (fun k => (rulesP i m).2.length - k) 0 rfl (fun _ => rfl) rfl ?_ ?_ ?_
    · exact Nat.zero_le _
    · repeat' (first | exact trivial | with_reducible exact rfl | refine And.intro ?_ ?_)
      all_goals first | rfl | simp
    rintro k hk
    repeat' (first
      | with_reducible refine pN ?_
      | with_reducible refine cN ?_
      | with_reducible refine bN ?_
      | with_reducible refine cE ?_
      | with_reducible refine cR ?_
      | with_reducible refine bR ?_
      | with_reducible refine lE ?_
      | with_reducible refine lR ?_
      | with_reducible refine jE ?_
      | with_reducible refine jR ?_
      | refine bE rfl ?_
      | refine bP rfl ?_
      | refine pC (by first | exact True.intro | omega | (intros; first | exact True.intro | omega) | (simp only [List.length_cons, List.length_nil, Int.toNat_natCast]; omega)) ?_
      | refine seqI rfl ?_
      | refine regI rfl ?_
      | refine scopeI rfl ?_
      | refine blockI rfl ?_
      | refine exitI rfl ?_
      | refine retI rfl ?_
      | refine skipI rfl ?_)
    refine condI rfl (fun c2 => ?_) (fun c2 => ?_)
    · simp only [decide_eq_true_eq] at c2
      have hkl : k < (rulesP i m).2.length := by omega
      have hkn : ((k : Int)).toNat = k := by omega
      repeat' (first
        | with_reducible refine pN ?_
        | with_reducible refine cN ?_
        | with_reducible refine bN ?_
        | with_reducible refine cE ?_
        | with_reducible refine cR ?_
        | with_reducible refine bR ?_
        | with_reducible refine lE ?_
        | with_reducible refine lR ?_
        | with_reducible refine jE ?_
        | with_reducible refine jR ?_
        | refine bE rfl ?_
        | refine bP rfl ?_
        | refine pC (by first | exact True.intro | omega | (intros; first | exact True.intro | omega) | (simp only [List.length_cons, List.length_nil, Int.toNat_natCast]; omega)) ?_
        | refine seqI rfl ?_
        | refine regI rfl ?_
        | refine scopeI rfl ?_
        | refine blockI rfl ?_
        | refine exitI rfl ?_
        | refine retI rfl ?_
        | refine skipI rfl ?_)
      refine roundI (k + 1) rfl ?_ ?_ ?_
      · show k + 1 ≤ (rulesP i m).2.length
        omega
      · show (rulesP i m).2.length - (k + 1) < (rulesP i m).2.length - k
        omega
      · repeat' (first | exact trivial | with_reducible exact rfl | refine And.intro ?_ ?_)
        all_goals first | rfl | skip
        show (decide _ || ((rulesP i m).2.take (k + 1)).any _) = _
        rw [take_succ_getI (d := (0 : Int)) hkl, List.any_append, List.any_cons, List.any_nil, Bool.or_false, ← Bool.or_assoc]
        rfl
    · simp only [decide_eq_false_iff_not] at c2
      rw [List.take_of_length_le (by omega)]
      repeat' (first
        | with_reducible refine pN ?_
        | with_reducible refine cN ?_
        | with_reducible refine bN ?_
        | with_reducible refine cE ?_
        | with_reducible refine cR ?_
        | with_reducible refine bR ?_
        | with_reducible refine lE ?_
        | with_reducible refine lR ?_
        | with_reducible refine jE ?_
        | with_reducible refine jR ?_
        | refine bE rfl ?_
        | refine bP rfl ?_
        | refine pC (by first | exact True.intro | omega | (intros; first | exact True.intro | omega) | (simp only [List.length_cons, List.length_nil, Int.toNat_natCast]; omega)) ?_
        | refine seqI rfl ?_
        | refine regI rfl ?_
        | refine scopeI rfl ?_
        | refine blockI rfl ?_
        | refine exitI rfl ?_
        | refine retI rfl ?_
        | refine skipI rfl ?_)
      refine condI rfl (fun c3 => ?_) (fun c3 => ?_)
      · repeat' (first
          | with_reducible refine pN ?_
          | with_reducible refine cN ?_
          | with_reducible refine bN ?_
          | with_reducible refine cE ?_
          | with_reducible refine cR ?_
          | with_reducible refine bR ?_
          | with_reducible refine lE ?_
          | with_reducible refine lR ?_
          | with_reducible refine jE ?_
          | with_reducible refine jR ?_
          | refine bE rfl ?_
          | refine bP rfl ?_
          | refine pC (by first | exact True.intro | omega | (intros; first | exact True.intro | omega) | (simp only [List.length_cons, List.length_nil, Int.toNat_natCast]; omega)) ?_
          | refine seqI rfl ?_
          | refine regI rfl ?_
          | refine scopeI rfl ?_
          | refine blockI rfl ?_
          | refine exitI rfl ?_
          | refine retI rfl ?_
          | refine skipI rfl ?_)
        refine roundI (i + 1) rfl ?_ ?_ ?_
        · show i + 1 ≤ 4
          omega
        · show 4 - (i + 1) < 4 - i
          omega
        · repeat' (first | exact trivial | with_reducible exact rfl | refine And.intro ?_ ?_)
          all_goals first | rfl | skip
          rw [Bool.not_eq_true'] at c3
          show (if _ then _ else _ : List Int) = _
          rw [if_neg (by rw [c3]; simp)]
      · repeat' (first
          | with_reducible refine pN ?_
          | with_reducible refine cN ?_
          | with_reducible refine bN ?_
          | with_reducible refine cE ?_
          | with_reducible refine cR ?_
          | with_reducible refine bR ?_
          | with_reducible refine lE ?_
          | with_reducible refine lR ?_
          | with_reducible refine jE ?_
          | with_reducible refine jR ?_
          | refine bE rfl ?_
          | refine bP rfl ?_
          | refine pC (by first | exact True.intro | omega | (intros; first | exact True.intro | omega) | (simp only [List.length_cons, List.length_nil, Int.toNat_natCast]; omega)) ?_
          | refine seqI rfl ?_
          | refine regI rfl ?_
          | refine scopeI rfl ?_
          | refine blockI rfl ?_
          | refine exitI rfl ?_
          | refine retI rfl ?_
          | refine skipI rfl ?_)
        refine roundI (i + 1) rfl ?_ ?_ ?_
        · show i + 1 ≤ 4
          omega
        · show 4 - (i + 1) < 4 - i
          omega
        · repeat' (first | exact trivial | with_reducible exact rfl | refine And.intro ?_ ?_)
          all_goals first | rfl | skip
          rw [Bool.not_eq_false'] at c3
          show (if _ then _ else _ : List Int) = _
          rw [if_pos c3]
  · simp only [decide_eq_false_iff_not] at c1
    obtain rfl : i = 4 := by omega
    refine freezeI 3000 rfl ?_
    repeat' (first
      | with_reducible refine pN ?_
      | with_reducible refine cN ?_
      | with_reducible refine bN ?_
      | with_reducible refine cE ?_
      | with_reducible refine cR ?_
      | with_reducible refine bR ?_
      | with_reducible refine lE ?_
      | with_reducible refine lR ?_
      | with_reducible refine jE ?_
      | with_reducible refine jR ?_
      | refine bE rfl ?_
      | refine bP rfl ?_
      | refine pC (by first | exact True.intro | omega | (intros; first | exact True.intro | omega) | (simp only [List.length_cons, List.length_nil, Int.toNat_natCast]; omega)) ?_
      | refine seqI rfl ?_
      | refine regI rfl ?_
      | refine scopeI rfl ?_
      | refine blockI rfl ?_
      | refine exitI rfl ?_
      | refine retI rfl ?_
      | refine skipI rfl ?_)
    refine endR rfl ?_
    repeat' (first | exact trivial | exact rfl | refine ⟨rfl, ?_⟩ | refine And.intro ?_ ?_)

def clI (f : Int) : Int := min (max f (-1000000000000)) 1000000000000
def clJ (j : JobT) : JobT := (j.1, j.2.1, j.2.2.1, j.2.2.2.1, j.2.2.2.2.1, clI j.2.2.2.2.2.1, j.2.2.2.2.2.2)
def fewP (b : List JobT) (i : Nat) : List JobT := (b.take i).map clJ ++ b.drop i
def fewF (raw : List JobT) : List JobT := fewP (raw.take 15) (raw.take 15).length

theorem fewP_len (b : List JobT) (i : Nat) : (fewP b i).length = b.length := by
  unfold fewP
  simp
  omega
theorem fewP_get {b : List JobT} {i : Nat} (h : i < b.length) : getI (fewP b i) jDf i = getI b jDf i := by
  unfold fewP
  have hl : ((b.take i).map clJ).length = i := by simp; omega
  simp only [getI, List.getD]
  rw [List.getElem?_append_right (by omega), hl, Nat.sub_self, List.getElem?_drop, Nat.add_zero]
theorem fewP_set {b : List JobT} {i : Nat} (h : i < b.length) : (fewP b i).set i (clJ (getI (fewP b i) jDf i)) = fewP b (i + 1) := by
  rw [fewP_get h]
  have hl : ((b.take i).map clJ).length = i := by simp; omega
  have hd : b.drop i = getI b jDf i :: b.drop (i + 1) := by rw [getI_elem h]; exact List.drop_eq_getElem_cons h
  unfold fewP
  rw [List.set_append_right _ _ (by omega), hl, Nat.sub_self, hd, List.set_cons_zero, take_succ_getI (d := jDf) h, List.map_append, List.append_assoc]
  rfl

def fewZS : Spec := ⟨true, fun args rows => match args, rows with
  | [.sl (.pair (.int .i64) (.pair (.int .i64) (.pair .bool (.pair (.int .i64) (.pair (.int .i64) (.pair (.int .i64) (.int .i64))))))) raw], [] => some ⟨True, .sl tJob (fewF raw), [], true⟩
  | _, _ => none⟩

theorem fewZOk : SpecSound Try.prog 16 fewZS := by
  refine soundR (envOf sigNil) Try.func16 (c := body Try.f16) rfl (by kernel_rfl) rfl ?_
  intro args rows out hf hpre
  split at hf <;> try (cases hf; done)
  rename_i raw
  cases hf
  refine ⟨Nat.le_of_ble_eq_true rfl, initI (args := [.sl tJob raw]) (rows := []) rfl ?_⟩
  have hbl : (List.take (α := JobT) 15 raw).length ≤ 15 := by rw [List.length_take]; omega
  repeat' (first
    | with_reducible refine pN ?_
    | with_reducible refine cN ?_
    | with_reducible refine bN ?_
    | with_reducible refine cE ?_
    | with_reducible refine cR ?_
    | with_reducible refine bR ?_
    | with_reducible refine lE ?_
    | with_reducible refine lR ?_
    | with_reducible refine jE ?_
    | with_reducible refine jR ?_
    | refine bE rfl ?_
    | refine bP rfl ?_
    | refine pC (by first | exact True.intro | omega | (intros; first | exact True.intro | omega) | (simp only [List.length_cons, List.length_nil, Int.toNat_natCast]; omega) | (refine Nat.le_trans (Nat.mul_le_mul_right 56 (?_ : _ ≤ 24)) (by omega); simp only [List.length_nil, List.length_drop, List.length_take]; omega)) ?_
    | refine seqI rfl ?_
    | refine regI rfl ?_
    | refine scopeI rfl ?_
    | refine blockI rfl ?_
    | refine exitI rfl ?_
    | refine retI rfl ?_
    | refine skipI rfl ?_)
  have e0 : ([] : List JobT) ++ List.drop (Int.toNat 0) (List.take (min (List.length (α := JobT) raw : Int) 15).toNat raw) = List.take (α := JobT) 15 raw := by
    rw [List.nil_append, show Int.toNat 0 = 0 from rfl, List.drop_zero]
    by_cases h : List.length (α := JobT) raw ≤ 15
    · rw [List.take_of_length_le (by omega), List.take_of_length_le (by omega)]
    · rw [show (min (List.length (α := JobT) raw : Int) 15).toNat = 15 by omega]
  refine loopI (σ := Nat) (fun i => [(0, .own 1000), (3, .int .i64 i)]) (fun i => [(1000, .seq tJob (fewP (List.take (α := JobT) 15 raw) i))]) (fun i => i ≤ (List.take (α := JobT) 15 raw).length) (fun i => (List.take (α := JobT) 15 raw).length - i) 0 rfl (fun _ => rfl) rfl ?_ ?_ ?_
  · exact Nat.zero_le _
  · repeat' (first | exact trivial | with_reducible exact rfl | refine And.intro ?_ ?_)
    all_goals first | rfl | skip
    exact e0.symm
  rintro i hi
  unfold fewF
  generalize List.take (α := JobT) 15 raw = b at *
  have hfl := fewP_len b i
  repeat' (first
    | with_reducible refine pN ?_
    | with_reducible refine cN ?_
    | with_reducible refine bN ?_
    | with_reducible refine cE ?_
    | with_reducible refine cR ?_
    | with_reducible refine bR ?_
    | with_reducible refine lE ?_
    | with_reducible refine lR ?_
    | with_reducible refine jE ?_
    | with_reducible refine jR ?_
    | refine bE rfl ?_
    | refine bP rfl ?_
    | refine pC (by first | exact True.intro | omega | (intros; first | exact True.intro | omega) | (simp only [List.length_cons, List.length_nil, Int.toNat_natCast]; omega)) ?_
    | refine seqI rfl ?_
    | refine regI rfl ?_
    | refine scopeI rfl ?_
    | refine blockI rfl ?_
    | refine exitI rfl ?_
    | refine retI rfl ?_
    | refine skipI rfl ?_)
  refine condI rfl (fun c1 => ?_) (fun c1 => ?_)
  · simp only [decide_eq_true_eq] at c1
    have hil : i < b.length := by omega
    have hin : ((i : Int)).toNat = i := by omega
    have hset := fewP_set hil
    repeat' (first
      | with_reducible refine pN ?_
      | with_reducible refine cN ?_
      | with_reducible refine bN ?_
      | with_reducible refine cE ?_
      | with_reducible refine cR ?_
      | with_reducible refine bR ?_
      | with_reducible refine lE ?_
      | with_reducible refine lR ?_
      | with_reducible refine jE ?_
      | with_reducible refine jR ?_
      | refine bE rfl ?_
      | refine bP rfl ?_
      | refine pC (by first | exact True.intro | omega | (intros; first | exact True.intro | omega) | (simp only [List.length_cons, List.length_nil, Int.toNat_natCast]; omega)) ?_
      | refine seqI rfl ?_
      | refine regI rfl ?_
      | refine scopeI rfl ?_
      | refine blockI rfl ?_
      | refine exitI rfl ?_
      | refine retI rfl ?_
      | refine skipI rfl ?_)
    refine roundI (i + 1) rfl ?_ ?_ ?_
    · show i + 1 ≤ b.length
      omega
    · show b.length - (i + 1) < b.length - i
      omega
    · repeat' (first | exact trivial | with_reducible exact rfl | refine And.intro ?_ ?_)
      all_goals first | rfl | skip
      exact hset.symm
  · simp only [decide_eq_false_iff_not] at c1
    obtain rfl : i = b.length := by omega
    refine freezeI 1000 rfl ?_
    repeat' (first
      | with_reducible refine pN ?_
      | with_reducible refine cN ?_
      | with_reducible refine bN ?_
      | with_reducible refine cE ?_
      | with_reducible refine cR ?_
      | with_reducible refine bR ?_
      | with_reducible refine lE ?_
      | with_reducible refine lR ?_
      | with_reducible refine jE ?_
      | with_reducible refine jR ?_
      | refine bE rfl ?_
      | refine bP rfl ?_
      | refine pC (by first | exact True.intro | omega | (intros; first | exact True.intro | omega) | (simp only [List.length_cons, List.length_nil, Int.toNat_natCast]; omega)) ?_
      | refine seqI rfl ?_
      | refine regI rfl ?_
      | refine scopeI rfl ?_
      | refine blockI rfl ?_
      | refine exitI rfl ?_
      | refine retI rfl ?_
      | refine skipI rfl ?_)
    refine endR rfl ?_
    repeat' (first | exact trivial | exact rfl | refine ⟨rfl, ?_⟩ | refine And.intro ?_ ?_)
end Go.AM.Ytkacoophnfljcaa
