/- The law DispatchBatch: her function. -/
import Derived.Test.YtkacoophnfljcaaDiS
set_option linter.all false
namespace Go.AM.Ytkacoophnfljcaa
open Go.Proofs
set_option maxRecDepth 100000
set_option maxHeartbeats 8000000

def lbaS : Spec := plain fun
  | [.sl (.pair (.int .i64) (.pair (.int .i64) (.pair (.int .i64) (.int .i64)))) _, .int .i64 _] => outV True (.bool true)
  | _ => none

def wantF (o : List JobT) (i : Nat) : List Int := ((o.take i).filter fun j => decide (jRec j = jRec (getI o jDf 0))).map jLot
theorem wantF_succ {o : List JobT} {i : Nat} (hi : i < o.length) : wantF o (i + 1) = if jRec (getI o jDf i) = jRec (getI o jDf 0) then wantF o i ++ [jLot (getI o jDf i)] else wantF o i := by
  unfold wantF
  rw [take_succ_getI (d := jDf) hi, List.filter_append]
  by_cases h : jRec (getI o jDf i) = jRec (getI o jDf 0)
  · rw [if_pos h, List.filter_cons_of_pos (by simpa using h), List.filter_nil, List.map_append]
    rfl
  · rw [if_neg h, List.filter_cons_of_neg (by simpa using h), List.filter_nil, List.append_nil]
theorem wantF_len (o : List JobT) (i : Nat) : (wantF o i).length ≤ o.length := by
  unfold wantF
  rw [List.length_map]
  exact Nat.le_trans (List.length_filter_le _ _) (by simp; omega)

theorem lbaOk : SpecSound Try.prog 7 lbaS := by
  refine soundP (envOf sigDlOk) Try.func7 (c := body Try.f7) rfl (by kernel_rfl) rfl ?_
  intro args out hf hpre
  split at hf <;> try (cases hf; done)
  rename_i x n
  cases hf
  refine ⟨Nat.le_of_ble_eq_true rfl, initI (args := [.sl t4 x, .int .i64 n]) rfl ?_⟩
  have hjl := jobsF_len x
  obtain ⟨hr, hrl⟩ := rulesF_ok n
  repeat' (first
    | with_reducible refine pN ?_
    | with_reducible refine cN ?_
    | with_reducible refine bN ?_
    | with_reducible refine cE ?_
    | with_reducible refine cR ?_
    | with_reducible refine bR ?_
    | with_reducible refine lE ?_
    | with_reducible refine lR ?_
    | with_reducible refine jE ?_
    | with_reducible refine jR ?_
    | refine bE rfl ?_
    | refine bP rfl ?_
    | refine pC (by first | exact True.intro | omega | (intros; first | exact True.intro | omega) | (simp only [List.length_cons, List.length_nil, Int.toNat_natCast]; omega) | exact ⟨by omega, by omega⟩) ?_
    | refine seqI rfl ?_
    | refine regI rfl ?_
    | refine scopeI rfl ?_
    | refine blockI rfl ?_
    | refine exitI rfl ?_
    | refine retI rfl ?_
    | refine skipI rfl ?_)
  have hb : batchF (rulesF n) (jobsF x) = (wantF (orderF (rulesF n) 0 (jobsF x)) (orderF (rulesF n) 0 (jobsF x)).length).take 6 := by
    unfold batchF wantF
    rw [List.take_of_length_le (Nat.le_refl _), ← List.map_take]
  have hol := orderF_len (rulesF n) 0 (jobsF x)
  have hbl : (batchF (rulesF n) (jobsF x)).length ≤ 6 := by rw [hb]; simp; omega
  generalize batchF (rulesF n) (jobsF x) = bt at *
  generalize orderF (rulesF n) 0 (jobsF x) = o at *
  refine loopI (σ := Nat) (fun i => [(10, .own 10000), (11, .int .i64 i)]) (fun i => [(10000, .seq tInt (wantF o i))]) (fun i => i ≤ o.length) (fun i => o.length - i) 0 rfl (fun _ => rfl) rfl ?_ ?_ ?_
  · exact Nat.zero_le _
  · repeat' (first | exact trivial | exact rfl | refine ⟨rfl, ?_⟩ | refine And.intro ?_ ?_)
  rintro i hi
  have hwl := wantF_len o i
  repeat' (first
    | with_reducible refine pN ?_
    | with_reducible refine cN ?_
    | with_reducible refine bN ?_
    | with_reducible refine cE ?_
    | with_reducible refine cR ?_
    | with_reducible refine bR ?_
    | with_reducible refine lE ?_
    | with_reducible refine lR ?_
    | with_reducible refine jE ?_
    | with_reducible refine jR ?_
    | refine bE rfl ?_
    | refine bP rfl ?_
    | refine pC (by first | exact True.intro | omega | (intros; first | exact True.intro | omega) | (simp only [List.length_cons, List.length_nil, Int.toNat_natCast]; omega)) ?_
    | refine seqI rfl ?_
    | refine regI rfl ?_
    | refine scopeI rfl ?_
    | refine blockI rfl ?_
    | refine exitI rfl ?_
    | refine retI rfl ?_
    | refine skipI rfl ?_)
  refine condI rfl (fun c1 => ?_) (fun c1 => ?_)
  · simp only [decide_eq_true_eq] at c1
    have hil : i < o.length := by omega
    have hin : ((i : Int)).toNat = i := by omega
    have hs := wantF_succ hil
    repeat' (first
      | with_reducible refine pN ?_
      | with_reducible refine cN ?_
      | with_reducible refine bN ?_
      | with_reducible refine cE ?_
      | with_reducible refine cR ?_
      | with_reducible refine bR ?_
      | with_reducible refine lE ?_
      | with_reducible refine lR ?_
      | with_reducible refine jE ?_
      | with_reducible refine jR ?_
      | refine bE rfl ?_
      | refine bP rfl ?_
      | refine pC (by first | exact True.intro | omega | (intros; first | exact True.intro | omega) | (simp only [List.length_cons, List.length_nil, Int.toNat_natCast]; omega)) ?_
      | refine seqI rfl ?_
      | refine regI rfl ?_
      | refine scopeI rfl ?_
      | refine blockI rfl ?_
      | refine exitI rfl ?_
      | refine retI rfl ?_
      | refine skipI rfl ?_)
    refine condI rfl (fun c2 => ?_) (fun c2 => ?_)
    · simp only [decide_eq_true_eq] at c2
      have c2' : jRec (getI o jDf i) = jRec (getI o jDf 0) := c2
      repeat' (first
        | with_reducible refine pN ?_
        | with_reducible refine cN ?_
        | with_reducible refine bN ?_
        | with_reducible refine cE ?_
        | with_reducible refine cR ?_
        | with_reducible refine bR ?_
        | with_reducible refine lE ?_
        | with_reducible refine lR ?_
        | with_reducible refine jE ?_
        | with_reducible refine jR ?_
        | refine bE rfl ?_
        | refine bP rfl ?_
        | refine pC (by first | exact True.intro | omega | (intros; first | exact True.intro | omega) | (simp only [List.length_cons, List.length_nil, Int.toNat_natCast]; omega) | (show ((wantF o i).length + 1) * 8 ≤ 140737488355328; omega)) ?_
        | refine seqI rfl ?_
        | refine regI rfl ?_
        | refine scopeI rfl ?_
        | refine blockI rfl ?_
        | refine exitI rfl ?_
        | refine retI rfl ?_
        | refine skipI rfl ?_)
      refine roundI (i + 1) rfl ?_ ?_ ?_
      · show i + 1 ≤ o.length
        omega
      · show o.length - (i + 1) < o.length - i
        omega
      · repeat' (first | exact trivial | with_reducible exact rfl | refine And.intro ?_ ?_)
        all_goals first | rfl | skip
        show wantF o (i + 1) = _
        rw [hs, if_pos c2']
        rfl
    · simp only [decide_eq_false_iff_not] at c2
      have c2' : ¬ jRec (getI o jDf i) = jRec (getI o jDf 0) := c2
      repeat' (first
        | with_reducible refine pN ?_
        | with_reducible refine cN ?_
        | with_reducible refine bN ?_
        | with_reducible refine cE ?_
        | with_reducible refine cR ?_
        | with_reducible refine bR ?_
        | with_reducible refine lE ?_
        | with_reducible refine lR ?_
        | with_reducible refine jE ?_
        | with_reducible refine jR ?_
        | refine bE rfl ?_
        | refine bP rfl ?_
        | refine pC (by first | exact True.intro | omega | (intros; first | exact True.intro | omega) | (simp only [List.length_cons, List.length_nil, Int.toNat_natCast]; omega)) ?_
        | refine seqI rfl ?_
        | refine regI rfl ?_
        | refine scopeI rfl ?_
        | refine blockI rfl ?_
        | refine exitI rfl ?_
        | refine retI rfl ?_
        | refine skipI rfl ?_)
      refine roundI (i + 1) rfl ?_ ?_ ?_
      · show i + 1 ≤ o.length
        omega
      · show o.length - (i + 1) < o.length - i
        omega
      · repeat' (first | exact trivial | with_reducible exact rfl | refine And.intro ?_ ?_)
        all_goals first | rfl | skip
        show wantF o (i + 1) = _
        rw [hs, if_neg c2']
  · simp only [decide_eq_false_iff_not] at c1
    repeat' (first
      | with_reducible refine pN ?_
      | with_reducible refine cN ?_
      | with_reducible refine bN ?_
      | with_reducible refine cE ?_
      | with_reducible refine cR ?_
      | with_reducible refine bR ?_
      | with_reducible refine lE ?_
      | with_reducible refine lR ?_
      | with_reducible refine jE ?_
      | with_reducible refine jR ?_
      | refine bE rfl ?_
      | refine bP rfl ?_
      | refine pC (by first | exact True.intro | omega | (intros; first | exact True.intro | omega) | (simp only [List.length_cons, List.length_nil, Int.toNat_natCast]; omega) | (intros; show bt.length ≤ 1000000; omega)) ?_
      | refine seqI rfl ?_
      | refine regI rfl ?_
      | refine scopeI rfl ?_
      | refine blockI rfl ?_
      | refine exitI rfl ?_
      | refine retI rfl ?_
      | refine skipI rfl ?_)
    refine endR rfl ?_
    repeat' (first | exact trivial | exact rfl | refine ⟨rfl, ?_⟩ | refine And.intro ?_ ?_)
    have hil : i = o.length := by omega
    rw [hil, hb]
    show true = sameI _ _
    unfold sameI
    refine (decide_eq_true ?_).symm
    by_cases h : (wantF o o.length).length ≤ 6
    · rw [List.take_of_length_le (by omega), List.take_of_length_le (by omega)]
    · rw [show (min ((wantF o o.length).length : Int) 6).toNat = 6 by omega]
end Go.AM.Ytkacoophnfljcaa
