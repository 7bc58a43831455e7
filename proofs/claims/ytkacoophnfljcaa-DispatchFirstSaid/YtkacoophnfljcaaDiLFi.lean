/- The law DispatchFirst: her function. -/
import Derived.Test.YtkacoophnfljcaaDiV
set_option linter.all false
namespace Go.AM.Ytkacoophnfljcaa
open Go.Proofs
set_option maxRecDepth 100000
set_option maxHeartbeats 8000000

def lfiS : Spec := plain fun
  | [.sl (.pair (.int .i64) (.pair (.int .i64) (.pair (.int .i64) (.int .i64)))) _, .sl (.pair (.int .i64) (.pair (.int .i64) (.pair (.int .i64) (.int .i64)))) _, .int .i64 _, .int .i64 _, .int .i64 _, .int .i64 _] => outV True (.bool true)
  | _ => none

theorem lfiOk : SpecSound Try.prog 4 lfiS := by
  refine soundP (envOf sigDlOk) Try.func4 (c := body Try.f4) rfl (by kernel_rfl) rfl ?_
  intro args out hf hpre
  split at hf <;> try (cases hf; done)
  rename_i bk x n ta na ra
  cases hf
  refine ⟨Nat.le_of_ble_eq_true rfl, initI (args := [.sl t4 bk, .sl t4 x, .int .i64 n, .int .i64 ta, .int .i64 na, .int .i64 ra]) rfl ?_⟩
  have hjl := jobsF_len x
  obtain ⟨hr, hrl⟩ := rulesF_ok n
  have hlots := jobsF_lots x
  have hjok := jobsF_ok x
  have p1 := pick_b (c := ta) (n := 5) (by omega)
  have p2 := pick_b (c := na) (n := 200) (by omega)
  have p3 := pick_b (c := ra) (n := 4) (by omega)
  obtain ⟨g1, g2, g3⟩ := bookAll_ok (someF (bk.take 20)) (by have := someF_len (bk.take 20); omega)
  repeat' (first
    | with_reducible refine pN ?_
    | with_reducible refine cN ?_
    | with_reducible refine bN ?_
    | with_reducible refine cE ?_
    | with_reducible refine cR ?_
    | with_reducible refine bR ?_
    | with_reducible refine lE ?_
    | with_reducible refine lR ?_
    | with_reducible refine jE ?_
    | with_reducible refine jR ?_
    | refine bE rfl ?_
    | refine bP rfl ?_
    | refine pC (by first | exact True.intro | omega | (intros; first | exact True.intro | omega) | (simp only [List.length_cons, List.length_nil, Int.toNat_natCast]; omega) | first | exact ⟨g2, by omega, by omega⟩) ?_
    | refine seqI rfl ?_
    | refine regI rfl ?_
    | refine scopeI rfl ?_
    | refine blockI rfl ?_
    | refine exitI rfl ?_
    | refine retI rfl ?_
    | refine skipI rfl ?_)
  generalize bookAll (someF (bk.take 20)) noCal = xss at *
  generalize pickF ra 4 = rc at *
  generalize pickF ta 5 = tool at *
  generalize pickF na 200 = now at *
  generalize rulesF n = rs at *
  generalize jobsF x = l at *
  have hfit : ∀ j ∈ l, fitB xss tool now rc j = !busyF xss tool now (now + lengthF rc j) := fun j hj => by
    have := hjok j hj
    have := length_b rc j
    exact fit_iff g1 (by omega) (by omega) (by omega) (by omega) (by omega)
  have hyes := pick_spec (xss := xss) (tool := tool) (now := now) (rc := rc) hr hlots
  have hno := pick_no (xss := xss) (tool := tool) (now := now) (rc := rc) hr hlots
  generalize pickJ xss tool now rs rc l = p at *
  obtain ⟨j, ok⟩ := p
  dsimp only at hyes hno ⊢
  repeat' (first
    | with_reducible refine pN ?_
    | with_reducible refine cN ?_
    | with_reducible refine bN ?_
    | with_reducible refine cE ?_
    | with_reducible refine cR ?_
    | with_reducible refine bR ?_
    | with_reducible refine lE ?_
    | with_reducible refine lR ?_
    | with_reducible refine jE ?_
    | with_reducible refine jR ?_
    | refine bE rfl ?_
    | refine bP rfl ?_
    | refine pC (by first | exact True.intro | omega | (intros; first | exact True.intro | omega) | (simp only [List.length_cons, List.length_nil, Int.toNat_natCast]; omega)) ?_
    | refine seqI rfl ?_
    | refine regI rfl ?_
    | refine scopeI rfl ?_
    | refine blockI rfl ?_
    | refine exitI rfl ?_
    | refine retI rfl ?_
    | refine skipI rfl ?_)
  refine loopI (σ := Nat) (fun i => [(20, .int .i64 i)]) (fun i => []) (fun i => i ≤ l.length) (fun i => l.length - i) 0 rfl (fun _ => rfl) rfl ?_ ?_ ?_
  · exact Nat.zero_le _
  · repeat' (first | exact trivial | exact rfl | refine ⟨rfl, ?_⟩ | refine And.intro ?_ ?_)
  rintro i hi
  repeat' (first
    | with_reducible refine pN ?_
    | with_reducible refine cN ?_
    | with_reducible refine bN ?_
    | with_reducible refine cE ?_
    | with_reducible refine cR ?_
    | with_reducible refine bR ?_
    | with_reducible refine lE ?_
    | with_reducible refine lR ?_
    | with_reducible refine jE ?_
    | with_reducible refine jR ?_
    | refine bE rfl ?_
    | refine bP rfl ?_
    | refine pC (by first | exact True.intro | omega | (intros; first | exact True.intro | omega) | (simp only [List.length_cons, List.length_nil, Int.toNat_natCast]; omega)) ?_
    | refine seqI rfl ?_
    | refine regI rfl ?_
    | refine scopeI rfl ?_
    | refine blockI rfl ?_
    | refine exitI rfl ?_
    | refine retI rfl ?_
    | refine skipI rfl ?_)
  refine condI rfl (fun c1 => ?_) (fun c1 => ?_)
  · simp only [decide_eq_true_eq] at c1
    have hil : i < l.length := by omega
    have hin : ((i : Int)).toNat = i := by omega
    have hm := getI_mem hil
    have hj := hjok _ hm
    have hlb := length_b rc (getI l jDf i)
    repeat' (first
      | with_reducible refine pN ?_
      | with_reducible refine cN ?_
      | with_reducible refine bN ?_
      | with_reducible refine cE ?_
      | with_reducible refine cR ?_
      | with_reducible refine bR ?_
      | with_reducible refine lE ?_
      | with_reducible refine lR ?_
      | with_reducible refine jE ?_
      | with_reducible refine jR ?_
      | refine bE rfl ?_
      | refine bP rfl ?_
      | refine pC (by first | exact True.intro | omega | (intros; first | exact True.intro | omega) | (simp only [List.length_cons, List.length_nil, Int.toNat_natCast]; omega) | first | (show In64 (jLen (getI l jDf i) + 20); omega) | (show In64 (now + lengthF rc (getI l jDf i)); omega) | exact g2 | (intros; show List.length (α := Int) rs ≤ 1000000; omega)) ?_
      | refine seqI rfl ?_
      | refine regI rfl ?_
      | refine scopeI rfl ?_
      | refine blockI rfl ?_
      | refine exitI rfl ?_
      | refine retI rfl ?_
      | refine skipI rfl ?_)
    refine condI rfl (fun c2 => ?_) (fun c2 => ?_)
    · exfalso
      have c2' : ((!busyF xss tool now (now + lengthF rc (getI l jDf i)) && (!ok || aheadF rc (getI l jDf i) j rs)) || ((ok && decide (jLot (getI l jDf i) = jLot j)) && !!busyF xss tool now (now + lengthF rc (getI l jDf i)))) = true := c2
      rw [← hfit _ hm] at c2'
      cases ok with
      | false =>
        rw [hno rfl _ hm] at c2'
        cases c2'
      | true =>
        obtain ⟨h1, h2, h3⟩ := hyes rfl
        simp only [Bool.or_eq_true, Bool.and_eq_true, Bool.not_true, Bool.false_or, Bool.true_and, decide_eq_true_eq, Bool.not_eq_true', Bool.false_eq_true, false_or, aheadF_iff hr.1] at c2'
        rcases c2' with ⟨h4, h5⟩ | ⟨h4, h5⟩
        · rw [h3 _ hm h5] at h4; cases h4
        · rw [lots_eq hlots hm h1 h4, h2] at h5; cases h5
    repeat' (first
      | with_reducible refine pN ?_
      | with_reducible refine cN ?_
      | with_reducible refine bN ?_
      | with_reducible refine cE ?_
      | with_reducible refine cR ?_
      | with_reducible refine bR ?_
      | with_reducible refine lE ?_
      | with_reducible refine lR ?_
      | with_reducible refine jE ?_
      | with_reducible refine jR ?_
      | refine bE rfl ?_
      | refine bP rfl ?_
      | refine pC (by first | exact True.intro | omega | (intros; first | exact True.intro | omega) | (simp only [List.length_cons, List.length_nil, Int.toNat_natCast]; omega)) ?_
      | refine seqI rfl ?_
      | refine regI rfl ?_
      | refine scopeI rfl ?_
      | refine blockI rfl ?_
      | refine exitI rfl ?_
      | refine retI rfl ?_
      | refine skipI rfl ?_)
    refine roundI (i + 1) rfl ?_ ?_ ?_
    · show i + 1 ≤ l.length
      omega
    · show l.length - (i + 1) < l.length - i
      omega
    · repeat' (first | exact trivial | exact rfl | refine ⟨rfl, ?_⟩ | refine And.intro ?_ ?_)
  · cases ok with
    | false =>
      repeat' (first
        | with_reducible refine pN ?_
        | with_reducible refine cN ?_
        | with_reducible refine bN ?_
        | with_reducible refine cE ?_
        | with_reducible refine cR ?_
        | with_reducible refine bR ?_
        | with_reducible refine lE ?_
        | with_reducible refine lR ?_
        | with_reducible refine jE ?_
        | with_reducible refine jR ?_
        | refine bE rfl ?_
        | refine bP rfl ?_
        | refine pC (by first | exact True.intro | omega | (intros; first | exact True.intro | omega) | (simp only [List.length_cons, List.length_nil, Int.toNat_natCast]; omega) | first | exact (fun _ h => by cases h) | exact (fun h => by cases h)) ?_
        | refine seqI rfl ?_
        | refine regI rfl ?_
        | refine scopeI rfl ?_
        | refine blockI rfl ?_
        | refine exitI rfl ?_
        | refine retI rfl ?_
        | refine skipI rfl ?_)
      refine endR rfl ?_
      repeat' (first | exact trivial | exact rfl | refine ⟨rfl, ?_⟩ | refine And.intro ?_ ?_)
    | true =>
      obtain ⟨h1, h2, h3⟩ := hyes rfl
      have hj := hjok _ h1
      have hlb := length_b rc j
      have hfree := fit_free (o := 1) g1 (by omega) (by omega) (by omega) (by omega) (by omega) (by omega) h2
      repeat' (first
        | with_reducible refine pN ?_
        | with_reducible refine cN ?_
        | with_reducible refine bN ?_
        | with_reducible refine cE ?_
        | with_reducible refine cR ?_
        | with_reducible refine bR ?_
        | with_reducible refine lE ?_
        | with_reducible refine lR ?_
        | with_reducible refine jE ?_
        | with_reducible refine jR ?_
        | refine bE rfl ?_
        | refine bP rfl ?_
        | refine pC (by first | exact True.intro | omega | (intros; first | exact True.intro | omega) | (simp only [List.length_cons, List.length_nil, Int.toNat_natCast]; omega) | first | (intros; show In64 (jLen j + 20); omega) | (intros; show In64 (now + lengthF rc j); omega) | exact fun _ _ => ⟨g2, g3⟩ | exact fun _ => ⟨g2, g3⟩ | exact ⟨g2, g3⟩) ?_
        | refine seqI rfl ?_
        | refine regI rfl ?_
        | refine scopeI rfl ?_
        | refine blockI rfl ?_
        | refine exitI rfl ?_
        | refine retI rfl ?_
        | refine skipI rfl ?_)
      refine endR rfl ?_
      repeat' (first | exact trivial | exact rfl | refine ⟨rfl, ?_⟩ | refine And.intro ?_ ?_)
      show true = (true && (!true || decide (errF xss (tool, now, now + lengthF rc j, 1) = 0)))
      rw [errF_zero.2 hfree]
      rfl
end Go.AM.Ytkacoophnfljcaa
