/- The law DispatchMatchesReference: her function. -/
import Derived.Test.YtkacoophnfljcaaDiRb
set_option linter.all false
namespace Go.AM.Ytkacoophnfljcaa
open Go.Proofs
set_option maxRecDepth 100000
set_option maxHeartbeats 8000000

/-! ### Lists of lists -/

def ttL2 : List (Nat × TI) := (39, ⟨1, false, .nilsl, (.slice (.slice tJob) 1 24 [.nilsl]), none⟩) :: (41, ⟨1, false, .nilsl, (.slice (.slice (.int .i64)) 1 24 [.nilsl]), none⟩) :: ttL
def ts2 : TT := (ttL2, true, [])
theorem ttL2Ok : ttAll Try.prog ttL2 := ⟨by kernel_rfl, by kernel_rfl, ttLOk⟩
theorem ts2Ok : TTok Try.prog ts2 := TTok.of_all ttL2Ok
theorem envOf2 {S : Nat → Option Spec} (h : SigOk Try.prog S) : Env Try.prog ts2 S := ⟨ts2Ok, h, mixed⟩

theorem soundP2 {S : Nat → Option Spec} (E : Env Try.prog ts2 S) {K : List Nat} {f : Nat} {fn : Func} {c : Code} {F : List AV → Option Out} (hf : Try.prog.funcs[f]? = some fn) (hb : fn.body = some c) (hc : codeOk c = true) (hk : forceL (keepOf fn c) some = some K)
    (h : ∀ args out, F args = some out → out.pre → args.length ≤ fn.ntmps ∧ WP E K c (St.init fn.ntmps args []) (endOf ts2 fn.results.toList 0 out)) : SpecSound Try.prog f (plain F) :=
  spec_of_WP E K hf hb hc fun args rows out hout hpre hr => by
    have := hr rfl
    subst this
    exact h args out hout hpre

theorem fitR_eq {xss : List (List Bk.El)} (g : CalG xss) (tool now rc : Int) : fitRB xss.flatten tool now rc = fitB xss tool now rc := by
  funext j
  unfold fitRB fitRI fitB fitI
  rw [ref_first g]
theorem pickR_eq {xss : List (List Bk.El)} (g : CalG xss) (tool now : Int) (rs : List Int) (rc : Int) (l : List JobT) : pickRJ xss.flatten tool now rs rc l = pickJ xss tool now rs rc l := by
  unfold pickRJ pickJ
  rw [fitR_eq g]

def sigMr : List (Nat × Spec) := [(11, dsaneS),
  (12, dbookS),
  (17, jobsZS),
  (18, rulesZS),
  (16, fewZS),
  (24, sameIS),
  (19, dpickS),
  (22, orderS),
  (25, batchS),
  (29, lengthS),
  (27, validRS),
  (20, rPickS),
  (23, orderS),
  (26, batchS),
  (30, lengthS),
  (28, validRS),
  (21, sameJS),
  (13, refNewS),
  (15, refBookS),
  (14, someS)]
theorem sigMrOk : SigOk Try.prog (look sigMr) := sigCons (sigCons (sigCons (sigCons (sigCons (sigCons (sigCons (sigCons (sigCons (sigCons (sigCons (sigCons (sigCons (sigCons (sigCons (sigCons (sigCons (sigCons (sigCons (sigCons sigNil
  Try.func14 (by kernel_rfl) (c := body Try.f14) rfl someOk)
  Try.func15 (by kernel_rfl) (c := body Try.f15) rfl refBookOk)
  Try.func13 (by kernel_rfl) (c := body Try.f13) rfl refNewOk)
  Try.func21 (by kernel_rfl) (c := body Try.f21) rfl sameJOk)
  Try.func28 (by kernel_rfl) (c := body Try.f28) rfl rValidOk)
  Try.func30 (by kernel_rfl) (c := body Try.f30) rfl rLengthOk)
  Try.func26 (by kernel_rfl) (c := body Try.f26) rfl rBatchOk)
  Try.func23 (by kernel_rfl) (c := body Try.f23) rfl rOrderOk)
  Try.func20 (by kernel_rfl) (c := body Try.f20) rfl rPickOk)
  Try.func27 (by kernel_rfl) (c := body Try.f27) rfl validROk)
  Try.func29 (by kernel_rfl) (c := body Try.f29) rfl lengthOk)
  Try.func25 (by kernel_rfl) (c := body Try.f25) rfl batchOk)
  Try.func22 (by kernel_rfl) (c := body Try.f22) rfl orderOk)
  Try.func19 (by kernel_rfl) (c := body Try.f19) rfl dpickOk)
  Try.func24 (by kernel_rfl) (c := body Try.f24) rfl sameIOk)
  Try.func16 (by kernel_rfl) (c := body Try.f16) rfl fewZOk)
  Try.func18 (by kernel_rfl) (c := body Try.f18) rfl rulesZOk)
  Try.func17 (by kernel_rfl) (c := body Try.f17) rfl jobsZOk)
  Try.func12 (by kernel_rfl) (c := body Try.f12) rfl dbookOk)
  Try.func11 (by kernel_rfl) (c := body Try.f11) rfl dsaneOk

def LLf (raw : List JobT) (x : List t4.El) : List (List JobT) := [fewF raw, jobsF x]
def RRf (ra : List Int) (n : Int) : List (List Int) := [ra, rulesF n]

theorem few_b {raw : List JobT} : ∀ j ∈ fewF raw, -1000000000000 ≤ jLen j ∧ jLen j ≤ 1000000000000 := fun j hj => by
  unfold fewF fewP at hj
  rw [List.take_length, List.drop_length, List.append_nil] at hj
  obtain ⟨k, _, rfl⟩ := List.mem_map.1 hj
  show -1000000000000 ≤ clI _ ∧ clI _ ≤ 1000000000000
  unfold clI
  omega

theorem LL_ok (raw : List JobT) (x : List t4.El) : ∀ a : Nat, a < 2 → (getI (LLf raw x) [] a).length ≤ 15 ∧ ∀ j ∈ getI (LLf raw x) [] a, -1000000000000 ≤ jLen j ∧ jLen j ≤ 1000000000000
  | 0, _ => by
    refine ⟨?_, few_b⟩
    show (fewF raw).length ≤ 15
    unfold fewF; rw [fewP_len, List.length_take]; omega
  | 1, _ => by
    refine ⟨?_, fun j hj => ?_⟩
    · show (jobsF x).length ≤ 15
      have := jobsF_len x
      omega
    · have := jobsF_ok x j hj
      omega
theorem RR_ok {ra : List Int} (h : ra.length ≤ 10) (n : Int) : ∀ b : Nat, b < 2 → (getI (RRf ra n) [] b).length ≤ 10
  | 0, _ => h
  | 1, _ => by
    show (rulesF n).length ≤ 10
    have := (rulesF_ok n).2
    omega

def lmrS : Spec := plain fun
  | [.sl (.pair (.int .i64) (.pair (.int .i64) (.pair .bool (.pair (.int .i64) (.pair (.int .i64) (.pair (.int .i64) (.int .i64))))))) _, .sl (.int .i64) _, .sl (.pair (.int .i64) (.pair (.int .i64) (.pair (.int .i64) (.int .i64)))) _, .int .i64 _, .sl (.pair (.int .i64) (.pair (.int .i64) (.pair (.int .i64) (.int .i64)))) _, .int .i64 _, .int .i64 _, .int .i64 _] => outV True (.bool true)
  | _ => none

theorem lmrOk : SpecSound Try.prog 3 lmrS := by
  refine soundP2 (envOf2 sigMrOk) Try.func3 (c := body Try.f3) rfl (by kernel_rfl) rfl ?_
  intro args out hf hpre
  split at hf <;> try (cases hf; done)
  rename_i raw list x n bk tool now rc
  cases hf
  refine ⟨Nat.le_of_ble_eq_true rfl, initI (args := [.sl tJob raw, .sl tInt list, .sl t4 x, .int .i64 n, .sl t4 bk, .int .i64 tool, .int .i64 now, .int .i64 rc]) rfl ?_⟩
  have hsl := someF_len (bk.take 20)
  repeat' (first
    | with_reducible refine pN ?_
    | with_reducible refine cN ?_
    | with_reducible refine bN ?_
    | with_reducible refine cE ?_
    | with_reducible refine cR ?_
    | with_reducible refine bR ?_
    | with_reducible refine lE ?_
    | with_reducible refine lR ?_
    | with_reducible refine jE ?_
    | with_reducible refine jR ?_
    | refine bE rfl ?_
    | refine bP rfl ?_
    | refine pC (by first | exact True.intro | omega | (intros; first | exact True.intro | omega) | (simp only [List.length_cons, List.length_nil, Int.toNat_natCast]; omega)) ?_
    | refine seqI rfl ?_
    | refine regI rfl ?_
    | refine scopeI rfl ?_
    | refine blockI rfl ?_
    | refine exitI rfl ?_
    | refine retI rfl ?_
    | refine skipI rfl ?_)
  have e0 : List.drop (Int.toNat 0) (List.take (min (bk.length : Int) 20).toNat bk) = bk.take 20 := by
    rw [show Int.toNat 0 = 0 from rfl, List.drop_zero]
    by_cases h : bk.length ≤ 20
    · rw [List.take_of_length_le (by omega), List.take_of_length_le (by omega)]
    · rw [show (min (bk.length : Int) 20).toNat = 20 by omega]
  rw [e0]
  have hra : (List.drop (Int.toNat 0) (List.take (min (List.length (α := Int) list : Int) 10).toNat (list : List Int))).length ≤ 10 := by
    rw [List.length_drop, List.length_take]
    omega
  generalize hRA : (List.drop (Int.toNat 0) (List.take (min (List.length (α := Int) list : Int) 10).toNat (list : List Int)) : List Int) = ra at hra
  clear hRA e0
  generalize someF (bk.take 20) = bl at *
  refine loopI (σ := Nat) (fun i => [(20, .ptr 20000 0), (22, .int .i64 i)]) (fun i => [(20000, .box [.own 20100]), (20100, .seq Bk (bookAll (bl.take i) noCal).flatten)]) (fun i => i ≤ bl.length) (fun i => bl.length - i) 0 rfl (fun _ => rfl) rfl ?_ ?_ ?_
  · exact Nat.zero_le _
  · repeat' (first | exact trivial | exact rfl | refine ⟨rfl, ?_⟩ | refine And.intro ?_ ?_)
  rintro i hi
  obtain ⟨g1, g2, g3⟩ := bookAll_ok (bl.take i) (by rw [List.length_take]; omega)
  have hln := (bookAll_good (l := bl.take i) noCal_good).2
  rw [lenF_no, List.length_take] at hln
  have hfl : (bookAll (bl.take i) noCal).flatten.length ≤ 40 := by rw [flat_len]; omega
  repeat' (first
    | with_reducible refine pN ?_
    | with_reducible refine cN ?_
    | with_reducible refine bN ?_
    | with_reducible refine cE ?_
    | with_reducible refine cR ?_
    | with_reducible refine bR ?_
    | with_reducible refine lE ?_
    | with_reducible refine lR ?_
    | with_reducible refine jE ?_
    | with_reducible refine jR ?_
    | refine bE rfl ?_
    | refine bP rfl ?_
    | refine pC (by first | exact True.intro | omega | (intros; first | exact True.intro | omega) | (simp only [List.length_cons, List.length_nil, Int.toNat_natCast]; omega)) ?_
    | refine seqI rfl ?_
    | refine regI rfl ?_
    | refine scopeI rfl ?_
    | refine blockI rfl ?_
    | refine exitI rfl ?_
    | refine retI rfl ?_
    | refine skipI rfl ?_)
  refine condI rfl (fun c1 => ?_) (fun c1 => ?_)
  · simp only [decide_eq_true_eq] at c1
    have hil : i < bl.length := by omega
    have hin : ((i : Int)).toNat = i := by omega
    repeat' (first
      | with_reducible refine pN ?_
      | with_reducible refine cN ?_
      | with_reducible refine bN ?_
      | with_reducible refine cE ?_
      | with_reducible refine cR ?_
      | with_reducible refine bR ?_
      | with_reducible refine lE ?_
      | with_reducible refine lR ?_
      | with_reducible refine jE ?_
      | with_reducible refine jR ?_
      | refine bE rfl ?_
      | refine bP rfl ?_
      | refine pC (by first | exact True.intro | omega | (intros; first | exact True.intro | omega) | (simp only [List.length_cons, List.length_nil, Int.toNat_natCast]; omega) | (show (bookAll (bl.take i) noCal).flatten.length ≤ 100000; omega)) ?_
      | refine seqI rfl ?_
      | refine regI rfl ?_
      | refine scopeI rfl ?_
      | refine blockI rfl ?_
      | refine exitI rfl ?_
      | refine retI rfl ?_
      | refine skipI rfl ?_)
    refine roundI (i + 1) rfl ?_ ?_ ?_
    · show i + 1 ≤ bl.length
      omega
    · show bl.length - (i + 1) < bl.length - i
      omega
    · repeat' (first | exact trivial | with_reducible exact rfl | refine And.intro ?_ ?_)
      all_goals first | rfl | skip
      show (bookAll (bl.take (i + 1)) noCal).flatten = bookR (bookAll (bl.take i) noCal).flatten (getI bl Bk.dflt i)
      rw [bookAll_take hil, ref_book g1]
  · simp only [decide_eq_false_iff_not] at c1
    obtain rfl : i = bl.length := by omega
    rw [List.take_length] at g1 g2 g3 hfl ⊢
    clear hln
    generalize bookAll bl noCal = xss at *
    have hfl1 : xss.flatten.length ≤ 1000000 := by omega
    repeat' (first
      | with_reducible refine pN ?_
      | with_reducible refine cN ?_
      | with_reducible refine bN ?_
      | with_reducible refine cE ?_
      | with_reducible refine cR ?_
      | with_reducible refine bR ?_
      | with_reducible refine lE ?_
      | with_reducible refine lR ?_
      | with_reducible refine jE ?_
      | with_reducible refine jR ?_
      | refine bE rfl ?_
      | refine bP rfl ?_
      | refine pC (by first | exact True.intro | omega | (intros; first | exact True.intro | omega) | (simp only [List.length_cons, List.length_nil, Int.toNat_natCast]; omega)) ?_
      | refine seqI rfl ?_
      | refine regI rfl ?_
      | refine scopeI rfl ?_
      | refine blockI rfl ?_
      | refine exitI rfl ?_
      | refine retI rfl ?_
      | refine skipI rfl ?_)
    refine loopI (σ := Nat) (fun a => [(66, .own 66000), (67, .int .i64 2), (68, .int .i64 a)]) (fun a => [(66000, .seq (.slice tJob) (LLf raw x))]) (fun a => a ≤ 2) (fun a => 2 - a) 0 rfl (fun _ => rfl) rfl ?_ ?_ ?_
    · exact Nat.zero_le _
    · repeat' (first | exact trivial | exact rfl | refine ⟨rfl, ?_⟩ | refine And.intro ?_ ?_)
    rintro a ha
    have hLl : (LLf raw x).length = 2 := rfl
    repeat' (first
      | with_reducible refine pN ?_
      | with_reducible refine cN ?_
      | with_reducible refine bN ?_
      | with_reducible refine cE ?_
      | with_reducible refine cR ?_
      | with_reducible refine bR ?_
      | with_reducible refine lE ?_
      | with_reducible refine lR ?_
      | with_reducible refine jE ?_
      | with_reducible refine jR ?_
      | refine bE rfl ?_
      | refine bP rfl ?_
      | refine pC (by first | exact True.intro | omega | (intros; first | exact True.intro | omega) | (simp only [List.length_cons, List.length_nil, Int.toNat_natCast]; omega)) ?_
      | refine seqI rfl ?_
      | refine regI rfl ?_
      | refine scopeI rfl ?_
      | refine blockI rfl ?_
      | refine exitI rfl ?_
      | refine retI rfl ?_
      | refine skipI rfl ?_)
    refine condI rfl (fun c2 => ?_) (fun c2 => ?_)
    · simp only [decide_eq_true_eq] at c2
      have ha2 : a < 2 := by omega
      have han : ((a : Int)).toNat = a := by omega
      obtain ⟨hL, hLj⟩ := LL_ok raw x a ha2
      repeat' (first
        | with_reducible refine pN ?_
        | with_reducible refine cN ?_
        | with_reducible refine bN ?_
        | with_reducible refine cE ?_
        | with_reducible refine cR ?_
        | with_reducible refine bR ?_
        | with_reducible refine lE ?_
        | with_reducible refine lR ?_
        | with_reducible refine jE ?_
        | with_reducible refine jR ?_
        | refine bE rfl ?_
        | refine bP rfl ?_
        | refine pC (by first | exact True.intro | omega | (intros; first | exact True.intro | omega) | (simp only [List.length_cons, List.length_nil, Int.toNat_natCast]; omega) | (simp only [hLl]; omega)) ?_
        | refine seqI rfl ?_
        | refine regI rfl ?_
        | refine scopeI rfl ?_
        | refine blockI rfl ?_
        | refine exitI rfl ?_
        | refine retI rfl ?_
        | refine skipI rfl ?_)
      obtain ⟨L, hLe⟩ : ∃ L : List JobT, getI (LLf raw x) [] a = L := ⟨_, rfl⟩
      rw [hLe] at hL hLj
      refine loopI (σ := Nat) (fun b => [(24, .sl tJob L), (75, .own 75000), (76, .int .i64 2), (77, .int .i64 b)]) (fun b => [(75000, .seq (.slice tInt) (RRf ra n))]) (fun b => b ≤ 2) (fun b => 2 - b) 0 rfl (fun _ => rfl) rfl ?_ ?_ ?_
      · exact Nat.zero_le _
      · repeat' (first | exact trivial | with_reducible exact rfl | refine And.intro ?_ ?_)
        all_goals first | rfl | exact hLe.symm | exact hLe
      rintro b hb
      have hRl : (RRf ra n).length = 2 := rfl
      repeat' (first
        | with_reducible refine pN ?_
        | with_reducible refine cN ?_
        | with_reducible refine bN ?_
        | with_reducible refine cE ?_
        | with_reducible refine cR ?_
        | with_reducible refine bR ?_
        | with_reducible refine lE ?_
        | with_reducible refine lR ?_
        | with_reducible refine jE ?_
        | with_reducible refine jR ?_
        | refine bE rfl ?_
        | refine bP rfl ?_
        | refine pC (by first | exact True.intro | omega | (intros; first | exact True.intro | omega) | (simp only [List.length_cons, List.length_nil, Int.toNat_natCast]; omega)) ?_
        | refine seqI rfl ?_
        | refine regI rfl ?_
        | refine scopeI rfl ?_
        | refine blockI rfl ?_
        | refine exitI rfl ?_
        | refine retI rfl ?_
        | refine skipI rfl ?_)
      refine condI rfl (fun c3 => ?_) (fun c3 => ?_)
      · simp only [decide_eq_true_eq] at c3
        have hb2 : b < 2 := by omega
        have hbn : ((b : Int)).toNat = b := by omega
        have hR := RR_ok hra n b hb2
        repeat' (first | with_reducible refine pN ?_ | with_reducible refine cN ?_ | with_reducible refine bN ?_ | with_reducible refine cE ?_ | with_reducible refine cR ?_ | with_reducible refine bR ?_ | with_reducible refine lE ?_ | with_reducible refine lR ?_ | with_reducible refine jE ?_ | with_reducible refine jR ?_ | refine bE rfl ?_ | refine bP rfl ?_ | refine seqI rfl ?_ | refine scopeI rfl ?_ | refine blockI rfl ?_ | refine exitI rfl ?_ | refine retI rfl ?_ | refine skipI rfl ?_)
        refine regI rfl ?_
        repeat' (first | with_reducible refine pN ?_ | refine pC (by first | exact True.intro | omega | (intros; first | exact True.intro | omega) | (simp only [List.length_cons, List.length_nil, Int.toNat_natCast]; omega) | (simp only [hRl]; omega)) ?_)
        repeat with_reducible refine cN ?_
        obtain ⟨R, hRe⟩ : ∃ R : List Int, getI (RRf ra n) [] b = R := ⟨_, rfl⟩
        rw [hRe] at hR
        refine tidyI [(26, .sl tInt R)] [] rfl rfl ?_ ?_
        · repeat' (first | exact trivial | exact rfl | refine ⟨rfl, ?_⟩ | refine And.intro ?_ ?_)
          exact hRe.symm
        repeat' (first | with_reducible refine pN ?_ | with_reducible refine cN ?_ | with_reducible refine bN ?_ | with_reducible refine cE ?_ | with_reducible refine cR ?_ | with_reducible refine bR ?_ | with_reducible refine lE ?_ | with_reducible refine lR ?_ | with_reducible refine jE ?_ | with_reducible refine jR ?_ | refine bE rfl ?_ | refine bP rfl ?_ | refine seqI rfl ?_ | refine scopeI rfl ?_ | refine exitI rfl ?_ | refine retI rfl ?_ | refine skipI rfl ?_)
        refine regI rfl ?_
        repeat' (first | with_reducible refine pN ?_ | refine pC (by first | exact True.intro | omega | (intros; first | exact True.intro | omega) | (simp only [List.length_cons, List.length_nil, Int.toNat_natCast]; omega) | first | exact ⟨g2, by omega, by omega⟩ | exact ⟨hfl1, by omega, by omega⟩) ?_)
        repeat with_reducible refine cN ?_
        repeat' (first | with_reducible refine pN ?_ | with_reducible refine cN ?_ | with_reducible refine bN ?_ | with_reducible refine cE ?_ | with_reducible refine cR ?_ | with_reducible refine bR ?_ | with_reducible refine lE ?_ | with_reducible refine lR ?_ | with_reducible refine jE ?_ | with_reducible refine jR ?_ | refine bE rfl ?_ | refine bP rfl ?_ | refine seqI rfl ?_ | refine scopeI rfl ?_ | refine exitI rfl ?_ | refine retI rfl ?_ | refine skipI rfl ?_)
        refine regI rfl ?_
        repeat' (first | with_reducible refine pN ?_ | refine pC (by first | exact True.intro | omega | (intros; first | exact True.intro | omega) | (simp only [List.length_cons, List.length_nil, Int.toNat_natCast]; omega) | first | exact ⟨g2, by omega, by omega⟩ | exact ⟨hfl1, by omega, by omega⟩) ?_)
        repeat with_reducible refine cN ?_
        rw [pickR_eq g1]
        generalize pickJ xss tool now R rc L = p
        have hol : (orderF R rc L).length ≤ 1000000 := by have := orderF_len R rc L; omega
        have hbl : (batchF R L).length ≤ 1000000 := by unfold batchF; simp; omega
        have h1 : (!(p.2 == p.2) || !eqJ p.1 p.1) = false := by rw [eqJ_iff.2 rfl, beq_self_eq_true]; rfl
        have h2 : (false || !sameJF (orderF R rc L) (orderF R rc L)) = false := by unfold sameJF; rw [decide_eq_true rfl]; rfl
        refine seqI rfl ?_
        refine regH [(109, false), (121, false)] rfl ?_
        repeat' (first | with_reducible refine pN ?_ | refine pC (by first | exact True.intro | exact h1 | exact h2 | exact ⟨by omega, by omega⟩ | exact fun _ => ⟨by omega, by omega⟩ | exact hol | exact fun _ => hol | exact hbl | exact fun _ => hbl | (intros; show R.length ≤ 1000000; omega)) ?_)
        repeat with_reducible refine cN ?_
        refine condI rfl (fun c4 => ?_) (fun c4 => ?_)
        · exfalso
          have c4' : ((false || !sameI (batchF R L) (batchF R L)) || !(rulesB R == rulesB R)) = true := c4
          unfold sameI at c4'
          rw [decide_eq_true rfl, beq_self_eq_true] at c4'
          cases c4'
        clear c4
        repeat' (first
          | with_reducible refine pN ?_
          | with_reducible refine cN ?_
          | with_reducible refine bN ?_
          | with_reducible refine cE ?_
          | with_reducible refine cR ?_
          | with_reducible refine bR ?_
          | with_reducible refine lE ?_
          | with_reducible refine lR ?_
          | with_reducible refine jE ?_
          | with_reducible refine jR ?_
          | refine bE rfl ?_
          | refine bP rfl ?_
          | refine pC (by first | exact True.intro | omega | (intros; first | exact True.intro | omega) | (simp only [List.length_cons, List.length_nil, Int.toNat_natCast]; omega)) ?_
          | refine seqI rfl ?_
          | refine regI rfl ?_
          | refine scopeI rfl ?_
          | refine blockI rfl ?_
          | refine exitI rfl ?_
          | refine retI rfl ?_
          | refine skipI rfl ?_)
        refine roundI (b + 1) rfl ?_ ?_ ?_
        · show b + 1 ≤ 2
          omega
        · show 2 - (b + 1) < 2 - b
          omega
        · repeat' (first | exact trivial | exact rfl | refine ⟨rfl, ?_⟩ | refine And.intro ?_ ?_)
      · simp only [decide_eq_false_iff_not] at c3
        repeat' (first
          | with_reducible refine pN ?_
          | with_reducible refine cN ?_
          | with_reducible refine bN ?_
          | with_reducible refine cE ?_
          | with_reducible refine cR ?_
          | with_reducible refine bR ?_
          | with_reducible refine lE ?_
          | with_reducible refine lR ?_
          | with_reducible refine jE ?_
          | with_reducible refine jR ?_
          | refine bE rfl ?_
          | refine bP rfl ?_
          | refine pC (by first | exact True.intro | omega | (intros; first | exact True.intro | omega) | (simp only [List.length_cons, List.length_nil, Int.toNat_natCast]; omega)) ?_
          | refine seqI rfl ?_
          | refine regI rfl ?_
          | refine scopeI rfl ?_
          | refine blockI rfl ?_
          | refine exitI rfl ?_
          | refine retI rfl ?_
          | refine skipI rfl ?_)
        refine loopI (σ := Nat) (fun k => [(31, .int .i64 k)]) (fun k => []) (fun k => k ≤ L.length) (fun k => L.length - k) 0 rfl (fun _ => rfl) rfl ?_ ?_ ?_
        · exact Nat.zero_le _
        · repeat' (first | exact trivial | exact rfl | refine ⟨rfl, ?_⟩ | refine And.intro ?_ ?_)
        rintro k hk
        repeat' (first
          | with_reducible refine pN ?_
          | with_reducible refine cN ?_
          | with_reducible refine bN ?_
          | with_reducible refine cE ?_
          | with_reducible refine cR ?_
          | with_reducible refine bR ?_
          | with_reducible refine lE ?_
          | with_reducible refine lR ?_
          | with_reducible refine jE ?_
          | with_reducible refine jR ?_
          | refine bE rfl ?_
          | refine bP rfl ?_
          | refine pC (by first | exact True.intro | omega | (intros; first | exact True.intro | omega) | (simp only [List.length_cons, List.length_nil, Int.toNat_natCast]; omega)) ?_
          | refine seqI rfl ?_
          | refine regI rfl ?_
          | refine scopeI rfl ?_
          | refine blockI rfl ?_
          | refine exitI rfl ?_
          | refine retI rfl ?_
          | refine skipI rfl ?_)
        refine condI rfl (fun c4 => ?_) (fun c4 => ?_)
        · simp only [decide_eq_true_eq] at c4
          have hkl : k < L.length := by omega
          have hkn : ((k : Int)).toNat = k := by omega
          have hlj := hLj _ (getJ_mem hkl)
          repeat' (first
            | with_reducible refine pN ?_
            | with_reducible refine cN ?_
            | with_reducible refine bN ?_
            | with_reducible refine cE ?_
            | with_reducible refine cR ?_
            | with_reducible refine bR ?_
            | with_reducible refine lE ?_
            | with_reducible refine lR ?_
            | with_reducible refine jE ?_
            | with_reducible refine jR ?_
            | refine bE rfl ?_
            | refine bP rfl ?_
            | refine pC (by first | exact True.intro | omega | (intros; first | exact True.intro | omega) | (simp only [List.length_cons, List.length_nil, Int.toNat_natCast]; omega) | (show In64 (jLen (getI L jDf k) + 20); omega)) ?_
            | refine seqI rfl ?_
            | refine regI rfl ?_
            | refine scopeI rfl ?_
            | refine blockI rfl ?_
            | refine exitI rfl ?_
            | refine retI rfl ?_
            | refine skipI rfl ?_)
          refine condI rfl (fun c5 => ?_) (fun c5 => ?_)
          · exfalso
            simp only [decide_eq_true_eq] at c5
            exact c5 rfl
          repeat' (first
            | with_reducible refine pN ?_
            | with_reducible refine cN ?_
            | with_reducible refine bN ?_
            | with_reducible refine cE ?_
            | with_reducible refine cR ?_
            | with_reducible refine bR ?_
            | with_reducible refine lE ?_
            | with_reducible refine lR ?_
            | with_reducible refine jE ?_
            | with_reducible refine jR ?_
            | refine bE rfl ?_
            | refine bP rfl ?_
            | refine pC (by first | exact True.intro | omega | (intros; first | exact True.intro | omega) | (simp only [List.length_cons, List.length_nil, Int.toNat_natCast]; omega)) ?_
            | refine seqI rfl ?_
            | refine regI rfl ?_
            | refine scopeI rfl ?_
            | refine blockI rfl ?_
            | refine exitI rfl ?_
            | refine retI rfl ?_
            | refine skipI rfl ?_)
          refine roundI (k + 1) rfl ?_ ?_ ?_
          · show k + 1 ≤ L.length
            omega
          · show L.length - (k + 1) < L.length - k
            omega
          · repeat' (first | exact trivial | exact rfl | refine ⟨rfl, ?_⟩ | refine And.intro ?_ ?_)
        · repeat' (first
            | with_reducible refine pN ?_
            | with_reducible refine cN ?_
            | with_reducible refine bN ?_
            | with_reducible refine cE ?_
            | with_reducible refine cR ?_
            | with_reducible refine bR ?_
            | with_reducible refine lE ?_
            | with_reducible refine lR ?_
            | with_reducible refine jE ?_
            | with_reducible refine jR ?_
            | refine bE rfl ?_
            | refine bP rfl ?_
            | refine pC (by first | exact True.intro | omega | (intros; first | exact True.intro | omega) | (simp only [List.length_cons, List.length_nil, Int.toNat_natCast]; omega)) ?_
            | refine seqI rfl ?_
            | refine regI rfl ?_
            | refine scopeI rfl ?_
            | refine blockI rfl ?_
            | refine exitI rfl ?_
            | refine retI rfl ?_
            | refine skipI rfl ?_)
          refine roundI (a + 1) rfl ?_ ?_ ?_
          · show a + 1 ≤ 2
            omega
          · show 2 - (a + 1) < 2 - a
            omega
          · repeat' (first | exact trivial | exact rfl | refine ⟨rfl, ?_⟩ | refine And.intro ?_ ?_)
    · repeat' (first
        | with_reducible refine pN ?_
        | with_reducible refine cN ?_
        | with_reducible refine bN ?_
        | with_reducible refine cE ?_
        | with_reducible refine cR ?_
        | with_reducible refine bR ?_
        | with_reducible refine lE ?_
        | with_reducible refine lR ?_
        | with_reducible refine jE ?_
        | with_reducible refine jR ?_
        | refine bE rfl ?_
        | refine bP rfl ?_
        | refine pC (by first | exact True.intro | omega | (intros; first | exact True.intro | omega) | (simp only [List.length_cons, List.length_nil, Int.toNat_natCast]; omega)) ?_
        | refine seqI rfl ?_
        | refine regI rfl ?_
        | refine scopeI rfl ?_
        | refine blockI rfl ?_
        | refine exitI rfl ?_
        | refine retI rfl ?_
        | refine skipI rfl ?_)
      refine endR rfl ?_
      repeat' (first | exact trivial | exact rfl | refine ⟨rfl, ?_⟩ | refine And.intro ?_ ?_)
end Go.AM.Ytkacoophnfljcaa
