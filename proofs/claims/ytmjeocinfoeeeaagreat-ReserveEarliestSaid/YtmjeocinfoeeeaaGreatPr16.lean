/- CaD, CaS, CaRefA. -/
import Derived.Test.YtmjeocinfoeeeaaGreatPr13
import Derived.Test.YtmjeocinfoeeeaaGreatPr15

section
set_option linter.all false
namespace Go.AM.YtmjeocinfoeeeaaGreat
open Go.Proofs
set_option maxRecDepth 100000
set_option maxHeartbeats 4000000
def startB (b : Bk.El) : Int := b.2.1
def SortedB (xs : List Bk.El) : Prop := ∀ i j, i < j → j < xs.length → startB (getI xs Bk.dflt i) ≤ startB (getI xs Bk.dflt j)
def posF (xs : List Bk.El) (s : Int) : Nat := (xs.takeWhile fun b => decide (startB b < s)).length
theorem posF_eq {s : Int} : ∀ {xs : List Bk.El} {i : Nat}, i ≤ xs.length → (∀ k, k < i → startB (getI xs Bk.dflt k) < s) → (i < xs.length → s ≤ startB (getI xs Bk.dflt i)) → posF xs s = i
  | [], i, h, _, _ => by simp at h; subst h; rfl
  | x :: xs, 0, _, _, h => by
    have h0 : s ≤ startB x := h (by simp)
    unfold posF
    rw [List.takeWhile_cons_of_neg (by simp; omega)]; rfl
  | x :: xs, i + 1, hi, hl, h => by
    have h0 : startB x < s := hl 0 (by omega)
    have := posF_eq (xs := xs) (i := i) (by simpa using hi) (fun k hk => hl (k + 1) (by omega)) (fun hi => h (by simpa using hi))
    unfold posF at this ⊢
    rw [List.takeWhile_cons_of_pos (by simpa using h0)]
    simp [this]
def foundF (xs : List Bk.El) (s : Int) : Bool := decide ((posF xs s : Int) < xs.length) && decide (cmpI (startB (getI xs Bk.dflt (posF xs s))) s = 0)
theorem half_u (n : Int) (h : 0 ≤ n) (k : n < 9223372036854775808) : IntKind.wrap .i64 ((IntKind.wrap .u64 n).fdiv (2 ^ (min (1 : Int).toNat IntKind.u64.bits))) = n / 2 := by
  have h1 : IntKind.wrap .u64 n = n := by simp [IntKind.wrap, IntKind.signed, IntKind.bits]; omega
  have h2 : (2 : Int) ^ (min (1 : Int).toNat IntKind.u64.bits) = 2 := by simp [IntKind.bits]
  rw [h1, h2, Int.fdiv_eq_ediv_of_nonneg _ (by omega)]
  exact wrapId (by omega) (by omega)
def sigBy : List (Nat × Spec) := [(69, byS)]
theorem sigByOk : SigOk Tryz.prog (look sigBy) := sigCons sigNil Tryz.func69 (by kernel_rfl) (c := body Tryz.f69) rfl byOk
def binS : Spec := plain fun
  | [.sl (.pair (.int .i64) (.pair (.int .i64) (.pair (.int .i64) (.int .i64)))) xs, .agg [.int .i64 tl, .int .i64 s, .int .i64 e, .int .i64 o], .fn 69 [] []] =>
    outV (SortedB xs ∧ xs.length ≤ 1000000000) (.tup [.int .i64 (posF xs s), .bool (foundF xs s)])
  | _ => none
theorem cmpI_neg {a b : Int} : cmpI a b < 0 ↔ a < b := by
  unfold cmpI
  split
  · simp; assumption
  · split <;> simp <;> omega
theorem binOk : SpecSound Tryz.prog 108 binS := by
  refine soundP (envOf sigByOk) Tryz.func108 (c := body Tryz.f108) rfl (by kernel_rfl) rfl ?_
  intro args out hf hpre
  split at hf <;> try (cases hf; done)
  rename_i xs tl s e o
  cases hf
  refine ⟨Nat.le_of_ble_eq_true rfl, initI (args := [.sl Bk xs, .agg [.int .i64 tl, .int .i64 s, .int .i64 e, .int .i64 o], .fn 69 [] []]) rfl ?_⟩
  obtain ⟨hso, hlen⟩ := hpre
  repeat' (first|with_reducible (first|apply pN|apply cN|apply bN|apply cE|apply cR|apply bR|apply lE|apply lR|apply jE|apply jR)|refine bE rfl ?_|refine bP rfl ?_|refine pC (by first|exact ⟨⟩|omega|(intros;first|exact ⟨⟩|omega)|(simp only [lcQ, lnQ, tnQ];omega)) ?_|refine seqI rfl ?_|refine regI rfl ?_|refine scopeI rfl ?_|refine blockI rfl ?_|refine exitI rfl ?_|refine retI rfl ?_|refine skipI rfl ?_)
  refine loopI (σ := Nat × Nat) (fun p => [(9, .int .i64 p.1), (10, .int .i64 p.2)]) (fun p => []) (fun p => p.1 ≤ p.2 ∧ p.2 ≤ xs.length ∧ (∀ k, k < p.1 → startB (getI xs Bk.dflt k) < s) ∧ (p.2 < xs.length → s ≤ startB (getI xs Bk.dflt p.2))) (fun p => p.2 - p.1) (0, xs.length) rfl (fun _ => rfl) rfl ?_ ?_ ?_
  · exact ⟨Nat.zero_le _, Nat.le_refl _, fun k hk => by omega, fun h => by omega⟩
  · repeat' (first | exact trivial | exact rfl | refine ⟨rfl, ?_⟩ | refine And.intro ?_ ?_)
  · rintro ⟨i, j⟩ ⟨h1, h2, h3, h4⟩
    simp only at h1 h2 h3 h4
    repeat' (first|with_reducible (first|apply pN|apply cN|apply bN|apply cE|apply cR|apply bR|apply lE|apply lR|apply jE|apply jR)|refine bE rfl ?_|refine bP rfl ?_|refine pC (by first|exact ⟨⟩|omega|(intros;first|exact ⟨⟩|omega)|(simp only [lcQ, lnQ, tnQ];omega)) ?_|refine seqI rfl ?_|refine regI rfl ?_|refine scopeI rfl ?_|refine blockI rfl ?_|refine exitI rfl ?_|refine retI rfl ?_|refine skipI rfl ?_)
    refine condI rfl (fun c1 => ?_) (fun c1 => ?_)
    · simp only [decide_eq_true_eq] at c1
      have hij : i < j := by omega
      refine skipI rfl ?_
      with_reducible refine cN ?_
      refine blockI rfl ?_
      refine seqI rfl ?_
      refine regI rfl ?_
      repeat' (first|with_reducible refine pN ?_|refine pC (by first|exact ⟨⟩|omega|(intros;first|exact ⟨⟩|omega)|(simp only [lcQ, lnQ, tnQ];omega)) ?_)
      with_reducible refine cN ?_
      have hm : ((i + j) / 2 : Nat) < j ∧ i ≤ (i + j) / 2 := by omega
      refine tidyI [(11, .int .i64 (((i + j) / 2 : Nat) : Int))] [] rfl rfl ?_ ?_
      · repeat' (first | exact trivial | exact rfl | refine ⟨rfl, ?_⟩ | refine And.intro ?_ ?_)
        exact ((half_u ((i : Int) + (j : Int)) (by omega) (by omega)).trans (by omega)).symm
      generalize hmm : (i + j) / 2 = mid at hm
      have ht : ((mid : Int)).toNat = mid := by omega
      repeat' (first|with_reducible (first|apply pN|apply cN|apply bN|apply cE|apply cR|apply bR|apply lE|apply lR|apply jE|apply jR)|refine bE rfl ?_|refine bP rfl ?_|refine pC (by first|exact ⟨⟩|omega|(intros;first|exact ⟨⟩|omega)|(simp only [lcQ, lnQ, tnQ];omega)) ?_|refine seqI rfl ?_|refine regI rfl ?_|refine scopeI rfl ?_|refine blockI rfl ?_|refine exitI rfl ?_|refine retI rfl ?_|refine skipI rfl ?_)
      refine condI rfl (fun c2 => ?_) (fun c2 => ?_)
      · simp only [decide_eq_true_eq, cmpI_neg, ht] at c2
        repeat' (first|with_reducible (first|apply pN|apply cN|apply bN|apply cE|apply cR|apply bR|apply lE|apply lR|apply jE|apply jR)|refine bE rfl ?_|refine bP rfl ?_|refine pC (by first|exact ⟨⟩|omega|(intros;first|exact ⟨⟩|omega)|(simp only [lcQ, lnQ, tnQ];omega)) ?_|refine seqI rfl ?_|refine regI rfl ?_|refine scopeI rfl ?_|refine blockI rfl ?_|refine exitI rfl ?_|refine retI rfl ?_|refine skipI rfl ?_)
        refine roundI (mid + 1, j) rfl ?_ ?_ ?_
        · refine ⟨by show mid + 1 ≤ j; omega, h2, fun k hk => ?_, h4⟩
          have hk : k < mid + 1 := hk
          rcases Nat.lt_or_ge k mid with h | h
          · exact Int.lt_of_le_of_lt (hso k mid h (by omega)) c2
          · obtain rfl : k = mid := by omega
            exact c2
        · show j - (mid + 1) < j - i
          omega
        · repeat' (first | exact trivial | exact rfl | refine ⟨rfl, ?_⟩ | refine And.intro ?_ ?_)
      · simp only [decide_eq_false_iff_not, cmpI_neg, ht] at c2
        repeat' (first|with_reducible (first|apply pN|apply cN|apply bN|apply cE|apply cR|apply bR|apply lE|apply lR|apply jE|apply jR)|refine bE rfl ?_|refine bP rfl ?_|refine pC (by first|exact ⟨⟩|omega|(intros;first|exact ⟨⟩|omega)|(simp only [lcQ, lnQ, tnQ];omega)) ?_|refine seqI rfl ?_|refine regI rfl ?_|refine scopeI rfl ?_|refine blockI rfl ?_|refine exitI rfl ?_|refine retI rfl ?_|refine skipI rfl ?_)
        refine roundI (i, mid) rfl ?_ ?_ ?_
        · exact ⟨hm.2, by show mid ≤ xs.length; omega, h3, fun _ => by show s ≤ startB (getI xs Bk.dflt mid); unfold startB; omega⟩
        · show mid - i < j - i
          omega
        · repeat' (first | exact trivial | exact rfl | refine ⟨rfl, ?_⟩ | refine And.intro ?_ ?_)
    · simp only [decide_eq_false_iff_not] at c1
      have hij : i = j := by omega
      repeat' (first|with_reducible (first|apply pN|apply cN|apply bN|apply cE|apply cR|apply bR|apply lE|apply lR|apply jE|apply jR)|refine bE rfl ?_|refine bP rfl ?_|refine pC (by first|exact ⟨⟩|omega|(intros;first|exact ⟨⟩|omega)|(simp only [lcQ, lnQ, tnQ];omega)|first|exact fun h => (by simpa using h)|exact fun _ => trivial) ?_|refine seqI rfl ?_|refine regI rfl ?_|refine scopeI rfl ?_|refine blockI rfl ?_|refine exitI rfl ?_|refine retI rfl ?_|refine skipI rfl ?_)
      have hp := posF_eq (by omega) h3 (by intro h; rw [hij]; exact h4 (by omega))
      refine endR rfl ?_
      repeat' (first | exact trivial | exact rfl | refine ⟨rfl, ?_⟩ | refine And.intro ?_ ?_)
      · rw [hp]
      · unfold foundF
        rw [hp]
        rfl
def sigIns : List (Nat × Spec) := [(108, binS), (109, insS)]
theorem sigInsOk : SigOk Tryz.prog (look sigIns) := sigCons (sigCons sigNil Tryz.func109 (by kernel_rfl) (c := body Tryz.f109) rfl insOk)
  Tryz.func108 (by kernel_rfl) (c := body Tryz.f108) rfl binOk
def addF (xs : List Bk.El) (b : Bk.El) : List Bk.El := insF xs [b] (posF xs (startB b))
theorem posF_le (xs : List Bk.El) (s : Int) : posF xs s ≤ xs.length := (List.takeWhile_sublist _).length_le
def insertedS : Spec := ⟨true, fun args rows => match args, rows with
  | [.own 0, .agg [.int .i64 tl, .int .i64 s, .int .i64 e, .int .i64 o], .fn 69 [] []], [.seq (.pair (.int .i64) (.pair (.int .i64) (.pair (.int .i64) (.int .i64)))) xs] =>
    some ⟨SortedB xs ∧ xs.length ≤ 1000000000, .own 1, [.dead, .seq Bk (addF xs (tl, s, e, o))], true⟩
  | _, _ => none⟩
theorem insertedOk : SpecSound Tryz.prog 68 insertedS := by
  refine soundR (envOf sigInsOk) Tryz.func68 (c := body Tryz.f68) rfl (by kernel_rfl) rfl ?_
  intro args rows out hf hpre
  split at hf <;> try (cases hf; done)
  rename_i tl s e o xs
  cases hf
  refine ⟨Nat.le_of_ble_eq_true rfl, initI (args := [.own 0, .agg [.int .i64 tl, .int .i64 s, .int .i64 e, .int .i64 o], .fn 69 [] []]) (rows := [.seq Bk xs]) rfl ?_⟩
  obtain ⟨hso, hlen⟩ := hpre
  have hp := posF_le xs s
  repeat' (first|with_reducible (first|apply pN|apply cN|apply bN|apply cE|apply cR|apply bR|apply lE|apply lR|apply jE|apply jR)|refine bE rfl ?_|refine bP rfl ?_|refine pC (by first|exact ⟨⟩|omega|(intros;first|exact ⟨⟩|omega)|(simp only [lcQ, lnQ, tnQ];omega)|first|exact ⟨hso, hlen⟩|exact ⟨by omega, by omega, by simp, by simp;omega⟩) ?_|refine seqI rfl ?_|refine regI rfl ?_|refine scopeI rfl ?_|refine blockI rfl ?_|refine exitI rfl ?_|refine retI rfl ?_|refine skipI rfl ?_)
  refine endR rfl ?_
  repeat' (first | exact trivial | exact rfl | refine ⟨rfl, ?_⟩ | refine And.intro ?_ ?_)
def sigBook : List (Nat × Spec) := [(66, validS), (67, busyS), (68, insertedS)]
theorem sigBookOk : SigOk Tryz.prog (look sigBook) := sigCons (sigCons (sigCons sigNil Tryz.func68 (by kernel_rfl) (c := body Tryz.f68) rfl insertedOk)
  Tryz.func67 (by kernel_rfl) (c := body Tryz.f67) rfl busyOk)
  Tryz.func66 (by kernel_rfl) (c := body Tryz.f66) rfl validOk
def freeF (xss : List (List Bk.El)) (b : Bk.El) : Bool := validB b.1 b.2.1 b.2.2.1 b.2.2.2 && !busyF xss b.1 b.2.1 b.2.2.1
def bookF (xss : List (List Bk.El)) (b : Bk.El) : List (List Bk.El) := if freeF xss b = true then xss.set b.1.toNat (addF (toolL xss b.1) b) else xss
def errF (xss : List (List Bk.El)) (b : Bk.El) : Int := if freeF xss b = true then 0 else 70
def CalS (xss : List (List Bk.El)) : Prop := ∀ xs ∈ xss, SortedB xs
def bookS : Spec := ⟨true, fun args rows => match args, rows with
  | [.nilptr, .agg [.int .i64 tl, .int .i64 s, .int .i64 e, .int .i64 o]], [] => some ⟨True, .int .i64 1, [], true⟩
  | [.ptr 0 0, .agg [.int .i64 tl, .int .i64 s, .int .i64 e, .int .i64 o]], [.arr (.pair (.int .i64) (.pair (.int .i64) (.pair (.int .i64) (.int .i64)))) xss none] =>
    some ⟨Cal xss ∧ CalS xss, .int .i64 (errF xss (tl, s, e, o)), [.arr Bk (bookF xss (tl, s, e, o)) none], true⟩
  | _, _ => none⟩
theorem bookOk : SpecSound Tryz.prog 35 bookS := by
  refine soundR (envOf sigBookOk) Tryz.func35 (c := body Tryz.f35) rfl (by kernel_rfl) rfl ?_
  intro args rows out hf hpre
  split at hf <;> try (cases hf; done)
  · rename_i tl s e o
    cases hf
    refine ⟨Nat.le_of_ble_eq_true rfl, initI rfl ?_⟩
    repeat' (first|with_reducible (first|apply pN|apply cN|apply bN|apply cE|apply cR|apply bR|apply lE|apply lR|apply jE|apply jR)|refine bE rfl ?_|refine bP rfl ?_|refine pC (by first|exact ⟨⟩|omega|(intros;first|exact ⟨⟩|omega)|(simp only [lcQ, lnQ, tnQ];omega)) ?_|refine seqI rfl ?_|refine regI rfl ?_|refine scopeI rfl ?_|refine blockI rfl ?_|refine exitI rfl ?_|refine retI rfl ?_|refine skipI rfl ?_)
    refine condT rfl ?_
    repeat' (first|with_reducible (first|apply pN|apply cN|apply bN|apply cE|apply cR|apply bR|apply lE|apply lR|apply jE|apply jR)|refine bE rfl ?_|refine bP rfl ?_|refine pC (by first|exact ⟨⟩|omega|(intros;first|exact ⟨⟩|omega)|(simp only [lcQ, lnQ, tnQ];omega)) ?_|refine seqI rfl ?_|refine regI rfl ?_|refine scopeI rfl ?_|refine blockI rfl ?_|refine exitI rfl ?_|refine retI rfl ?_|refine skipI rfl ?_)
    refine endR rfl ?_
    repeat' (first | exact trivial | exact rfl | refine ⟨rfl, ?_⟩ | refine And.intro ?_ ?_)
  · rename_i tl s e o xss
    cases hf
    obtain ⟨hcal, hso⟩ := hpre
    refine ⟨Nat.le_of_ble_eq_true rfl, initI (args := [.ptr 0 0, .agg [.int .i64 tl, .int .i64 s, .int .i64 e, .int .i64 o]]) (rows := [.arr Bk xss none]) rfl ?_⟩
    repeat' (first|with_reducible (first|apply pN|apply cN|apply bN|apply cE|apply cR|apply bR|apply lE|apply lR|apply jE|apply jR)|refine bE rfl ?_|refine bP rfl ?_|refine pC (by first|exact ⟨⟩|omega|(intros;first|exact ⟨⟩|omega)|(simp only [lcQ, lnQ, tnQ];omega)) ?_|refine seqI rfl ?_|refine regI rfl ?_|refine scopeI rfl ?_|refine blockI rfl ?_|refine exitI rfl ?_|refine retI rfl ?_|refine skipI rfl ?_)
    refine condF rfl ?_
    repeat' (first|with_reducible (first|apply pN|apply cN|apply bN|apply cE|apply cR|apply bR|apply lE|apply lR|apply jE|apply jR)|refine bE rfl ?_|refine bP rfl ?_|refine pC (by first|exact ⟨⟩|omega|(intros;first|exact ⟨⟩|omega)|(simp only [lcQ, lnQ, tnQ];omega)|first|exact hcal|exact fun _ => hcal) ?_|refine seqI rfl ?_|refine regI rfl ?_|refine scopeI rfl ?_|refine blockI rfl ?_|refine exitI rfl ?_|refine retI rfl ?_|refine skipI rfl ?_)
    refine condI rfl (fun c1 => ?_) (fun c1 => ?_)
    · repeat' (first|with_reducible (first|apply pN|apply cN|apply bN|apply cE|apply cR|apply bR|apply lE|apply lR|apply jE|apply jR)|refine bE rfl ?_|refine bP rfl ?_|refine pC (by first|exact ⟨⟩|omega|(intros;first|exact ⟨⟩|omega)|(simp only [lcQ, lnQ, tnQ];omega)) ?_|refine seqI rfl ?_|refine regI rfl ?_|refine scopeI rfl ?_|refine blockI rfl ?_|refine exitI rfl ?_|refine retI rfl ?_|refine skipI rfl ?_)
      refine endR rfl ?_
      repeat' (first | exact trivial | exact rfl | refine ⟨rfl, ?_⟩ | refine And.intro ?_ ?_)
      all_goals
        have hno : freeF xss (tl, s, e, o) = false := by
          unfold freeF
          show (validB tl s e o && !busyF xss tl s e) = false
          revert c1
          cases validB tl s e o <;> cases busyF xss tl s e <;> simp
      · unfold errF
        rw [hno]; rfl
      · unfold bookF
        rw [hno]; rfl
    · have hl := hcal.len
      obtain ⟨hv, hb⟩ : validB tl s e o = true ∧ busyF xss tl s e = false := by
        revert c1
        cases validB tl s e o <;> cases busyF xss tl s e <;> simp
      have htl : toolB tl = true := by
        revert hv
        unfold validB
        cases toolB tl <;> simp
      obtain ⟨h1, h2⟩ := toolB_true htl
      have h3 : tl.toNat < 60 := by omega
      have h4 := hcal.get h3
      have h5 : 0 + 0 + tl.toNat * 1 = tl.toNat := by omega
      repeat' (first|with_reducible (first|apply pN|apply cN|apply bN|apply cE|apply cR|apply bR|apply lE|apply lR|apply jE|apply jR)|refine bE rfl ?_|refine bP rfl ?_|refine pC (by first|exact ⟨⟩|omega|(intros;first|exact ⟨⟩|omega)|(simp only [lcQ, lnQ, tnQ];omega)|first|(rw [h5, hl];omega)|(rw [h5];exact ⟨hso _ h4.1, Nat.le_trans h4.2 (by omega)⟩)|exact rfl) ?_|refine seqI rfl ?_|refine regI rfl ?_|refine scopeI rfl ?_|refine blockI rfl ?_|refine exitI rfl ?_|refine retI rfl ?_|refine skipI rfl ?_)
      have hyes : freeF xss (tl, s, e, o) = true := by
        unfold freeF
        show (validB tl s e o && !busyF xss tl s e) = true
        rw [hv, hb]; rfl
      refine endR rfl ?_
      repeat' (first | exact trivial | exact rfl | refine ⟨rfl, ?_⟩ | refine And.intro ?_ ?_)
      · unfold errF
        rw [hyes]; rfl
      · unfold bookF
        rw [hyes, if_pos rfl, h5]; rfl
end Go.AM.YtmjeocinfoeeeaaGreat
end

section
set_option linter.all false
namespace Go.AM.YtmjeocinfoeeeaaGreat
open Go.Proofs
set_option maxRecDepth 100000
set_option maxHeartbeats 4000000
def pickF (c n : Int) : Int := (if c < 0 then -(c + 1) else c) % n
def pickP : Spec := plain fun
  | [.int .i64 c, .int .i64 n] => outV (0 < n) (.int .i64 (pickF c n))
  | _ => none
theorem pick_b {c n : Int} (h : 0 < n) : 0 ≤ pickF c n ∧ pickF c n < n := ⟨Int.emod_nonneg _ (by omega), Int.emod_lt_of_pos _ h⟩
theorem pickF_neg {c n : Int} (h : 0 < n) (c1 : c < 0) : pickF c n = (0 - (c + 1)).tmod n := by
  unfold pickF; rw [if_pos c1, Int.tmod_eq_emod_of_nonneg (by omega)]; congr 1; omega
theorem pickF_pos {c n : Int} (h : 0 < n) (c1 : ¬ c < 0) : pickF c n = c.tmod n := by
  unfold pickF; rw [if_neg c1, Int.tmod_eq_emod_of_nonneg (by omega)]
theorem pickROk : SpecSound Tryz.prog 65 pickP := by
  refine soundP (envOf sigNil) Tryz.func65 (c := body Tryz.f65) rfl (by kernel_rfl) rfl ?_
  intro args out hf hpre
  split at hf <;> try (cases hf; done)
  rename_i c n
  cases hf
  refine ⟨Nat.le_of_ble_eq_true rfl, initI rfl ?_⟩
  refine factInt (t := 0) rfl (fun hc => ?_)
  have hc := wrap64 hc
  change 0 < n at hpre
  repeat' (first|with_reducible (first|apply pN|apply cN|apply bN|apply cE|apply cR|apply bR|apply lE|apply lR|apply jE|apply jR)|refine bE rfl ?_|refine bP rfl ?_|refine pC (by first|exact ⟨⟩|omega|(intros;first|exact ⟨⟩|omega)|(simp only [lcQ, lnQ, tnQ];omega)) ?_|refine seqI rfl ?_|refine regI rfl ?_|refine scopeI rfl ?_|refine blockI rfl ?_|refine exitI rfl ?_|refine retI rfl ?_|refine skipI rfl ?_)
  refine condI rfl (fun c1 => ?_) (fun c1 => ?_)
  · simp only [decide_eq_true_eq] at c1
    repeat' (first|with_reducible (first|apply pN|apply cN|apply bN|apply cE|apply cR|apply bR|apply lE|apply lR|apply jE|apply jR)|refine bE rfl ?_|refine bP rfl ?_|refine pC (by first|exact ⟨⟩|omega|(intros;first|exact ⟨⟩|omega)|(simp only [lcQ, lnQ, tnQ];omega)) ?_|refine seqI rfl ?_|refine regI rfl ?_|refine scopeI rfl ?_|refine blockI rfl ?_|refine exitI rfl ?_|refine retI rfl ?_|refine skipI rfl ?_)
    refine endR rfl ?_
    repeat' (first | exact trivial | exact rfl | refine ⟨rfl, ?_⟩ | refine And.intro ?_ ?_)
    exact pickF_neg hpre c1
  · simp only [decide_eq_false_iff_not] at c1
    repeat' (first|with_reducible (first|apply pN|apply cN|apply bN|apply cE|apply cR|apply bR|apply lE|apply lR|apply jE|apply jR)|refine bE rfl ?_|refine bP rfl ?_|refine pC (by first|exact ⟨⟩|omega|(intros;first|exact ⟨⟩|omega)|(simp only [lcQ, lnQ, tnQ];omega)) ?_|refine seqI rfl ?_|refine regI rfl ?_|refine scopeI rfl ?_|refine blockI rfl ?_|refine exitI rfl ?_|refine retI rfl ?_|refine skipI rfl ?_)
    refine endR rfl ?_
    repeat' (first | exact trivial | exact rfl | refine ⟨rfl, ?_⟩ | refine And.intro ?_ ?_)
    exact pickF_pos hpre c1
def sigPick : List (Nat × Spec) := [(65, pickP)]
theorem sigPickOk : SigOk Tryz.prog (look sigPick) := sigCons sigNil Tryz.func65 (by kernel_rfl) (c := body Tryz.f65) rfl pickROk
def mkB (e : t4.El) : Bk.El := (pickF e.1 6, pickF e.2.1 300, pickF e.2.1 300 + 1 + pickF e.2.2.1 40, 1 + pickF e.2.2.2 6)
def someF (x : List t4.El) : List Bk.El := (x.take 40).map mkB
theorem someF_len (x : List t4.El) : (someF x).length ≤ 40 := by unfold someF; simp; omega
def someS : Spec := plain fun
  | [.sl (.pair (.int .i64) (.pair (.int .i64) (.pair (.int .i64) (.int .i64)))) x] => some ⟨True, .own 0, [.seq Bk (someF x)], false⟩
  | _ => none
theorem someOk : SpecSound Tryz.prog 34 someS := by
  refine soundP (envOf sigPickOk) Tryz.func34 (c := body Tryz.f34) rfl (by kernel_rfl) rfl ?_
  intro args out hf hpre
  split at hf <;> try (cases hf; done)
  rename_i x
  cases hf
  refine ⟨Nat.le_of_ble_eq_true rfl, initI (args := [.sl t4 x]) rfl ?_⟩
  refine factSl (t := 0) (ty := t4) rfl (fun hxs => ?_)
  have hmx : x.length ≤ 9223372036854775807 := by have := hxs.1; unfold maxLen at this; omega
  repeat' (first|with_reducible (first|apply pN|apply cN|apply bN|apply cE|apply cR|apply bR|apply lE|apply lR|apply jE|apply jR)|refine bE rfl ?_|refine bP rfl ?_|refine pC (by first|exact ⟨⟩|omega|(intros;first|exact ⟨⟩|omega)|(simp only [lcQ, lnQ, tnQ];omega)) ?_|refine seqI rfl ?_|refine regI rfl ?_|refine scopeI rfl ?_|refine blockI rfl ?_|refine exitI rfl ?_|refine retI rfl ?_|refine skipI rfl ?_)
  refine loopI (σ := Nat) (fun i => [(3, .own 3000), (4, .int .i64 i)]) (fun i => [(3000, .seq Bk ((x.take i).map mkB))]) (fun i => i ≤ x.length ∧ i ≤ 40) (fun i => 40 - i) 0 rfl (fun _ => rfl) rfl ?_ ?_ ?_
  · exact ⟨Nat.zero_le _, Nat.zero_le _⟩
  · repeat' (first | exact trivial | exact rfl | refine ⟨rfl, ?_⟩ | refine And.intro ?_ ?_)
  · intro i ⟨hi, hi40⟩
    repeat' (first|with_reducible (first|apply pN|apply cN|apply bN|apply cE|apply cR|apply bR|apply lE|apply lR|apply jE|apply jR)|refine bE rfl ?_|refine bP rfl ?_|refine pC (by first|exact ⟨⟩|omega|(intros;first|exact ⟨⟩|omega)|(simp only [lcQ, lnQ, tnQ];omega)) ?_|refine seqI rfl ?_|refine regI rfl ?_|refine scopeI rfl ?_|refine blockI rfl ?_|refine exitI rfl ?_|refine retI rfl ?_|refine skipI rfl ?_)
    refine condI rfl (fun c1 => ?_) (fun c1 => ?_)
    · simp only [Bool.and_eq_true, decide_eq_true_eq] at c1
      have hix : i < x.length := by omega
      have hin : ((i : Int)).toNat = i := by omega
      have b1 := fun c : Int => pick_b (c := c) (n := 300) (by omega)
      have b2 := fun c : Int => pick_b (c := c) (n := 40) (by omega)
      have b3 := fun c : Int => pick_b (c := c) (n := 6) (by omega)
      have e1 := b1 (getI x t4.dflt ((i : Int)).toNat).2.1
      have e2 := b2 (getI x t4.dflt ((i : Int)).toNat).2.2.1
      have e3 := b3 (getI x t4.dflt ((i : Int)).toNat).2.2.2
      repeat' (first|with_reducible (first|apply pN|apply cN|apply bN|apply cE|apply cR|apply bR|apply lE|apply lR|apply jE|apply jR)|refine bE rfl ?_|refine bP rfl ?_|refine pC (by first|exact ⟨⟩|omega|(intros;first|exact ⟨⟩|omega)|(simp only [lcQ, lnQ, tnQ];omega)|(simp only [List.length_append, List.length_map, List.length_take, List.length_cons, List.length_nil];omega)) ?_|refine seqI rfl ?_|refine regI rfl ?_|refine scopeI rfl ?_|refine blockI rfl ?_|refine exitI rfl ?_|refine retI rfl ?_|refine skipI rfl ?_)
      refine roundI (i + 1) rfl ?_ ?_ ?_
      · exact ⟨by omega, by omega⟩
      · show 40 - (i + 1) < 40 - i
        omega
      · repeat' (first | exact trivial | exact rfl | refine ⟨rfl, ?_⟩ | refine And.intro ?_ ?_)
        rw [take_succ_getI (d := t4.dflt) hix, List.map_append, hin]
        rfl
    · simp only [Bool.and_eq_false_iff, decide_eq_false_iff_not] at c1
      repeat' (first|with_reducible (first|apply pN|apply cN|apply bN|apply cE|apply cR|apply bR|apply lE|apply lR|apply jE|apply jR)|refine bE rfl ?_|refine bP rfl ?_|refine pC (by first|exact ⟨⟩|omega|(intros;first|exact ⟨⟩|omega)|(simp only [lcQ, lnQ, tnQ];omega)) ?_|refine seqI rfl ?_|refine regI rfl ?_|refine scopeI rfl ?_|refine blockI rfl ?_|refine exitI rfl ?_|refine retI rfl ?_|refine skipI rfl ?_)
      refine endR rfl ?_
      repeat' (first | exact trivial | exact rfl | refine ⟨rfl, ?_⟩ | refine And.intro ?_ ?_)
      unfold someF
      rcases c1 with c1 | c1
      · rw [List.take_of_length_le (i := i) (by omega), List.take_of_length_le (i := 40) (by omega)]
      · rw [show i = 40 by omega]
end Go.AM.YtmjeocinfoeeeaaGreat
end

section
set_option linter.all false
namespace Go.AM.YtmjeocinfoeeeaaGreat
open Go.Proofs
set_option maxRecDepth 100000
set_option maxHeartbeats 8000000
def refNewS : Spec := ⟨true, fun args rows => match args, rows with
  | [], [] => some ⟨True, .ptr 0 0, [.box [.own 1], .seq Bk []], true⟩
  | _, _ => none⟩
theorem refNewOk : SpecSound Tryz.prog 33 refNewS := by
  refine soundR (envOf sigNil) Tryz.func33 (c := body Tryz.f33) rfl (by kernel_rfl) rfl ?_
  intro args rows out hf hpre
  split at hf <;> try (cases hf; done)
  cases hf
  refine ⟨Nat.le_of_ble_eq_true rfl, initI (args := []) (rows := []) rfl ?_⟩
  repeat' (first|with_reducible (first|apply pN|apply cN|apply bN|apply cE|apply cR|apply bR|apply lE|apply lR|apply jE|apply jR)|refine bE rfl ?_|refine bP rfl ?_|refine pC (by first|exact ⟨⟩|omega|(intros;first|exact ⟨⟩|omega)|(simp only [lcQ, lnQ, tnQ];omega)) ?_|refine seqI rfl ?_|refine regI rfl ?_|refine scopeI rfl ?_|refine blockI rfl ?_|refine exitI rfl ?_|refine retI rfl ?_|refine skipI rfl ?_)
  refine endR rfl ?_
  repeat' (first | exact trivial | exact rfl | refine ⟨rfl, ?_⟩ | refine And.intro ?_ ?_)
def meetR (t s e : Int) (b : Bk.El) : Bool := decide (b.1 = t) && decide (s < e) && decide (b.2.1 < e) && decide (s < b.2.2.1)
def refBusyS : Spec := plain fun
  | [.el (.slice (.pair (.int .i64) (.pair (.int .i64) (.pair (.int .i64) (.int .i64))))) [xs] 0 0, .int .i64 t, .int .i64 s, .int .i64 e] => outV (List.length (α := Bk.El) xs ≤ 1000000) (.bool (List.any (α := Bk.El) xs (meetR t s e)))
  | _ => none
theorem any_take_yes {α : Type} {p : α → Bool} {d : α} {xs : List α} {i : Nat} (hi : i < xs.length) (h : p (getI xs d i) = true) : xs.any p = true := by
  rw [List.any_eq_true]
  have e : getI xs d i = xs[i] := by simp [getI, List.getD, List.getElem?_eq_getElem hi]
  exact ⟨xs[i], List.getElem_mem hi, by rw [← e]; exact h⟩
theorem refBusyOk : SpecSound Tryz.prog 71 refBusyS := by
  refine soundP (envOf sigNil) Tryz.func71 (c := body Tryz.f71) rfl (by kernel_rfl) rfl ?_
  intro args out hf hpre
  split at hf <;> try (cases hf; done)
  rename_i xs t s e
  cases hf
  refine ⟨Nat.le_of_ble_eq_true rfl, initI (args := [.el (.slice Bk) [xs] 0 0, .int .i64 t, .int .i64 s, .int .i64 e]) rfl ?_⟩
  have hX : getI ([xs] : List (Ty.slice Bk).El) (Ty.slice Bk).dflt 0 = xs := rfl
  have hxs : List.length (α := Bk.El) xs ≤ 1000000 := hpre
  repeat' (first|with_reducible (first|apply pN|apply cN|apply bN|apply cE|apply cR|apply bR|apply lE|apply lR|apply jE|apply jR)|refine bE rfl ?_|refine bP rfl ?_|refine pC (by first|exact ⟨⟩|omega|(intros;first|exact ⟨⟩|omega)|(simp only [lcQ, lnQ, tnQ];omega)|(simp only [hX];omega)) ?_|refine seqI rfl ?_|refine regI rfl ?_|refine scopeI rfl ?_|refine blockI rfl ?_|refine exitI rfl ?_|refine retI rfl ?_|refine skipI rfl ?_)
  refine loopI (σ := Nat) (fun i => [(9, .int .i64 i)]) (fun i => []) (fun i => i ≤ xs.length ∧ List.any (α := Bk.El) (xs.take i) (meetR t s e) = false) (fun i => xs.length - i) 0 rfl (fun _ => rfl) rfl ?_ ?_ ?_
  · exact ⟨Nat.zero_le _, rfl⟩
  · repeat' (first | exact trivial | exact rfl | refine ⟨rfl, ?_⟩ | refine And.intro ?_ ?_)
  · rintro i ⟨hi, hn⟩
    repeat' (first|with_reducible (first|apply pN|apply cN|apply bN|apply cE|apply cR|apply bR|apply lE|apply lR|apply jE|apply jR)|refine bE rfl ?_|refine bP rfl ?_|refine pC (by first|exact ⟨⟩|omega|(intros;first|exact ⟨⟩|omega)|(simp only [lcQ, lnQ, tnQ];omega)|(simp only [hX];omega)) ?_|refine seqI rfl ?_|refine regI rfl ?_|refine scopeI rfl ?_|refine blockI rfl ?_|refine exitI rfl ?_|refine retI rfl ?_|refine skipI rfl ?_)
    refine condI rfl (fun c1 => ?_) (fun c1 => ?_)
    · have c1 : (i : Int) < (List.length (α := Bk.El) xs : Nat) := of_decide_eq_true c1
      have hin : ((i : Int)).toNat = i := by omega
      have hil : i < xs.length := by omega
      repeat' (first|with_reducible (first|apply pN|apply cN|apply bN|apply cE|apply cR|apply bR|apply lE|apply lR|apply jE|apply jR)|refine bE rfl ?_|refine bP rfl ?_|refine pC (by first|exact ⟨⟩|omega|(intros;first|exact ⟨⟩|omega)|(simp only [lcQ, lnQ, tnQ];omega)|(simp only [hX];omega)) ?_|refine seqI rfl ?_|refine regI rfl ?_|refine scopeI rfl ?_|refine blockI rfl ?_|refine exitI rfl ?_|refine retI rfl ?_|refine skipI rfl ?_)
      refine condI rfl (fun c2 => ?_) (fun c2 => ?_)
      · have c2' : meetR t s e (getI xs Bk.dflt ((i : Int)).toNat) = true := c2
        rw [hin] at c2'
        repeat' (first|with_reducible (first|apply pN|apply cN|apply bN|apply cE|apply cR|apply bR|apply lE|apply lR|apply jE|apply jR)|refine bE rfl ?_|refine bP rfl ?_|refine pC (by first|exact ⟨⟩|omega|(intros;first|exact ⟨⟩|omega)|(simp only [lcQ, lnQ, tnQ];omega)|(simp only [hX];omega)) ?_|refine seqI rfl ?_|refine regI rfl ?_|refine scopeI rfl ?_|refine blockI rfl ?_|refine exitI rfl ?_|refine retI rfl ?_|refine skipI rfl ?_)
        refine endR rfl ?_
        repeat' (first | exact trivial | exact rfl | refine ⟨rfl, ?_⟩ | refine And.intro ?_ ?_)
        exact any_take_yes hil c2'
      · have c2' : meetR t s e (getI xs Bk.dflt ((i : Int)).toNat) = false := c2
        rw [hin] at c2'
        repeat' (first|with_reducible (first|apply pN|apply cN|apply bN|apply cE|apply cR|apply bR|apply lE|apply lR|apply jE|apply jR)|refine bE rfl ?_|refine bP rfl ?_|refine pC (by first|exact ⟨⟩|omega|(intros;first|exact ⟨⟩|omega)|(simp only [lcQ, lnQ, tnQ];omega)|(simp only [hX];omega)) ?_|refine seqI rfl ?_|refine regI rfl ?_|refine scopeI rfl ?_|refine blockI rfl ?_|refine exitI rfl ?_|refine retI rfl ?_|refine skipI rfl ?_)
        refine roundI (i + 1) rfl ?_ ?_ ?_
        · refine ⟨by omega, ?_⟩
          rw [take_succ_getI (d := Bk.dflt) hil, List.any_append, hn]
          simp [c2']
        · show xs.length - (i + 1) < xs.length - i
          omega
        · repeat' (first | exact trivial | exact rfl | refine ⟨rfl, ?_⟩ | refine And.intro ?_ ?_)
    · have c1 : ¬ (i : Int) < (List.length (α := Bk.El) xs : Nat) := of_decide_eq_false c1
      rw [List.take_of_length_le (i := i) (by omega)] at hn
      repeat' (first|with_reducible (first|apply pN|apply cN|apply bN|apply cE|apply cR|apply bR|apply lE|apply lR|apply jE|apply jR)|refine bE rfl ?_|refine bP rfl ?_|refine pC (by first|exact ⟨⟩|omega|(intros;first|exact ⟨⟩|omega)|(simp only [lcQ, lnQ, tnQ];omega)|(simp only [hX];omega)) ?_|refine seqI rfl ?_|refine regI rfl ?_|refine scopeI rfl ?_|refine blockI rfl ?_|refine exitI rfl ?_|refine retI rfl ?_|refine skipI rfl ?_)
      refine endR rfl ?_
      repeat' (first | exact trivial | exact rfl | refine ⟨rfl, ?_⟩ | refine And.intro ?_ ?_)
      exact hn
def stepR (t n f : Int) (b : Bk.El) : Int := if b.1 = t ∧ f ≤ 1000000 - n ∧ b.2.1 < f + n ∧ f < b.2.2.1 then b.2.2.1 else f
def foldR (t n : Int) (l : List Bk.El) (f : Int) : Int := l.foldl (stepR t n) f
def refFirstF (l : List Bk.El) (t f n : Int) : Int × Bool :=
  if t < 0 ∨ 60 ≤ t ∨ n < 1 ∨ 1000000 < n then (0, false) else if 1000000 - n < foldR t n l (max f 0) then (0, false) else (foldR t n l (max f 0), true)
theorem stepR_le (t n f : Int) (b : Bk.El) : f ≤ stepR t n f b := by
  unfold stepR
  split
  · omega
  · exact Int.le_refl _
theorem foldR_le (t n : Int) : ∀ (l : List Bk.El) (f : Int), f ≤ foldR t n l f
  | [], f => Int.le_refl _
  | b :: l, f => Int.le_trans (stepR_le t n f b) (foldR_le t n l _)
theorem foldR_take {t n : Int} {l : List Bk.El} {i : Nat} (h : i < l.length) (f : Int) : foldR t n (l.take (i + 1)) f = stepR t n (foldR t n (l.take i) f) (getI l Bk.dflt i) := by
  rw [take_succ_getI (d := Bk.dflt) h]
  unfold foldR
  rw [List.foldl_append]
  rfl
def refFirstS : Spec := plain fun
  | [.el (.slice (.pair (.int .i64) (.pair (.int .i64) (.pair (.int .i64) (.int .i64))))) [xs] 0 0, .int .i64 t, .int .i64 f, .int .i64 n] => outV (List.length (α := Bk.El) xs ≤ 1000000) (.tup [.int .i64 (refFirstF xs t f n).1, .bool (refFirstF xs t f n).2])
  | _ => none
theorem refFirstOk : SpecSound Tryz.prog 75 refFirstS := by
  refine soundP (envOf sigNil) Tryz.func75 (c := body Tryz.f75) rfl (by kernel_rfl) rfl ?_
  intro args out hf hpre
  split at hf <;> try (cases hf; done)
  rename_i xs t f n
  cases hf
  refine ⟨Nat.le_of_ble_eq_true rfl, initI (args := [.el (.slice Bk) [xs] 0 0, .int .i64 t, .int .i64 f, .int .i64 n]) rfl ?_⟩
  have hX : getI ([xs] : List (Ty.slice Bk).El) (Ty.slice Bk).dflt 0 = xs := rfl
  have hxs : List.length (α := Bk.El) xs ≤ 1000000 := hpre
  repeat' (first|with_reducible (first|apply pN|apply cN|apply bN|apply cE|apply cR|apply bR|apply lE|apply lR|apply jE|apply jR)|refine bE rfl ?_|refine bP rfl ?_|refine pC (by first|exact ⟨⟩|omega|(intros;first|exact ⟨⟩|omega)|(simp only [lcQ, lnQ, tnQ];omega)|(simp only [decide_eq_true_eq, decide_eq_false_iff_not, Bool.or_eq_false_iff] at *;omega)) ?_|refine seqI rfl ?_|refine regI rfl ?_|refine scopeI rfl ?_|refine blockI rfl ?_|refine exitI rfl ?_|refine retI rfl ?_|refine skipI rfl ?_)
  refine condI rfl (fun c0 => ?_) (fun c0 => ?_)
  · have c0' : (decide (t < 0) || decide (60 ≤ t) || decide (n < 1) || decide (1000000 < n)) = true := c0
    simp only [Bool.or_eq_true, decide_eq_true_eq, or_assoc] at c0'
    repeat' (first|with_reducible (first|apply pN|apply cN|apply bN|apply cE|apply cR|apply bR|apply lE|apply lR|apply jE|apply jR)|refine bE rfl ?_|refine bP rfl ?_|refine pC (by first|exact ⟨⟩|omega|(intros;first|exact ⟨⟩|omega)|(simp only [lcQ, lnQ, tnQ];omega)|(simp only [hX];omega)) ?_|refine seqI rfl ?_|refine regI rfl ?_|refine scopeI rfl ?_|refine blockI rfl ?_|refine exitI rfl ?_|refine retI rfl ?_|refine skipI rfl ?_)
    refine endR rfl ?_
    repeat' (first | exact trivial | exact rfl | refine ⟨rfl, ?_⟩ | refine And.intro ?_ ?_)
    all_goals
      unfold refFirstF
      rw [if_pos c0']
  · have c0' : (decide (t < 0) || decide (60 ≤ t) || decide (n < 1) || decide (1000000 < n)) = false := c0
    simp only [Bool.or_eq_false_iff, decide_eq_false_iff_not] at c0'
    obtain ⟨⟨⟨h1, h2⟩, h3⟩, h4⟩ := c0'
    have e0 : refFirstF xs t f n = if 1000000 - n < foldR t n xs (max f 0) then (0, false) else (foldR t n xs (max f 0), true) := by
      unfold refFirstF
      rw [if_neg (by omega)]
    repeat' (first|with_reducible (first|apply pN|apply cN|apply bN|apply cE|apply cR|apply bR|apply lE|apply lR|apply jE|apply jR)|refine bE rfl ?_|refine bP rfl ?_|refine pC (by first|exact ⟨⟩|omega|(intros;first|exact ⟨⟩|omega)|(simp only [lcQ, lnQ, tnQ];omega)|(simp only [hX];omega)) ?_|refine seqI rfl ?_|refine regI rfl ?_|refine scopeI rfl ?_|refine blockI rfl ?_|refine exitI rfl ?_|refine retI rfl ?_|refine skipI rfl ?_)
    have hmx : 0 ≤ max f 0 := Int.le_max_right _ _
    generalize max f 0 = f0 at *
    refine loopI (σ := Nat) (fun i => [(10, .int .i64 (foldR t n (xs.take i) f0)), (11, .int .i64 i)]) (fun i => []) (fun i => i ≤ xs.length) (fun i => xs.length - i) 0 rfl (fun _ => rfl) rfl ?_ ?_ ?_
    · exact Nat.zero_le _
    · repeat' (first | exact trivial | exact rfl | refine ⟨rfl, ?_⟩ | refine And.intro ?_ ?_)
    · intro i hi
      have hle := foldR_le t n (xs.take i) f0
      repeat' (first|with_reducible (first|apply pN|apply cN|apply bN|apply cE|apply cR|apply bR|apply lE|apply lR|apply jE|apply jR)|refine bE rfl ?_|refine bP rfl ?_|refine pC (by first|exact ⟨⟩|omega|(intros;first|exact ⟨⟩|omega)|(simp only [lcQ, lnQ, tnQ];omega)|(simp only [hX];omega)) ?_|refine seqI rfl ?_|refine regI rfl ?_|refine scopeI rfl ?_|refine blockI rfl ?_|refine exitI rfl ?_|refine retI rfl ?_|refine skipI rfl ?_)
      refine condI rfl (fun c1 => ?_) (fun c1 => ?_)
      · have c1 : (i : Int) < (List.length (α := Bk.El) xs : Nat) := of_decide_eq_true c1
        have hin : ((i : Int)).toNat = i := by omega
        have hil : i < xs.length := by omega
        repeat' (first|with_reducible (first|apply pN|apply cN|apply bN|apply cE|apply cR|apply bR|apply lE|apply lR|apply jE|apply jR)|refine bE rfl ?_|refine bP rfl ?_|refine pC (by first|exact ⟨⟩|omega|(intros;first|exact ⟨⟩|omega)|(simp only [lcQ, lnQ, tnQ];omega)|first|(simp only [hX];omega)|(simp only [decide_eq_true_eq, Bool.and_eq_true] at *;omega)) ?_|refine seqI rfl ?_|refine regI rfl ?_|refine scopeI rfl ?_|refine blockI rfl ?_|refine exitI rfl ?_|refine retI rfl ?_|refine skipI rfl ?_)
        refine condI rfl (fun c2 => ?_) (fun c2 => ?_)
        · have c2' : (decide ((getI xs Bk.dflt ((i : Int)).toNat).1 = t) && decide (foldR t n (xs.take i) f0 ≤ 1000000 - n) && decide ((getI xs Bk.dflt ((i : Int)).toNat).2.1 < foldR t n (xs.take i) f0 + n) && decide (foldR t n (xs.take i) f0 < (getI xs Bk.dflt ((i : Int)).toNat).2.2.1)) = true := c2
          simp only [hin, Bool.and_eq_true, decide_eq_true_eq, and_assoc] at c2'
          repeat' (first|with_reducible (first|apply pN|apply cN|apply bN|apply cE|apply cR|apply bR|apply lE|apply lR|apply jE|apply jR)|refine bE rfl ?_|refine bP rfl ?_|refine pC (by first|exact ⟨⟩|omega|(intros;first|exact ⟨⟩|omega)|(simp only [lcQ, lnQ, tnQ];omega)|(simp only [hX];omega)) ?_|refine seqI rfl ?_|refine regI rfl ?_|refine scopeI rfl ?_|refine blockI rfl ?_|refine exitI rfl ?_|refine retI rfl ?_|refine skipI rfl ?_)
          refine roundI (i + 1) rfl ?_ ?_ ?_
          · show i + 1 ≤ xs.length
            omega
          · show xs.length - (i + 1) < xs.length - i
            omega
          · repeat' (first | exact trivial | with_reducible exact rfl | refine And.intro ?_ ?_)
            · rw [foldR_take hil]
              unfold stepR
              rw [if_pos c2', hin]
              rfl
            · rfl
        · have c2' : (decide ((getI xs Bk.dflt ((i : Int)).toNat).1 = t) && decide (foldR t n (xs.take i) f0 ≤ 1000000 - n) && decide ((getI xs Bk.dflt ((i : Int)).toNat).2.1 < foldR t n (xs.take i) f0 + n) && decide (foldR t n (xs.take i) f0 < (getI xs Bk.dflt ((i : Int)).toNat).2.2.1)) = false := c2
          rw [← Bool.not_eq_true] at c2'
          simp only [hin, Bool.and_eq_true, decide_eq_true_eq, and_assoc] at c2'
          repeat' (first|with_reducible (first|apply pN|apply cN|apply bN|apply cE|apply cR|apply bR|apply lE|apply lR|apply jE|apply jR)|refine bE rfl ?_|refine bP rfl ?_|refine pC (by first|exact ⟨⟩|omega|(intros;first|exact ⟨⟩|omega)|(simp only [lcQ, lnQ, tnQ];omega)|(simp only [hX];omega)) ?_|refine seqI rfl ?_|refine regI rfl ?_|refine scopeI rfl ?_|refine blockI rfl ?_|refine exitI rfl ?_|refine retI rfl ?_|refine skipI rfl ?_)
          refine roundI (i + 1) rfl ?_ ?_ ?_
          · show i + 1 ≤ xs.length
            omega
          · show xs.length - (i + 1) < xs.length - i
            omega
          · repeat' (first | exact trivial | with_reducible exact rfl | refine And.intro ?_ ?_)
            · rw [foldR_take hil]
              unfold stepR
              rw [if_neg c2']
            · rfl
      · have c1 : ¬ (i : Int) < (List.length (α := Bk.El) xs : Nat) := of_decide_eq_false c1
        rw [List.take_of_length_le (i := i) (by omega)] at hle ⊢
        repeat' (first|with_reducible (first|apply pN|apply cN|apply bN|apply cE|apply cR|apply bR|apply lE|apply lR|apply jE|apply jR)|refine bE rfl ?_|refine bP rfl ?_|refine pC (by first|exact ⟨⟩|omega|(intros;first|exact ⟨⟩|omega)|(simp only [lcQ, lnQ, tnQ];omega)|(simp only [hX];omega)) ?_|refine seqI rfl ?_|refine regI rfl ?_|refine scopeI rfl ?_|refine blockI rfl ?_|refine exitI rfl ?_|refine retI rfl ?_|refine skipI rfl ?_)
        refine condI rfl (fun c2 => ?_) (fun c2 => ?_)
        · simp only [decide_eq_true_eq] at c2
          repeat' (first|with_reducible (first|apply pN|apply cN|apply bN|apply cE|apply cR|apply bR|apply lE|apply lR|apply jE|apply jR)|refine bE rfl ?_|refine bP rfl ?_|refine pC (by first|exact ⟨⟩|omega|(intros;first|exact ⟨⟩|omega)|(simp only [lcQ, lnQ, tnQ];omega)|(simp only [hX];omega)) ?_|refine seqI rfl ?_|refine regI rfl ?_|refine scopeI rfl ?_|refine blockI rfl ?_|refine exitI rfl ?_|refine retI rfl ?_|refine skipI rfl ?_)
          refine endR rfl ?_
          repeat' (first | exact trivial | exact rfl | refine ⟨rfl, ?_⟩ | refine And.intro ?_ ?_)
          all_goals rw [e0, if_pos c2]
        · simp only [decide_eq_false_iff_not] at c2
          repeat' (first|with_reducible (first|apply pN|apply cN|apply bN|apply cE|apply cR|apply bR|apply lE|apply lR|apply jE|apply jR)|refine bE rfl ?_|refine bP rfl ?_|refine pC (by first|exact ⟨⟩|omega|(intros;first|exact ⟨⟩|omega)|(simp only [lcQ, lnQ, tnQ];omega)|(simp only [hX];omega)) ?_|refine seqI rfl ?_|refine regI rfl ?_|refine scopeI rfl ?_|refine blockI rfl ?_|refine exitI rfl ?_|refine retI rfl ?_|refine skipI rfl ?_)
          refine endR rfl ?_
          repeat' (first | exact trivial | exact rfl | refine ⟨rfl, ?_⟩ | refine And.intro ?_ ?_)
          all_goals rw [e0, if_neg c2]
def aheadB (b c : Bk.El) : Bool := decide (c.1 < b.1) || (decide (c.1 = b.1) && decide (c.2.1 < b.2.1))
def posR (xs : List Bk.El) (b : Bk.El) : Nat := (xs.takeWhile (aheadB b)).length
def freeR (xs : List Bk.El) (b : Bk.El) : Bool := validB b.1 b.2.1 b.2.2.1 b.2.2.2 && !xs.any (meetR b.1 b.2.1 b.2.2.1)
def bookR (xs : List Bk.El) (b : Bk.El) : List Bk.El := if freeR xs b = true then xs.take (posR xs b) ++ ([b] ++ xs.drop (posR xs b)) else xs
def errR (xs : List Bk.El) (b : Bk.El) : Int := if freeR xs b = true then 0 else 70
def refBookS : Spec := ⟨true, fun args rows => match args, rows with
  | [.ptr 0 0, .agg [.int .i64 t, .int .i64 s, .int .i64 e, .int .i64 o]], [.box [.own 1], .seq (.pair (.int .i64) (.pair (.int .i64) (.pair (.int .i64) (.int .i64)))) xs] =>
    some ⟨List.length (α := Bk.El) xs ≤ 100000, .int .i64 (errR xs (t, s, e, o)), [.box [.own 2], .dead, .seq Bk (bookR xs (t, s, e, o))], true⟩
  | _, _ => none⟩
theorem ahead_takeWhile {b : Bk.El} {xs : List Bk.El} {k : Nat} (hk : k ≤ xs.length) (h : ∀ j, j < k → aheadB b (getI xs Bk.dflt j) = true) (he : k < xs.length → aheadB b (getI xs Bk.dflt k) = false) : posR xs b = k := by
  unfold posR
  induction xs generalizing k with
  | nil => simp at hk; subst hk; rfl
  | cons x xs ih =>
    cases k with
    | zero =>
      have : aheadB b x = false := he (by simp)
      rw [List.takeWhile_cons_of_neg (by rw [this]; simp)]; rfl
    | succ k =>
      have h0 : aheadB b x = true := h 0 (by omega)
      rw [List.takeWhile_cons_of_pos h0, List.length_cons, ih (k := k) (by simpa using hk) (fun j hj => h (j + 1) (by omega)) (fun hk' => he (by simpa using hk'))]
def sigRBook : List (Nat × Spec) := [(70, validS), (71, refBusyS)]
theorem sigRBookOk : SigOk Tryz.prog (look sigRBook) := sigCons (sigCons sigNil Tryz.func71 (by kernel_rfl) (c := body Tryz.f71) rfl refBusyOk)
  Tryz.func70 (by kernel_rfl) (c := body Tryz.f70) rfl validRefOk
theorem refBookOk : SpecSound Tryz.prog 36 refBookS := by
  refine soundR (envOf sigRBookOk) Tryz.func36 (c := body Tryz.f36) rfl (by kernel_rfl) rfl ?_
  intro args rows out hf hpre
  split at hf <;> try (cases hf; done)
  rename_i t s e o xs
  cases hf
  refine ⟨Nat.le_of_ble_eq_true rfl, initI (args := [.ptr 0 0, .agg [.int .i64 t, .int .i64 s, .int .i64 e, .int .i64 o]]) (rows := [.box [.own 1], .seq Bk xs]) rfl ?_⟩
  have hxs : List.length (α := Bk.El) xs ≤ 100000 := hpre
  have hxs' : List.length (α := Bk.El) xs ≤ 1000000 := by omega
  repeat' (first|with_reducible (first|apply pN|apply cN|apply bN|apply cE|apply cR|apply bR|apply lE|apply lR|apply jE|apply jR)|refine bE rfl ?_|refine bP rfl ?_|refine pC (by first|exact ⟨⟩|omega|(intros;first|exact ⟨⟩|omega)|(simp only [lcQ, lnQ, tnQ];omega)|first|exact hxs'|exact fun _ => hxs') ?_|refine seqI rfl ?_|refine regI rfl ?_|refine scopeI rfl ?_|refine blockI rfl ?_|refine exitI rfl ?_|refine retI rfl ?_|refine skipI rfl ?_)
  refine condI rfl (fun c1 => ?_) (fun c1 => ?_)
  · have c1' : (!validB t s e o || List.any (α := Bk.El) xs (meetR t s e)) = true := c1
    have hno : freeR xs (t, s, e, o) = false := by
      unfold freeR
      show (validB t s e o && !List.any (α := Bk.El) xs (meetR t s e)) = false
      revert c1'
      cases validB t s e o <;> cases List.any (α := Bk.El) xs (meetR t s e) <;> simp
    refine renameI 100001 3000 rfl ?_
    repeat' (first|with_reducible (first|apply pN|apply cN|apply bN|apply cE|apply cR|apply bR|apply lE|apply lR|apply jE|apply jR)|refine bE rfl ?_|refine bP rfl ?_|refine pC (by first|exact ⟨⟩|omega|(intros;first|exact ⟨⟩|omega)|(simp only [lcQ, lnQ, tnQ];omega)) ?_|refine seqI rfl ?_|refine regI rfl ?_|refine scopeI rfl ?_|refine blockI rfl ?_|refine exitI rfl ?_|refine retI rfl ?_|refine skipI rfl ?_)
    refine endR rfl ?_
    repeat' (first | exact trivial | exact rfl | refine ⟨rfl, ?_⟩ | refine And.intro ?_ ?_)
    · unfold errR
      rw [hno]; rfl
    · unfold bookR
      rw [hno]; rfl
  · have c1' : (!validB t s e o || List.any (α := Bk.El) xs (meetR t s e)) = false := c1
    have hyes : freeR xs (t, s, e, o) = true := by
      unfold freeR
      show (validB t s e o && !List.any (α := Bk.El) xs (meetR t s e)) = true
      revert c1'
      cases validB t s e o <;> cases List.any (α := Bk.El) xs (meetR t s e) <;> simp
    repeat' (first|with_reducible (first|apply pN|apply cN|apply bN|apply cE|apply cR|apply bR|apply lE|apply lR|apply jE|apply jR)|refine bE rfl ?_|refine bP rfl ?_|refine pC (by first|exact ⟨⟩|omega|(intros;first|exact ⟨⟩|omega)|(simp only [lcQ, lnQ, tnQ];omega)) ?_|refine seqI rfl ?_|refine regI rfl ?_|refine scopeI rfl ?_|refine blockI rfl ?_|refine exitI rfl ?_|refine retI rfl ?_|refine skipI rfl ?_)
    refine loopI (σ := Nat) (fun k => [(5, .int .i64 k)]) (fun k => []) (fun k => k ≤ List.length (α := Bk.El) xs ∧ ∀ j, j < k → aheadB (t, s, e, o) (getI xs Bk.dflt j) = true) (fun k => List.length (α := Bk.El) xs - k) 0 rfl (fun _ => rfl) rfl ?_ ?_ ?_
    · exact ⟨Nat.zero_le _, fun j hj => by omega⟩
    · repeat' (first | exact trivial | exact rfl | refine ⟨rfl, ?_⟩ | refine And.intro ?_ ?_)
    · rintro k ⟨hk, hA⟩
      have hkn : ((k : Int)).toNat = k := by omega
      repeat' (first|with_reducible (first|apply pN|apply cN|apply bN|apply cE|apply cR|apply bR|apply lE|apply lR|apply jE|apply jR)|refine bE rfl ?_|refine bP rfl ?_|refine pC (by first|exact ⟨⟩|omega|(intros;first|exact ⟨⟩|omega)|(simp only [lcQ, lnQ, tnQ];omega)|(simp only [decide_eq_true_eq] at *;omega)) ?_|refine seqI rfl ?_|refine regI rfl ?_|refine scopeI rfl ?_|refine blockI rfl ?_|refine exitI rfl ?_|refine retI rfl ?_|refine skipI rfl ?_)
      refine condI rfl (fun c2 => ?_) (fun c2 => ?_)
      · have c2' : (decide ((k : Int) < (List.length (α := Bk.El) xs : Nat)) && aheadB (t, s, e, o) (getI xs Bk.dflt ((k : Int)).toNat)) = true := c2
        rw [Bool.and_eq_true, decide_eq_true_eq, hkn] at c2'
        obtain ⟨c2', c3⟩ := c2'
        repeat' (first|with_reducible (first|apply pN|apply cN|apply bN|apply cE|apply cR|apply bR|apply lE|apply lR|apply jE|apply jR)|refine bE rfl ?_|refine bP rfl ?_|refine pC (by first|exact ⟨⟩|omega|(intros;first|exact ⟨⟩|omega)|(simp only [lcQ, lnQ, tnQ];omega)) ?_|refine seqI rfl ?_|refine regI rfl ?_|refine scopeI rfl ?_|refine blockI rfl ?_|refine exitI rfl ?_|refine retI rfl ?_|refine skipI rfl ?_)
        refine roundI (k + 1) rfl ?_ ?_ ?_
        · refine ⟨by omega, fun j hj => ?_⟩
          rcases Nat.lt_or_ge j k with h | h
          · exact hA j h
          · rw [show j = k by omega]; exact c3
        · show List.length (α := Bk.El) xs - (k + 1) < List.length (α := Bk.El) xs - k
          omega
        · repeat' (first | exact trivial | exact rfl | refine ⟨rfl, ?_⟩ | refine And.intro ?_ ?_)
      · have c2' : (decide ((k : Int) < (List.length (α := Bk.El) xs : Nat)) && aheadB (t, s, e, o) (getI xs Bk.dflt ((k : Int)).toNat)) = false := c2
        rw [← Bool.not_eq_true, Bool.and_eq_true, decide_eq_true_eq, hkn] at c2'
        have hpos : posR xs (t, s, e, o) = k := ahead_takeWhile hk hA fun h => by
          rw [← Bool.not_eq_true]
          exact fun h2 => c2' ⟨by omega, h2⟩
        repeat' (first|with_reducible refine cE ?_|with_reducible refine cN ?_|refine exitI rfl ?_|with_reducible refine lE ?_|refine bE rfl ?_|refine seqI rfl ?_)
        refine freezeI 100001 rfl ?_
        have hd : (List.drop k xs).length ≤ List.length (α := Bk.El) xs := by rw [List.length_drop]; omega
        repeat' (first|with_reducible (first|apply pN|apply cN|apply bN|apply cE|apply cR|apply bR|apply lE|apply lR|apply jE|apply jR)|refine bE rfl ?_|refine bP rfl ?_|refine pC (by first|exact ⟨⟩|omega|(intros;first|exact ⟨⟩|omega)|(simp only [lcQ, lnQ, tnQ];omega)|first|(simp only [List.length_take, List.length_drop, List.length_append, List.length_cons, List.length_nil, hkn, List.drop_zero];omega)) ?_|refine seqI rfl ?_|refine regI rfl ?_|refine scopeI rfl ?_|refine blockI rfl ?_|refine exitI rfl ?_|refine retI rfl ?_|refine skipI rfl ?_)
        refine endR rfl ?_
        repeat' (first | exact trivial | exact rfl | refine ⟨rfl, ?_⟩ | refine And.intro ?_ ?_)
        · unfold errR
          rw [hyes]; rfl
        · unfold bookR
          rw [if_pos hyes, hpos]
          simp [hkn]
end Go.AM.YtmjeocinfoeeeaaGreat
end
