/- Package dispatch: Length, Pick, Batch. -/
import Derived.Test.YtkacoophnfljcaaDiC
import Derived.Test.YtkacoophnfljcaaCaFirst
set_option linter.all false
namespace Go.AM.Ytkacoophnfljcaa
open Go.Proofs
set_option maxRecDepth 100000
set_option maxHeartbeats 8000000

/-! ### Length -/

def lengthI (rc b f : Int) : Int := if b = rc then f else f + 20
def lengthF (rc : Int) (j : JobT) : Int := lengthI rc (jRec j) (jLen j)

def lengthS : Spec := plain fun
  | [.int .i64 rc, .agg [.int .i64 a, .int .i64 b, .bool c, .int .i64 d, .int .i64 e, .int .i64 f, .int .i64 g]] => outV (In64 (f + 20)) (.int .i64 (lengthI rc b f))
  | _ => none
theorem lengthOk : SpecSound Try.prog 29 lengthS := by
  refine soundP (envOf sigNil) Try.func29 (c := body Try.f29) rfl (by kernel_rfl) rfl ?_
  intro args out hf hpre
  split at hf <;> try (cases hf; done)
  rename_i rc a b c d e f g
  cases hf
  refine ⟨Nat.le_of_ble_eq_true rfl, initI (args := [.int .i64 rc, .agg [.int .i64 a, .int .i64 b, .bool c, .int .i64 d, .int .i64 e, .int .i64 f, .int .i64 g]]) rfl ?_⟩
  change In64 (f + 20) at hpre
  repeat' (first
    | with_reducible refine pN ?_
    | with_reducible refine cN ?_
    | with_reducible refine bN ?_
    | with_reducible refine cE ?_
    | with_reducible refine cR ?_
    | with_reducible refine bR ?_
    | with_reducible refine lE ?_
    | with_reducible refine lR ?_
    | with_reducible refine jE ?_
    | with_reducible refine jR ?_
    | refine bE rfl ?_
    | refine bP rfl ?_
    | refine pC (by first | exact True.intro | omega | (intros; first | exact True.intro | omega) | (simp only [List.length_cons, List.length_nil, Int.toNat_natCast]; omega)) ?_
    | refine seqI rfl ?_
    | refine regI rfl ?_
    | refine scopeI rfl ?_
    | refine blockI rfl ?_
    | refine exitI rfl ?_
    | refine retI rfl ?_
    | refine skipI rfl ?_)
  refine condI rfl (fun c1 => ?_) (fun c1 => ?_)
  · simp only [decide_eq_true_eq] at c1
    repeat' (first
      | with_reducible refine pN ?_
      | with_reducible refine cN ?_
      | with_reducible refine bN ?_
      | with_reducible refine cE ?_
      | with_reducible refine cR ?_
      | with_reducible refine bR ?_
      | with_reducible refine lE ?_
      | with_reducible refine lR ?_
      | with_reducible refine jE ?_
      | with_reducible refine jR ?_
      | refine bE rfl ?_
      | refine bP rfl ?_
      | refine pC (by first | exact True.intro | omega | (intros; first | exact True.intro | omega) | (simp only [List.length_cons, List.length_nil, Int.toNat_natCast]; omega)) ?_
      | refine seqI rfl ?_
      | refine regI rfl ?_
      | refine scopeI rfl ?_
      | refine blockI rfl ?_
      | refine exitI rfl ?_
      | refine retI rfl ?_
      | refine skipI rfl ?_)
    refine endR rfl ?_
    repeat' (first | exact trivial | exact rfl | refine ⟨rfl, ?_⟩ | refine And.intro ?_ ?_)
    unfold lengthI
    rw [if_pos c1]
  · simp only [decide_eq_false_iff_not] at c1
    repeat' (first
      | with_reducible refine pN ?_
      | with_reducible refine cN ?_
      | with_reducible refine bN ?_
      | with_reducible refine cE ?_
      | with_reducible refine cR ?_
      | with_reducible refine bR ?_
      | with_reducible refine lE ?_
      | with_reducible refine lR ?_
      | with_reducible refine jE ?_
      | with_reducible refine jR ?_
      | refine bE rfl ?_
      | refine bP rfl ?_
      | refine pC (by first | exact True.intro | omega | (intros; first | exact True.intro | omega) | (simp only [List.length_cons, List.length_nil, Int.toNat_natCast]; omega)) ?_
      | refine seqI rfl ?_
      | refine regI rfl ?_
      | refine scopeI rfl ?_
      | refine blockI rfl ?_
      | refine exitI rfl ?_
      | refine retI rfl ?_
      | refine skipI rfl ?_)
    refine endR rfl ?_
    repeat' (first | exact trivial | exact rfl | refine ⟨rfl, ?_⟩ | refine And.intro ?_ ?_)
    unfold lengthI
    rw [if_neg c1]

/-! ### Pick -/

/-- Is the tool free for a job from now on? -/
def fitI (xss : List (List Bk.El)) (tool now rc b f : Int) : Bool :=
  if 1 ≤ f ∧ f ≤ 10000 then (firstF xss tool now (lengthI rc b f)).2 && decide ((firstF xss tool now (lengthI rc b f)).1 = now) else false
def fitB (xss : List (List Bk.El)) (tool now rc : Int) (j : JobT) : Bool := fitI xss tool now rc (jRec j) (jLen j)

def pick1S : Spec := ⟨true, fun args rows => match args, rows with
  | [.agg [.int .i64 a, .int .i64 b, .bool c, .int .i64 d, .int .i64 e, .int .i64 f, .int .i64 g], .ptr 0 0, .ptr 1 0, .ptr 2 0, .ptr 3 0],
      [.box [.ext (.cref (.pair (.int .i64) (.pair (.int .i64) (.pair (.int .i64) (.int .i64)))) xss 0)], .box [.int .i64 tool], .box [.int .i64 now], .box [.int .i64 rc]] =>
    some ⟨Cal xss, .bool (fitI xss tool now rc b f), [.box [.ext (.cref Bk xss 0)], .box [.int .i64 tool], .box [.int .i64 now], .box [.int .i64 rc]], true⟩
  | _, _ => none⟩

def sigP1 : List (Nat × Spec) := [(29, lengthS), (49, firstS)]
theorem sigP1Ok : SigOk Try.prog (look sigP1) := sigCons (sigCons sigNil
  Try.func49 (by kernel_rfl) (c := body Try.f49) rfl firstOk)
  Try.func29 (by kernel_rfl) (c := body Try.f29) rfl lengthOk

theorem pick1Ok : SpecSound Try.prog 48 pick1S := by
  refine soundR (envOf sigP1Ok) Try.func48 (c := body Try.f48) rfl (by kernel_rfl) rfl ?_
  intro args rows out hf hpre
  split at hf <;> try (cases hf; done)
  rename_i a b c d e f g xss tool now rc
  cases hf
  refine ⟨Nat.le_of_ble_eq_true rfl, initI (args := [.agg [.int .i64 a, .int .i64 b, .bool c, .int .i64 d, .int .i64 e, .int .i64 f, .int .i64 g], .ptr 0 0, .ptr 1 0, .ptr 2 0, .ptr 3 0]) (rows := [.box [.ext (.cref Bk xss 0)], .box [.int .i64 tool], .box [.int .i64 now], .box [.int .i64 rc]]) rfl ?_⟩
  change Cal xss at hpre
  repeat' (first
    | with_reducible refine pN ?_
    | with_reducible refine cN ?_
    | with_reducible refine bN ?_
    | with_reducible refine cE ?_
    | with_reducible refine cR ?_
    | with_reducible refine bR ?_
    | with_reducible refine lE ?_
    | with_reducible refine lR ?_
    | with_reducible refine jE ?_
    | with_reducible refine jR ?_
    | refine bE rfl ?_
    | refine bP rfl ?_
    | refine pC (by first | exact True.intro | omega | (intros; first | exact True.intro | omega) | (simp only [List.length_cons, List.length_nil, Int.toNat_natCast]; omega)) ?_
    | refine seqI rfl ?_
    | refine regI rfl ?_
    | refine scopeI rfl ?_
    | refine blockI rfl ?_
    | refine exitI rfl ?_
    | refine retI rfl ?_
    | refine skipI rfl ?_)
  refine condI rfl (fun c1 => ?_) (fun c1 => ?_)
  · have c1' : (decide (1 ≤ f) && decide (f ≤ 10000)) = true := c1
    simp only [Bool.and_eq_true, decide_eq_true_eq] at c1'
    repeat' (first
      | with_reducible refine pN ?_
      | with_reducible refine cN ?_
      | with_reducible refine bN ?_
      | with_reducible refine cE ?_
      | with_reducible refine cR ?_
      | with_reducible refine bR ?_
      | with_reducible refine lE ?_
      | with_reducible refine lR ?_
      | with_reducible refine jE ?_
      | with_reducible refine jR ?_
      | refine bE rfl ?_
      | refine bP rfl ?_
      | refine pC (by first | exact True.intro | omega | (intros; first | exact True.intro | omega) | (simp only [List.length_cons, List.length_nil, Int.toNat_natCast]; omega) | exact hpre) ?_
      | refine seqI rfl ?_
      | refine regI rfl ?_
      | refine scopeI rfl ?_
      | refine blockI rfl ?_
      | refine exitI rfl ?_
      | refine retI rfl ?_
      | refine skipI rfl ?_)
    refine endR rfl ?_
    repeat' (first | exact trivial | exact rfl | refine ⟨rfl, ?_⟩ | refine And.intro ?_ ?_)
    unfold fitI
    rw [if_pos c1']
  · have c1' : (decide (1 ≤ f) && decide (f ≤ 10000)) = false := c1
    have hn : ¬ (1 ≤ f ∧ f ≤ 10000) := fun h => by
      rw [decide_eq_true h.1, decide_eq_true h.2] at c1'
      cases c1'
    repeat' (first
      | with_reducible refine pN ?_
      | with_reducible refine cN ?_
      | with_reducible refine bN ?_
      | with_reducible refine cE ?_
      | with_reducible refine cR ?_
      | with_reducible refine bR ?_
      | with_reducible refine lE ?_
      | with_reducible refine lR ?_
      | with_reducible refine jE ?_
      | with_reducible refine jR ?_
      | refine bE rfl ?_
      | refine bP rfl ?_
      | refine pC (by first | exact True.intro | omega | (intros; first | exact True.intro | omega) | (simp only [List.length_cons, List.length_nil, Int.toNat_natCast]; omega)) ?_
      | refine seqI rfl ?_
      | refine regI rfl ?_
      | refine scopeI rfl ?_
      | refine blockI rfl ?_
      | refine exitI rfl ?_
      | refine retI rfl ?_
      | refine skipI rfl ?_)
    refine endR rfl ?_
    repeat' (first | exact trivial | exact rfl | refine ⟨rfl, ?_⟩ | refine And.intro ?_ ?_)
    unfold fitI
    rw [if_neg hn]
    show false = ((decide (1 ≤ f) && decide (f ≤ 10000)) && _)
    rw [c1']
    rfl

def jidxS : Spec := ⟨true, fun args rows => match args, rows with
  | [.own 0, .fn 48 [] [.ptr 1 0, .ptr 2 0, .ptr 3 0, .ptr 4 0]],
      [.seq (.pair (.int .i64) (.pair (.int .i64) (.pair .bool (.pair (.int .i64) (.pair (.int .i64) (.pair (.int .i64) (.int .i64))))))) xs, .box [.ext (.cref (.pair (.int .i64) (.pair (.int .i64) (.pair (.int .i64) (.int .i64)))) xss 0)], .box [.int .i64 tool], .box [.int .i64 now], .box [.int .i64 rc]] =>
    some ⟨Cal xss ∧ List.length (α := JobT) xs ≤ 1000000, .int .i64 (idxF (fitB xss tool now rc) xs), [.seq tJob xs, .box [.ext (.cref Bk xss 0)], .box [.int .i64 tool], .box [.int .i64 now], .box [.int .i64 rc]], true⟩
  | _, _ => none⟩
def sigJi : List (Nat × Spec) := [(48, pick1S)]
theorem sigJiOk : SigOk Try.prog (look sigJi) := sigCons sigNil Try.func48 (by kernel_rfl) (c := body Try.f48) rfl pick1Ok

theorem jidxOk : SpecSound Try.prog 47 jidxS := by
  refine soundR (envOf sigJiOk) Try.func47 (c := body Try.f47) rfl (by kernel_rfl) rfl ?_
  intro args rows out hf hpre
  split at hf <;> try (cases hf; done)
  rename_i xs xss tool now rc
  cases hf
  refine ⟨Nat.le_of_ble_eq_true rfl, initI (args := [.own 0, .fn 48 [] [.ptr 1 0, .ptr 2 0, .ptr 3 0, .ptr 4 0]]) (rows := [.seq tJob xs, .box [.ext (.cref Bk xss 0)], .box [.int .i64 tool], .box [.int .i64 now], .box [.int .i64 rc]]) rfl ?_⟩
  obtain ⟨hcal, hlen⟩ := hpre
  repeat' (first
    | with_reducible refine pN ?_
    | with_reducible refine cN ?_
    | with_reducible refine bN ?_
    | with_reducible refine cE ?_
    | with_reducible refine cR ?_
    | with_reducible refine bR ?_
    | with_reducible refine lE ?_
    | with_reducible refine lR ?_
    | with_reducible refine jE ?_
    | with_reducible refine jR ?_
    | refine bE rfl ?_
    | refine bP rfl ?_
    | refine pC (by first | exact True.intro | omega | (intros; first | exact True.intro | omega) | (simp only [List.length_cons, List.length_nil, Int.toNat_natCast]; omega)) ?_
    | refine seqI rfl ?_
    | refine regI rfl ?_
    | refine scopeI rfl ?_
    | refine blockI rfl ?_
    | refine exitI rfl ?_
    | refine retI rfl ?_
    | refine skipI rfl ?_)
  refine loopI (σ := Nat) (fun i => [(8, .int .i64 i)]) (fun i => []) (fun i => i ≤ List.length (α := JobT) xs ∧ ∀ j, j < i → fitB xss tool now rc (getI xs jDf j) = false) (fun i => List.length (α := JobT) xs - i) 0 rfl (fun _ => rfl) rfl ?_ ?_ ?_
  · exact ⟨Nat.zero_le _, fun j hj => by omega⟩
  · repeat' (first | exact trivial | exact rfl | refine ⟨rfl, ?_⟩ | refine And.intro ?_ ?_)
  rintro i ⟨hi, hb⟩
  repeat' (first
    | with_reducible refine pN ?_
    | with_reducible refine cN ?_
    | with_reducible refine bN ?_
    | with_reducible refine cE ?_
    | with_reducible refine cR ?_
    | with_reducible refine bR ?_
    | with_reducible refine lE ?_
    | with_reducible refine lR ?_
    | with_reducible refine jE ?_
    | with_reducible refine jR ?_
    | refine bE rfl ?_
    | refine bP rfl ?_
    | refine pC (by first | exact True.intro | omega | (intros; first | exact True.intro | omega) | (simp only [List.length_cons, List.length_nil, Int.toNat_natCast]; omega)) ?_
    | refine seqI rfl ?_
    | refine regI rfl ?_
    | refine scopeI rfl ?_
    | refine blockI rfl ?_
    | refine exitI rfl ?_
    | refine retI rfl ?_
    | refine skipI rfl ?_)
  refine condI rfl (fun c1 => ?_) (fun c1 => ?_)
  · simp only [decide_eq_true_eq] at c1
    have hil : i < List.length (α := JobT) xs := by omega
    repeat' (first
      | with_reducible refine pN ?_
      | with_reducible refine cN ?_
      | with_reducible refine bN ?_
      | with_reducible refine cE ?_
      | with_reducible refine cR ?_
      | with_reducible refine bR ?_
      | with_reducible refine lE ?_
      | with_reducible refine lR ?_
      | with_reducible refine jE ?_
      | with_reducible refine jR ?_
      | refine bE rfl ?_
      | refine bP rfl ?_
      | refine pC (by first | exact True.intro | omega | (intros; first | exact True.intro | omega) | (simp only [List.length_cons, List.length_nil, Int.toNat_natCast]; omega) | exact hcal) ?_
      | refine seqI rfl ?_
      | refine regI rfl ?_
      | refine scopeI rfl ?_
      | refine blockI rfl ?_
      | refine exitI rfl ?_
      | refine retI rfl ?_
      | refine skipI rfl ?_)
    refine condI rfl (fun c2 => ?_) (fun c2 => ?_)
    · repeat' (first
        | with_reducible refine pN ?_
        | with_reducible refine cN ?_
        | with_reducible refine bN ?_
        | with_reducible refine cE ?_
        | with_reducible refine cR ?_
        | with_reducible refine bR ?_
        | with_reducible refine lE ?_
        | with_reducible refine lR ?_
        | with_reducible refine jE ?_
        | with_reducible refine jR ?_
        | refine bE rfl ?_
        | refine bP rfl ?_
        | refine pC (by first | exact True.intro | omega | (intros; first | exact True.intro | omega) | (simp only [List.length_cons, List.length_nil, Int.toNat_natCast]; omega)) ?_
        | refine seqI rfl ?_
        | refine regI rfl ?_
        | refine scopeI rfl ?_
        | refine blockI rfl ?_
        | refine exitI rfl ?_
        | refine retI rfl ?_
        | refine skipI rfl ?_)
      refine endR rfl ?_
      repeat' (first | exact trivial | exact rfl | refine ⟨rfl, ?_⟩ | refine And.intro ?_ ?_)
      exact idxF_found (d := jDf) hil hb c2
    · repeat' (first
        | with_reducible refine pN ?_
        | with_reducible refine cN ?_
        | with_reducible refine bN ?_
        | with_reducible refine cE ?_
        | with_reducible refine cR ?_
        | with_reducible refine bR ?_
        | with_reducible refine lE ?_
        | with_reducible refine lR ?_
        | with_reducible refine jE ?_
        | with_reducible refine jR ?_
        | refine bE rfl ?_
        | refine bP rfl ?_
        | refine pC (by first | exact True.intro | omega | (intros; first | exact True.intro | omega) | (simp only [List.length_cons, List.length_nil, Int.toNat_natCast]; omega)) ?_
        | refine seqI rfl ?_
        | refine regI rfl ?_
        | refine scopeI rfl ?_
        | refine blockI rfl ?_
        | refine exitI rfl ?_
        | refine retI rfl ?_
        | refine skipI rfl ?_)
      refine roundI (i + 1) rfl ?_ ?_ ?_
      · refine ⟨by show i + 1 ≤ List.length (α := JobT) xs; omega, fun j hj => ?_⟩
        by_cases hji : j = i
        · subst hji; exact c2
        · exact hb j (by omega)
      · show List.length (α := JobT) xs - (i + 1) < List.length (α := JobT) xs - i
        omega
      · repeat' (first | exact trivial | with_reducible exact rfl | refine And.intro ?_ ?_)
        all_goals rfl
  · simp only [decide_eq_false_iff_not] at c1
    repeat' (first
      | with_reducible refine pN ?_
      | with_reducible refine cN ?_
      | with_reducible refine bN ?_
      | with_reducible refine cE ?_
      | with_reducible refine cR ?_
      | with_reducible refine bR ?_
      | with_reducible refine lE ?_
      | with_reducible refine lR ?_
      | with_reducible refine jE ?_
      | with_reducible refine jR ?_
      | refine bE rfl ?_
      | refine bP rfl ?_
      | refine pC (by first | exact True.intro | omega | (intros; first | exact True.intro | omega) | (simp only [List.length_cons, List.length_nil, Int.toNat_natCast]; omega)) ?_
      | refine seqI rfl ?_
      | refine regI rfl ?_
      | refine scopeI rfl ?_
      | refine blockI rfl ?_
      | refine exitI rfl ?_
      | refine retI rfl ?_
      | refine skipI rfl ?_)
    refine endR rfl ?_
    repeat' (first | exact trivial | exact rfl | refine ⟨rfl, ?_⟩ | refine And.intro ?_ ?_)
    exact idxF_none (d := jDf) fun j hj => hb j (by omega)

theorem idxF_ge {α : Type} {p : α → Bool} {d : α} : ∀ {xs : List α}, ¬ idxF p xs < 0 → (idxF p xs).toNat < xs.length ∧ p (getI xs d (idxF p xs).toNat) = true ∧ ∀ j : Nat, (j : Int) < idxF p xs → p (getI xs d j) = false
  | [], h => by simp [idxF] at h
  | x :: r, h => by
    unfold idxF at h ⊢
    split
    · rename_i hp
      refine ⟨by simp, ?_, fun j hj => by omega⟩
      simpa [getI, List.getD] using hp
    · rename_i hp
      rw [if_neg hp] at h
      split at h
      · exact absurd h (by decide)
      · rename_i h1
        rw [if_neg h1]
        obtain ⟨h2, h3, h4⟩ := idxF_ge (d := d) h1
        have e : (idxF p r + 1).toNat = (idxF p r).toNat + 1 := by omega
        rw [e]
        refine ⟨by simpa using h2, by simpa [getI, List.getD] using h3, fun j hj => ?_⟩
        cases j with
        | zero => simpa [getI, List.getD] using hp
        | succ j =>
          have := h4 j (by omega)
          simpa [getI, List.getD] using this

theorem idxF_no {α : Type} {p : α → Bool} {d : α} : ∀ {xs : List α}, idxF p xs < 0 → ∀ j, j < xs.length → p (getI xs d j) = false
  | [], _, j, hj => by simp at hj
  | x :: r, h, j, hj => by
    unfold idxF at h
    split at h
    · exact absurd h (by decide)
    · rename_i hp
      split at h
      · rename_i h1
        cases j with
        | zero => simpa [getI, List.getD] using hp
        | succ j => have := idxF_no (d := d) h1 j (by simpa using hj); simpa [getI, List.getD] using this
      · omega

/-- The first job that fits. -/
def pickJ (xss : List (List Bk.El)) (tool now : Int) (rs : List Int) (rc : Int) (l : List JobT) : JobT × Bool :=
  if idxF (fitB xss tool now rc) (orderF rs rc l) < 0 then (jDf, false) else (getI (orderF rs rc l) jDf (idxF (fitB xss tool now rc) (orderF rs rc l)).toNat, true)

def jobV (j : JobT) : AV := .agg [.int .i64 (jLot j), .int .i64 (jRec j), .bool (jHot j), .int .i64 (jDue j), .int .i64 (jArr j), .int .i64 (jLen j), .int .i64 (jCnt j)]

def dpickS : Spec := plain fun
  | [.ext (.cref (.pair (.int .i64) (.pair (.int .i64) (.pair (.int .i64) (.int .i64)))) xss 0), .int .i64 tool, .int .i64 now, .sl (.int .i64) rs, .int .i64 rc, .sl (.pair (.int .i64) (.pair (.int .i64) (.pair .bool (.pair (.int .i64) (.pair (.int .i64) (.pair (.int .i64) (.int .i64))))))) l] =>
    outV (Cal xss ∧ List.length (α := Int) rs ≤ 1000 ∧ List.length (α := JobT) l ≤ 19) (.tup [jobV (pickJ xss tool now rs rc l).1, .bool (pickJ xss tool now rs rc l).2])
  | _ => none

def sigDp : List (Nat × Spec) := [(22, orderS), (47, jidxS)]
theorem sigDpOk : SigOk Try.prog (look sigDp) := sigCons (sigCons sigNil
  Try.func47 (by kernel_rfl) (c := body Try.f47) rfl jidxOk)
  Try.func22 (by kernel_rfl) (c := body Try.f22) rfl orderOk

theorem orderF_len (rs : List Int) (rc : Int) (l : List JobT) : (orderF rs rc l).length ≤ l.length := by
  unfold orderF
  split
  · rw [sortF_length]; exact Nat.le_refl _
  · simp

theorem dpickOk : SpecSound Try.prog 19 dpickS := by
  refine soundP (envOf sigDpOk) Try.func19 (c := body Try.f19) rfl (by kernel_rfl) rfl ?_
  intro args out hf hpre
  split at hf <;> try (cases hf; done)
  rename_i xss tool now rs rc l
  cases hf
  refine ⟨Nat.le_of_ble_eq_true rfl, initI (args := [.ext (.cref Bk xss 0), .int .i64 tool, .int .i64 now, .sl tInt rs, .int .i64 rc, .sl tJob l]) rfl ?_⟩
  obtain ⟨hcal, hrl, hll⟩ := hpre
  have hol := orderF_len rs rc l
  repeat' (first
    | with_reducible refine pN ?_
    | with_reducible refine cN ?_
    | with_reducible refine bN ?_
    | with_reducible refine cE ?_
    | with_reducible refine cR ?_
    | with_reducible refine bR ?_
    | with_reducible refine lE ?_
    | with_reducible refine lR ?_
    | with_reducible refine jE ?_
    | with_reducible refine jR ?_
    | refine bE rfl ?_
    | refine bP rfl ?_
    | refine pC (by first | exact True.intro | omega | (intros; first | exact True.intro | omega) | (simp only [List.length_cons, List.length_nil, Int.toNat_natCast]; omega) | first | exact ⟨hrl, hll⟩ | exact ⟨hcal, by omega⟩) ?_
    | refine seqI rfl ?_
    | refine regI rfl ?_
    | refine scopeI rfl ?_
    | refine blockI rfl ?_
    | refine exitI rfl ?_
    | refine retI rfl ?_
    | refine skipI rfl ?_)
  refine condI rfl (fun c1 => ?_) (fun c1 => ?_)
  · simp only [decide_eq_true_eq] at c1
    repeat' (first
      | with_reducible refine pN ?_
      | with_reducible refine cN ?_
      | with_reducible refine bN ?_
      | with_reducible refine cE ?_
      | with_reducible refine cR ?_
      | with_reducible refine bR ?_
      | with_reducible refine lE ?_
      | with_reducible refine lR ?_
      | with_reducible refine jE ?_
      | with_reducible refine jR ?_
      | refine bE rfl ?_
      | refine bP rfl ?_
      | refine pC (by first | exact True.intro | omega | (intros; first | exact True.intro | omega) | (simp only [List.length_cons, List.length_nil, Int.toNat_natCast]; omega)) ?_
      | refine seqI rfl ?_
      | refine regI rfl ?_
      | refine scopeI rfl ?_
      | refine blockI rfl ?_
      | refine exitI rfl ?_
      | refine retI rfl ?_
      | refine skipI rfl ?_)
    refine endR rfl ?_
    repeat' (first | exact trivial | exact rfl | refine ⟨rfl, ?_⟩ | refine And.intro ?_ ?_)
    all_goals (unfold pickJ; rw [if_pos c1]; try rfl)
  · simp only [decide_eq_false_iff_not] at c1
    have hix := (idxF_ge (d := jDf) c1).1
    repeat' (first
      | with_reducible refine pN ?_
      | with_reducible refine cN ?_
      | with_reducible refine bN ?_
      | with_reducible refine cE ?_
      | with_reducible refine cR ?_
      | with_reducible refine bR ?_
      | with_reducible refine lE ?_
      | with_reducible refine lR ?_
      | with_reducible refine jE ?_
      | with_reducible refine jR ?_
      | refine bE rfl ?_
      | refine bP rfl ?_
      | refine pC (by first | exact True.intro | omega | (intros; first | exact True.intro | omega) | (simp only [List.length_cons, List.length_nil, Int.toNat_natCast]; omega)) ?_
      | refine seqI rfl ?_
      | refine regI rfl ?_
      | refine scopeI rfl ?_
      | refine blockI rfl ?_
      | refine exitI rfl ?_
      | refine retI rfl ?_
      | refine skipI rfl ?_)
    refine endR rfl ?_
    repeat' (first | exact trivial | exact rfl | refine ⟨rfl, ?_⟩ | refine And.intro ?_ ?_)
    all_goals (unfold pickJ; rw [if_neg c1]; try rfl)

/-! ### Batch -/

def batchF (rs : List Int) (l : List JobT) : List Int := (((orderF rs 0 l).filter fun j => decide (jRec j = jRec (getI (orderF rs 0 l) jDf 0))).take 6).map jLot

/-- The batch of the first jobs of an order. -/
def batP (o : List JobT) (i : Nat) : List Int := (((o.take i).filter fun j => decide (jRec j = jRec (getI o jDf 0))).take 6).map jLot

def batchS : Spec := plain fun
  | [.sl (.int .i64) rs, .sl (.pair (.int .i64) (.pair (.int .i64) (.pair .bool (.pair (.int .i64) (.pair (.int .i64) (.pair (.int .i64) (.int .i64))))))) l] =>
    some ⟨List.length (α := Int) rs ≤ 1000 ∧ List.length (α := JobT) l ≤ 19, .own 0, [.seq tInt (batchF rs l)], false⟩
  | _ => none
def sigBat : List (Nat × Spec) := [(22, orderS)]
theorem sigBatOk : SigOk Try.prog (look sigBat) := sigCons sigNil Try.func22 (by kernel_rfl) (c := body Try.f22) rfl orderOk

theorem batP_len (o : List JobT) (i : Nat) : (batP o i).length ≤ 6 := by
  unfold batP
  simp
  omega

theorem batP_succ {o : List JobT} {i : Nat} (hi : i < o.length) : batP o (i + 1) = if jRec (getI o jDf i) = jRec (getI o jDf 0) ∧ (batP o i).length < 6 then batP o i ++ [jLot (getI o jDf i)] else batP o i := by
  unfold batP
  rw [take_succ_getI (d := jDf) hi, List.filter_append]
  by_cases h : jRec (getI o jDf i) = jRec (getI o jDf 0)
  · rw [List.filter_cons_of_pos (by simpa using h), List.filter_nil]
    generalize (o.take i).filter _ = m
    by_cases h6 : m.length < 6
    · rw [if_pos ⟨h, by simp; omega⟩, List.take_of_length_le (l := m) (by omega), List.take_of_length_le (by simp; omega), List.map_append]
      rfl
    · rw [if_neg fun h' => h6 (by have := h'.2; simp at this; omega), List.take_append_of_le_length (by omega)]
  · rw [List.filter_cons_of_neg (by simpa using h), List.filter_nil, List.append_nil, if_neg fun h' => h h'.1]

theorem batchOk : SpecSound Try.prog 25 batchS := by
  refine soundP (envOf sigBatOk) Try.func25 (c := body Try.f25) rfl (by kernel_rfl) rfl ?_
  intro args out hf hpre
  split at hf <;> try (cases hf; done)
  rename_i rs l
  cases hf
  refine ⟨Nat.le_of_ble_eq_true rfl, initI (args := [.sl tInt rs, .sl tJob l]) rfl ?_⟩
  obtain ⟨hrl, hll⟩ := hpre
  have hol := orderF_len rs 0 l
  repeat' (first
    | with_reducible refine pN ?_
    | with_reducible refine cN ?_
    | with_reducible refine bN ?_
    | with_reducible refine cE ?_
    | with_reducible refine cR ?_
    | with_reducible refine bR ?_
    | with_reducible refine lE ?_
    | with_reducible refine lR ?_
    | with_reducible refine jE ?_
    | with_reducible refine jR ?_
    | refine bE rfl ?_
    | refine bP rfl ?_
    | refine pC (by first | exact True.intro | omega | (intros; first | exact True.intro | omega) | (simp only [List.length_cons, List.length_nil, Int.toNat_natCast]; omega) | exact ⟨hrl, hll⟩) ?_
    | refine seqI rfl ?_
    | refine regI rfl ?_
    | refine scopeI rfl ?_
    | refine blockI rfl ?_
    | refine exitI rfl ?_
    | refine retI rfl ?_
    | refine skipI rfl ?_)
  generalize hO : orderF rs 0 l = o at *
  refine loopI (σ := Nat) (fun i => [(1, .sl tJob (if i = 0 then l else [getI o jDf 0])), (4, .own 4000), (11, .int .i64 i)]) (fun i => [(4000, .seq tInt (batP o i))]) (fun i => i ≤ o.length) (fun i => o.length - i) 0 rfl (fun _ => rfl) rfl ?_ ?_ ?_
  · exact Nat.zero_le _
  · repeat' (first | exact trivial | exact rfl | refine ⟨rfl, ?_⟩ | refine And.intro ?_ ?_)
  rintro i hi
  have hbl := batP_len o i
  repeat' (first
    | with_reducible refine pN ?_
    | with_reducible refine cN ?_
    | with_reducible refine bN ?_
    | with_reducible refine cE ?_
    | with_reducible refine cR ?_
    | with_reducible refine bR ?_
    | with_reducible refine lE ?_
    | with_reducible refine lR ?_
    | with_reducible refine jE ?_
    | with_reducible refine jR ?_
    | refine bE rfl ?_
    | refine bP rfl ?_
    | refine pC (by first | exact True.intro | omega | (intros; first | exact True.intro | omega) | (simp only [List.length_cons, List.length_nil, Int.toNat_natCast]; omega)) ?_
    | refine seqI rfl ?_
    | refine regI rfl ?_
    | refine scopeI rfl ?_
    | refine blockI rfl ?_
    | refine exitI rfl ?_
    | refine retI rfl ?_
    | refine skipI rfl ?_)
  refine condI rfl (fun c1 => ?_) (fun c1 => ?_)
  · simp only [decide_eq_true_eq] at c1
    have hil : i < o.length := by omega
    have hin : ((i : Int)).toNat = i := by omega
    have hsucc := batP_succ hil
    have hopen : o.length ≤ 19 := by omega
    repeat' (first
      | with_reducible refine pN ?_
      | with_reducible refine cN ?_
      | with_reducible refine bN ?_
      | with_reducible refine cE ?_
      | with_reducible refine cR ?_
      | with_reducible refine bR ?_
      | with_reducible refine lE ?_
      | with_reducible refine lR ?_
      | with_reducible refine jE ?_
      | with_reducible refine jR ?_
      | refine bE rfl ?_
      | refine bP rfl ?_
      | refine pC (by first | exact True.intro | omega | (intros; first | exact True.intro | omega) | (simp only [List.length_cons, List.length_nil, Int.toNat_natCast]; omega)) ?_
      | refine seqI rfl ?_
      | refine regI rfl ?_
      | refine scopeI rfl ?_
      | refine blockI rfl ?_
      | refine exitI rfl ?_
      | refine retI rfl ?_
      | refine skipI rfl ?_)
    refine condI rfl (fun c2 => ?_) (fun c2 => ?_)
    · simp only [decide_eq_true_eq] at c2
      have hi0 : i = 0 := by omega
      repeat' (first | with_reducible refine pN ?_ | with_reducible refine cN ?_ | with_reducible refine bN ?_ | with_reducible refine cE ?_ | with_reducible refine cR ?_ | with_reducible refine bR ?_ | with_reducible refine lE ?_ | with_reducible refine lR ?_ | with_reducible refine jE ?_ | with_reducible refine jR ?_ | refine bE rfl ?_ | refine bP rfl ?_ | refine seqI rfl ?_ | refine scopeI rfl ?_ | refine exitI rfl ?_ | refine retI rfl ?_ | refine skipI rfl ?_)
      refine regI rfl ?_
      repeat' (first | with_reducible refine pN ?_ | refine pC (by first | exact True.intro | omega | (intros; first | exact True.intro | omega) | (simp only [List.length_cons, List.length_nil, Int.toNat_natCast]; omega)) ?_)
      repeat with_reducible refine cN ?_
      refine freezeI 19 rfl ?_
      refine tidyI [(1, .sl tJob [getI o jDf 0])] [] rfl rfl ?_ ?_
      · repeat' (first | exact trivial | exact rfl | refine ⟨rfl, ?_⟩ | refine And.intro ?_ ?_)
        rw [hin, hi0]
        rfl
      repeat' (first
        | with_reducible refine pN ?_
        | with_reducible refine cN ?_
        | with_reducible refine bN ?_
        | with_reducible refine cE ?_
        | with_reducible refine cR ?_
        | with_reducible refine bR ?_
        | with_reducible refine lE ?_
        | with_reducible refine lR ?_
        | with_reducible refine jE ?_
        | with_reducible refine jR ?_
        | refine bE rfl ?_
        | refine bP rfl ?_
        | refine pC (by first | exact True.intro | omega | (intros; first | exact True.intro | omega) | (simp only [List.length_cons, List.length_nil, Int.toNat_natCast]; omega)) ?_
        | refine seqI rfl ?_
        | refine regI rfl ?_
        | refine scopeI rfl ?_
        | refine blockI rfl ?_
        | refine exitI rfl ?_
        | refine retI rfl ?_
        | refine skipI rfl ?_)
      refine condI rfl (fun c3 => ?_) (fun c3 => ?_)
      · have c3' : (decide (jRec (getI o jDf i) = jRec (getI o jDf 0)) && decide (((batP o i).length : Int) < 6)) = true := c3
        simp only [Bool.and_eq_true, decide_eq_true_eq] at c3'
        repeat' (first
          | with_reducible refine pN ?_
          | with_reducible refine cN ?_
          | with_reducible refine bN ?_
          | with_reducible refine cE ?_
          | with_reducible refine cR ?_
          | with_reducible refine bR ?_
          | with_reducible refine lE ?_
          | with_reducible refine lR ?_
          | with_reducible refine jE ?_
          | with_reducible refine jR ?_
          | refine bE rfl ?_
          | refine bP rfl ?_
          | refine pC (by first | exact True.intro | omega | (intros; first | exact True.intro | omega) | (simp only [List.length_cons, List.length_nil, Int.toNat_natCast]; omega) | (show ((batP o i).length + 1) * 8 ≤ 140737488355328; omega)) ?_
          | refine seqI rfl ?_
          | refine regI rfl ?_
          | refine scopeI rfl ?_
          | refine blockI rfl ?_
          | refine exitI rfl ?_
          | refine retI rfl ?_
          | refine skipI rfl ?_)
        refine roundI (i + 1) rfl ?_ ?_ ?_
        · show i + 1 ≤ o.length
          omega
        · show o.length - (i + 1) < o.length - i
          omega
        · repeat' (first | exact trivial | with_reducible exact rfl | refine And.intro ?_ ?_)
          all_goals first | rfl | skip
          show batP o (i + 1) = _
          rw [hsucc, if_pos ⟨c3'.1, by omega⟩]
          rfl
      · have c3' : (decide (jRec (getI o jDf i) = jRec (getI o jDf 0)) && decide (((batP o i).length : Int) < 6)) = false := c3
        simp only [Bool.and_eq_false_iff, decide_eq_false_iff_not] at c3'
        repeat' (first
          | with_reducible refine pN ?_
          | with_reducible refine cN ?_
          | with_reducible refine bN ?_
          | with_reducible refine cE ?_
          | with_reducible refine cR ?_
          | with_reducible refine bR ?_
          | with_reducible refine lE ?_
          | with_reducible refine lR ?_
          | with_reducible refine jE ?_
          | with_reducible refine jR ?_
          | refine bE rfl ?_
          | refine bP rfl ?_
          | refine pC (by first | exact True.intro | omega | (intros; first | exact True.intro | omega) | (simp only [List.length_cons, List.length_nil, Int.toNat_natCast]; omega)) ?_
          | refine seqI rfl ?_
          | refine regI rfl ?_
          | refine scopeI rfl ?_
          | refine blockI rfl ?_
          | refine exitI rfl ?_
          | refine retI rfl ?_
          | refine skipI rfl ?_)
        refine roundI (i + 1) rfl ?_ ?_ ?_
        · show i + 1 ≤ o.length
          omega
        · show o.length - (i + 1) < o.length - i
          omega
        · repeat' (first | exact trivial | with_reducible exact rfl | refine And.intro ?_ ?_)
          all_goals first | rfl | skip
          show batP o (i + 1) = _
          rw [hsucc, if_neg (fun h => by rcases c3' with h1 | h1; exact h1 h.1; exact h1 (by omega))]
    · simp only [decide_eq_false_iff_not] at c2
      rw [if_neg (by omega)]
      repeat' (first
        | with_reducible refine pN ?_
        | with_reducible refine cN ?_
        | with_reducible refine bN ?_
        | with_reducible refine cE ?_
        | with_reducible refine cR ?_
        | with_reducible refine bR ?_
        | with_reducible refine lE ?_
        | with_reducible refine lR ?_
        | with_reducible refine jE ?_
        | with_reducible refine jR ?_
        | refine bE rfl ?_
        | refine bP rfl ?_
        | refine pC (by first | exact True.intro | omega | (intros; first | exact True.intro | omega) | (simp only [List.length_cons, List.length_nil, Int.toNat_natCast]; omega)) ?_
        | refine seqI rfl ?_
        | refine regI rfl ?_
        | refine scopeI rfl ?_
        | refine blockI rfl ?_
        | refine exitI rfl ?_
        | refine retI rfl ?_
        | refine skipI rfl ?_)
      refine condI rfl (fun c3 => ?_) (fun c3 => ?_)
      · have c3' : (decide (jRec (getI o jDf i) = jRec (getI o jDf 0)) && decide (((batP o i).length : Int) < 6)) = true := c3
        simp only [Bool.and_eq_true, decide_eq_true_eq] at c3'
        repeat' (first
          | with_reducible refine pN ?_
          | with_reducible refine cN ?_
          | with_reducible refine bN ?_
          | with_reducible refine cE ?_
          | with_reducible refine cR ?_
          | with_reducible refine bR ?_
          | with_reducible refine lE ?_
          | with_reducible refine lR ?_
          | with_reducible refine jE ?_
          | with_reducible refine jR ?_
          | refine bE rfl ?_
          | refine bP rfl ?_
          | refine pC (by first | exact True.intro | omega | (intros; first | exact True.intro | omega) | (simp only [List.length_cons, List.length_nil, Int.toNat_natCast]; omega) | (show ((batP o i).length + 1) * 8 ≤ 140737488355328; omega)) ?_
          | refine seqI rfl ?_
          | refine regI rfl ?_
          | refine scopeI rfl ?_
          | refine blockI rfl ?_
          | refine exitI rfl ?_
          | refine retI rfl ?_
          | refine skipI rfl ?_)
        refine roundI (i + 1) rfl ?_ ?_ ?_
        · show i + 1 ≤ o.length
          omega
        · show o.length - (i + 1) < o.length - i
          omega
        · repeat' (first | exact trivial | with_reducible exact rfl | refine And.intro ?_ ?_)
          all_goals first | rfl | skip
          show batP o (i + 1) = _
          rw [hsucc, if_pos ⟨c3'.1, by omega⟩]
          rfl
      · have c3' : (decide (jRec (getI o jDf i) = jRec (getI o jDf 0)) && decide (((batP o i).length : Int) < 6)) = false := c3
        simp only [Bool.and_eq_false_iff, decide_eq_false_iff_not] at c3'
        repeat' (first
          | with_reducible refine pN ?_
          | with_reducible refine cN ?_
          | with_reducible refine bN ?_
          | with_reducible refine cE ?_
          | with_reducible refine cR ?_
          | with_reducible refine bR ?_
          | with_reducible refine lE ?_
          | with_reducible refine lR ?_
          | with_reducible refine jE ?_
          | with_reducible refine jR ?_
          | refine bE rfl ?_
          | refine bP rfl ?_
          | refine pC (by first | exact True.intro | omega | (intros; first | exact True.intro | omega) | (simp only [List.length_cons, List.length_nil, Int.toNat_natCast]; omega)) ?_
          | refine seqI rfl ?_
          | refine regI rfl ?_
          | refine scopeI rfl ?_
          | refine blockI rfl ?_
          | refine exitI rfl ?_
          | refine retI rfl ?_
          | refine skipI rfl ?_)
        refine roundI (i + 1) rfl ?_ ?_ ?_
        · show i + 1 ≤ o.length
          omega
        · show o.length - (i + 1) < o.length - i
          omega
        · repeat' (first | exact trivial | with_reducible exact rfl | refine And.intro ?_ ?_)
          all_goals first | rfl | skip
          show batP o (i + 1) = _
          rw [hsucc, if_neg (fun h => by rcases c3' with h1 | h1; exact h1 h.1; exact h1 (by omega))]
  · simp only [decide_eq_false_iff_not] at c1
    repeat' (first
      | with_reducible refine pN ?_
      | with_reducible refine cN ?_
      | with_reducible refine bN ?_
      | with_reducible refine cE ?_
      | with_reducible refine cR ?_
      | with_reducible refine bR ?_
      | with_reducible refine lE ?_
      | with_reducible refine lR ?_
      | with_reducible refine jE ?_
      | with_reducible refine jR ?_
      | refine bE rfl ?_
      | refine bP rfl ?_
      | refine pC (by first | exact True.intro | omega | (intros; first | exact True.intro | omega) | (simp only [List.length_cons, List.length_nil, Int.toNat_natCast]; omega)) ?_
      | refine seqI rfl ?_
      | refine regI rfl ?_
      | refine scopeI rfl ?_
      | refine blockI rfl ?_
      | refine exitI rfl ?_
      | refine retI rfl ?_
      | refine skipI rfl ?_)
    refine endR rfl ?_
    repeat' (first | exact trivial | exact rfl | refine ⟨rfl, ?_⟩ | refine And.intro ?_ ?_)
    unfold batchF batP
    rw [hO, show o.take i = o from List.take_of_length_le (by omega)]
end Go.AM.Ytkacoophnfljcaa
