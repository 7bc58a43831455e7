/- The laws' helpers: booked, sane. -/
import Derived.Test.YtibjkdbmlmmcjaaCaT
set_option linter.all false
namespace Go.AM.Ytibjkdbmlmmcjaa
open Go.Proofs
set_option maxRecDepth 100000
set_option maxHeartbeats 4000000

def sigBk : List (Nat × Spec) := [(12, newS), (14, bookS)]
theorem sigBkOk : SigOk Try.prog (look sigBk) := sigCons (sigCons sigNil Try.func14 (by kernel_rfl) (c := body Try.f14) rfl bookOk)
  Try.func12 (by kernel_rfl) (c := body Try.f12) rfl newOk

theorem bookAll_ok (l : List Bk.El) (h : l.length ≤ 1000) : CalG (bookAll l noCal) ∧ Cal (bookAll l noCal) ∧ CalS (bookAll l noCal) := by
  obtain ⟨h1, h2⟩ := bookAll_good (l := l) noCal_good
  rw [lenF_no] at h2
  exact ⟨h1, h1.cal (by omega), h1.sorted⟩

theorem bookAll_take {l : List Bk.El} {i : Nat} (h : i < l.length) (xss : List (List Bk.El)) : bookAll (l.take (i + 1)) xss = bookF (bookAll (l.take i) xss) (getI l Bk.dflt i) := by
  rw [take_succ_getI (d := Bk.dflt) h, bookAll_append]; rfl

def bookedS : Spec := plain fun
  | [.sl (.pair (.int .i64) (.pair (.int .i64) (.pair (.int .i64) (.int .i64)))) l] => some ⟨l.length ≤ 1000, .ptr 0 0, [.arr Bk (bookAll l noCal) none], false⟩
  | _ => none

theorem bookedOk : SpecSound Try.prog 30 bookedS := by
  refine soundP (envOf sigBkOk) Try.func30 (c := body Try.f30) rfl (by kernel_rfl) rfl ?_
  intro args out hf hpre
  split at hf <;> try (cases hf; done)
  rename_i l
  cases hf
  refine ⟨Nat.le_of_ble_eq_true rfl, initI (args := [.sl Bk l]) rfl ?_⟩
  change l.length ≤ 1000 at hpre
  repeat' (first
    | with_reducible refine pN ?_
    | with_reducible refine cN ?_
    | with_reducible refine bN ?_
    | with_reducible refine cE ?_
    | with_reducible refine cR ?_
    | with_reducible refine bR ?_
    | with_reducible refine lE ?_
    | with_reducible refine lR ?_
    | with_reducible refine jE ?_
    | with_reducible refine jR ?_
    | refine bE rfl ?_
    | refine bP rfl ?_
    | refine pC (by first | exact True.intro | omega | (intros; first | exact True.intro | omega) | (simp only [List.length_cons, List.length_nil, Int.toNat_natCast]; omega)) ?_
    | refine seqI rfl ?_
    | refine regI rfl ?_
    | refine scopeI rfl ?_
    | refine blockI rfl ?_
    | refine exitI rfl ?_
    | refine retI rfl ?_
    | refine skipI rfl ?_)
  refine loopI (σ := Nat) (fun i => [(3, .ptr 3000 0), (4, .int .i64 i)]) (fun i => [(3000, .arr Bk (bookAll (l.take i) noCal) none)]) (fun i => i ≤ l.length) (fun i => l.length - i) 0 rfl (fun _ => rfl) rfl ?_ ?_ ?_
  · exact Nat.zero_le _
  · repeat' (first | exact trivial | exact rfl | refine ⟨rfl, ?_⟩ | refine And.intro ?_ ?_)
  · intro i hi
    obtain ⟨h1, h2, h3⟩ := bookAll_ok (l.take i) (by rw [List.length_take]; omega)
    repeat' (first
      | with_reducible refine pN ?_
      | with_reducible refine cN ?_
      | with_reducible refine bN ?_
      | with_reducible refine cE ?_
      | with_reducible refine cR ?_
      | with_reducible refine bR ?_
      | with_reducible refine lE ?_
      | with_reducible refine lR ?_
      | with_reducible refine jE ?_
      | with_reducible refine jR ?_
      | refine bE rfl ?_
      | refine bP rfl ?_
      | refine pC (by first | exact True.intro | omega | (intros; first | exact True.intro | omega) | (simp only [List.length_cons, List.length_nil, Int.toNat_natCast]; omega)) ?_
      | refine seqI rfl ?_
      | refine regI rfl ?_
      | refine scopeI rfl ?_
      | refine blockI rfl ?_
      | refine exitI rfl ?_
      | refine retI rfl ?_
      | refine skipI rfl ?_)
    refine condI rfl (fun c1 => ?_) (fun c1 => ?_)
    · simp only [decide_eq_true_eq] at c1
      have hin : ((i : Int)).toNat = i := by omega
      repeat' (first
        | with_reducible refine pN ?_
        | with_reducible refine cN ?_
        | with_reducible refine bN ?_
        | with_reducible refine cE ?_
        | with_reducible refine cR ?_
        | with_reducible refine bR ?_
        | with_reducible refine lE ?_
        | with_reducible refine lR ?_
        | with_reducible refine jE ?_
        | with_reducible refine jR ?_
        | refine bE rfl ?_
        | refine bP rfl ?_
        | refine pC (by first | exact True.intro | omega | (intros; first | exact True.intro | omega) | (simp only [List.length_cons, List.length_nil, Int.toNat_natCast]; omega) | exact ⟨h2, h3⟩) ?_
        | refine seqI rfl ?_
        | refine regI rfl ?_
        | refine scopeI rfl ?_
        | refine blockI rfl ?_
        | refine exitI rfl ?_
        | refine retI rfl ?_
        | refine skipI rfl ?_)
      refine roundI (i + 1) rfl ?_ ?_ ?_
      · show i + 1 ≤ l.length
        omega
      · show l.length - (i + 1) < l.length - i
        omega
      · repeat' (first | exact trivial | exact rfl | refine ⟨rfl, ?_⟩ | refine And.intro ?_ ?_)
        rw [bookAll_take (by omega), hin]
    · simp only [decide_eq_false_iff_not] at c1
      repeat' (first
        | with_reducible refine pN ?_
        | with_reducible refine cN ?_
        | with_reducible refine bN ?_
        | with_reducible refine cE ?_
        | with_reducible refine cR ?_
        | with_reducible refine bR ?_
        | with_reducible refine lE ?_
        | with_reducible refine lR ?_
        | with_reducible refine jE ?_
        | with_reducible refine jR ?_
        | refine bE rfl ?_
        | refine bP rfl ?_
        | refine pC (by first | exact True.intro | omega | (intros; first | exact True.intro | omega) | (simp only [List.length_cons, List.length_nil, Int.toNat_natCast]; omega)) ?_
        | refine seqI rfl ?_
        | refine regI rfl ?_
        | refine scopeI rfl ?_
        | refine blockI rfl ?_
        | refine exitI rfl ?_
        | refine retI rfl ?_
        | refine skipI rfl ?_)
      refine endR rfl ?_
      repeat' (first | exact trivial | exact rfl | refine ⟨rfl, ?_⟩ | refine And.intro ?_ ?_)
      rw [List.take_of_length_le (by omega)]

/-! ### sane -/

def sigSane : List (Nat × Spec) := [(12, newS), (14, bookS), (19, firstS), (21, busyS), (17, freeS),
  (28, lenS), (32, calCloneS), (24, listS), (26, ownedS)]
theorem sigSaneOk : SigOk Try.prog (look sigSane) := sigCons (sigCons (sigCons (sigCons (sigCons (sigCons (sigCons (sigCons (sigCons sigNil
  Try.func26 (by kernel_rfl) (c := body Try.f26) rfl ownedOk)
  Try.func24 (by kernel_rfl) (c := body Try.f24) rfl listOk)
  Try.func32 (by kernel_rfl) (c := body Try.f32) rfl calCloneOk)
  Try.func28 (by kernel_rfl) (c := body Try.f28) rfl lenOk)
  Try.func17 (by kernel_rfl) (c := body Try.f17) rfl freeOk)
  Try.func21 (by kernel_rfl) (c := body Try.f21) rfl busyOk)
  Try.func19 (by kernel_rfl) (c := body Try.f19) rfl firstOk)
  Try.func14 (by kernel_rfl) (c := body Try.f14) rfl bookOk)
  Try.func12 (by kernel_rfl) (c := body Try.f12) rfl newOk

theorem freed_good {xss : List (List Bk.El)} (h : CalG xss) (o : Int) : CalG (freedF xss o) := ⟨by unfold freedF; rw [List.length_map]; exact h.len, fun t ht => by
  have e : getI (freedF xss o) [] t = delF (getI xss [] t) o := by
    have ht' : t < xss.length := by rw [h.len]; exact ht
    unfold freedF getI
    rw [List.getD_eq_getElem?_getD, List.getD_eq_getElem?_getD, List.getElem?_map, List.getElem?_eq_getElem ht']
    rfl
  rw [e]; exact filter_good (h.each t ht) _⟩

def saneS : Spec := plain fun
  | [] => outV True (.bool true)
  | _ => none

theorem saneOk : SpecSound Try.prog 10 saneS := by
  refine soundP (envOf sigSaneOk) Try.func10 (c := body Try.f10) rfl (by kernel_rfl) rfl ?_
  intro args out hf hpre
  split at hf <;> try (cases hf; done)
  cases hf
  refine ⟨Nat.le_of_ble_eq_true rfl, initI rfl ?_⟩
  obtain ⟨g1, k1⟩ := book_good noCal_good (3, 10, 20, 1)
  obtain ⟨g2, k2⟩ := book_good g1 (3, 20, 25, 2)
  obtain ⟨g3, k3⟩ := book_good g2 (3, 19, 20, 2)
  rw [lenF_no] at k1
  have c0 := noCal_ok
  have c1 := g1.cal (by omega)
  have c2 := g2.cal (by omega)
  have c3 := g3.cal (by omega)
  have c4 := freed_ok c3 1
  repeat' (first
    | with_reducible refine pN ?_
    | with_reducible refine cN ?_
    | with_reducible refine bN ?_
    | with_reducible refine cE ?_
    | with_reducible refine cR ?_
    | with_reducible refine bR ?_
    | with_reducible refine lE ?_
    | with_reducible refine lR ?_
    | with_reducible refine jE ?_
    | with_reducible refine jR ?_
    | refine bE rfl ?_
    | refine bP rfl ?_
    | refine pC (by first | exact True.intro | omega | (intros; first | exact True.intro | omega) | (simp only [List.length_cons, List.length_nil, Int.toNat_natCast]; omega)) ?_
    | refine seqI rfl ?_
    | refine regI rfl ?_
    | refine scopeI rfl ?_
    | refine blockI rfl ?_
    | refine exitI rfl ?_
    | refine retI rfl ?_
    | refine skipI rfl ?_)
  refine condF rfl ?_
  repeat' (first
    | with_reducible refine pN ?_
    | with_reducible refine cN ?_
    | with_reducible refine bN ?_
    | with_reducible refine cE ?_
    | with_reducible refine cR ?_
    | with_reducible refine bR ?_
    | with_reducible refine lE ?_
    | with_reducible refine lR ?_
    | with_reducible refine jE ?_
    | with_reducible refine jR ?_
    | refine bE rfl ?_
    | refine bP rfl ?_
    | refine pC (by first | exact True.intro | omega | (intros; first | exact True.intro | omega) | (simp only [List.length_cons, List.length_nil, Int.toNat_natCast]; omega) | first | exact ⟨c0, noCal_good.sorted⟩ | exact ⟨c1, g1.sorted⟩ | exact ⟨c2, g2.sorted⟩ | exact c3 | exact c4 | exact fun _ => c3 | exact fun _ => c4 | exact fun _ _ => c4) ?_
    | refine seqI rfl ?_
    | refine regI rfl ?_
    | refine scopeI rfl ?_
    | refine blockI rfl ?_
    | refine exitI rfl ?_
    | refine retI rfl ?_
    | refine skipI rfl ?_)
  refine regH [(191, true)] rfl ?_
  repeat' (first | with_reducible refine pN ?_ | refine pC (by first | exact fun _ => c4 | exact c4 | exact True.intro | kernel_rfl) ?_)
  repeat' (first
    | with_reducible refine pN ?_
    | with_reducible refine cN ?_
    | with_reducible refine bN ?_
    | with_reducible refine cE ?_
    | with_reducible refine cR ?_
    | with_reducible refine bR ?_
    | with_reducible refine lE ?_
    | with_reducible refine lR ?_
    | with_reducible refine jE ?_
    | with_reducible refine jR ?_
    | refine bE rfl ?_
    | refine bP rfl ?_
    | refine pC (by first | exact True.intro | omega | (intros; first | exact True.intro | omega) | (simp only [List.length_cons, List.length_nil, Int.toNat_natCast]; omega) | first | exact c4 | exact fun _ => c4 | exact fun _ _ => c4) ?_
    | refine seqI rfl ?_
    | refine regI rfl ?_
    | refine scopeI rfl ?_
    | refine blockI rfl ?_
    | refine exitI rfl ?_
    | refine retI rfl ?_
    | refine skipI rfl ?_)
  refine endR rfl ?_
  refine ⟨?_, trivial⟩
  kernel_rfl
end Go.AM.Ytibjkdbmlmmcjaa
