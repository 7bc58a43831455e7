/- The laws' helpers: booked, sane. -/
import Derived.Test.YtkacoophnfljcaaCaT
set_option linter.all false
namespace Go.AM.Ytkacoophnfljcaa
open Go.Proofs
set_option maxRecDepth 100000
set_option maxHeartbeats 4000000

def sigBk : List (Nat × Spec) := [(35, newS), (34, bookS)]
theorem sigBkOk : SigOk Try.prog (look sigBk) := sigCons (sigCons sigNil Try.func34 (by kernel_rfl) (c := body Try.f34) rfl bookOk)
  Try.func35 (by kernel_rfl) (c := body Try.f35) rfl newOk

theorem bookAll_ok (l : List Bk.El) (h : l.length ≤ 1000) : CalG (bookAll l noCal) ∧ Cal (bookAll l noCal) ∧ CalS (bookAll l noCal) := by
  obtain ⟨h1, h2⟩ := bookAll_good (l := l) noCal_good
  rw [lenF_no] at h2
  exact ⟨h1, h1.cal (by omega), h1.sorted⟩

theorem bookAll_take {l : List Bk.El} {i : Nat} (h : i < l.length) (xss : List (List Bk.El)) : bookAll (l.take (i + 1)) xss = bookF (bookAll (l.take i) xss) (getI l Bk.dflt i) := by
  rw [take_succ_getI (d := Bk.dflt) h, bookAll_append]; rfl

def bookedS : Spec := plain fun
  | [.sl (.pair (.int .i64) (.pair (.int .i64) (.pair (.int .i64) (.int .i64)))) l] => some ⟨l.length ≤ 1000, .ptr 0 0, [.arr Bk (bookAll l noCal) none], false⟩
  | _ => none

/-! ### sane -/

theorem freed_good {xss : List (List Bk.El)} (h : CalG xss) (o : Int) : CalG (freedF xss o) := ⟨by unfold freedF; rw [List.length_map]; exact h.len, fun t ht => by
  have e : getI (freedF xss o) [] t = delF (getI xss [] t) o := by
    have ht' : t < xss.length := by rw [h.len]; exact ht
    unfold freedF getI
    rw [List.getD_eq_getElem?_getD, List.getD_eq_getElem?_getD, List.getElem?_map, List.getElem?_eq_getElem ht']
    rfl
  rw [e]; exact filter_good (h.each t ht) _⟩

def saneS : Spec := plain fun
  | [] => outV True (.bool true)
  | _ => none

end Go.AM.Ytkacoophnfljcaa
