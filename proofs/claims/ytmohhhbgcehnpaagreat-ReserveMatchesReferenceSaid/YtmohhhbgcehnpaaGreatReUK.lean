/- Plans and calendars that are later by a number. -/
import Derived.Test.YtmohhhbgcehnpaaGreatPm32
set_option linter.all false
namespace Go.AM.YtmohhhbgcehnpaaGreat.Re
open Go.Proofs
def Ends (B:Int) (c:CalT):Prop:=∀ l∈c,∀ x∈l,enB x≤B
theorem refs_eq:∀ {l:List Bk.El} {c:CalT},CalG c→l.foldl bookR c.flatten=(bookAll l c).flatten
 | [],_,_=>rfl
 | b::l,c,h=>by
   show l.foldl bookR (bookR c.flatten b)=(bookAll l (bookF c b)).flatten
   rw [ref_book h,refs_eq (book_good h b).1]
theorem refOf_eq (x:List t4.El):refOf x=(calOf x).flatten:=by
 have:=refs_eq (l:=(someF x).take 15) noCal_good
 rw [show noCal.flatten=[] by unfold noCal;simp] at this
 exact this
theorem flat_len {c:CalT}:c.flatten.length=lenF c:=by unfold lenF;rw [List.length_flatten]
end Go.AM.YtmohhhbgcehnpaaGreat.Re
