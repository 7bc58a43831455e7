/- CaG. -/
import Derived.Test.YtdohkcddjoammaaPw14
import Derived.RangeFuncBox
import Derived.RangeFuncLeaves
import Derived.RangeFuncRecord
import Derived.WalkKit
import Derived.OwnWalkIn
import Derived.TacticsInMore
import Derived.LoopNIn
import Derived.LoopIn

section
set_option linter.all false
namespace Go.AM.Ytdohkcddjoammaa
open Go.Proofs Go.RowKit
def gapsL:List Bk.El→Int→List (Int × Int)
  | [],f=>if f < 1000000 then [(f,1000000)] else []
  | b::xs,f=>(if f < b.2.1 then [(f,b.2.1)] else [])++gapsL xs (max f b.2.2.1)
structure Keep (Y:Nat→Prop) (W W':World):Prop where
  size:W.heap.size≤W'.heap.size
  same:∀ k,k < W.heap.size→¬ Y k→W'.heap[k]?=W.heap[k]?
def spanV (x:Int × Int):Value:=.agg #[.int .i64 x.1,.int .i64 x.2]
def bkV (x:Bk.El):Value:=.agg #[.int .i64 x.1,.int .i64 x.2.1,.int .i64 x.2.2.1,.int .i64 x.2.2.2]
theorem max_if (a b:Int):(if a < b then b else a)=max a b:=by split <;> omega
theorem box_set {w:World} {b:Nat} {t:TypeId} {u v:Value} (h:w.heap[b]?=some (.cells #[u] t (0,0))) :
    w.grownBy (w.setCell ⟨b,0,none⟩ v) (some b)∧(w.setCell ⟨b,0,none⟩ v).heap[b]?=some (.cells #[v] t (0,0))∧(∀ k,k≠b→(w.setCell ⟨b,0,none⟩ v).heap[k]?=w.heap[k]?)∧(w.setCell ⟨b,0,none⟩ v).heap.size=w.heap.size :=
  ⟨grownBy_setCell' w b v,Boxed.set v h,fun k hk=>Below.heap_setCell w ⟨b,0,none⟩ v k hk,by simp [World.setCell]⟩
theorem grown_alloc {w w':World} {r:Option Nat} (h:w.grownBy w' r) (o:Obj):w.grownBy (w'.alloc o) r :=
  ⟨h.os,h.tape,h.output,by have:=h.size;simp;omega,fun k hk hr=>(Below.heap_alloc w' o k (Nat.lt_of_lt_of_le hk h.size)).trans (h.block k hk hr)⟩
end Go.AM.Ytdohkcddjoammaa
end
