/- CaIns. -/
import Derived.Test.YtbepaplaahcnkaaGreatPc17
import Derived.WalkKit
import Derived.Shelf.RegionOpenPlain
import Derived.Lib.Walk
import Derived.Lib.SliceRun
import Derived.Lib.Overlaps
import Derived.Lib.AppendZerosOnto
import Derived.Laws.Externs
import Derived.Laws.NewBlocks

section
set_option linter.all false
namespace Go.AM.YtbepaplaahcnkaaGreat
open Go.Proofs Go.RowKit Go.Lib
theorem run_copy_row {P:Program} (w:World) (dT sT ty elem:TypeId) (i:TypeInfo) (b o dLen dCap:Nat) (a:Addr) (sLen sCap:Nat) (cs:List Value) (cur:Array Value) (e:TypeId)
 (hu:P.underlying dT=some (.slice elem)) (hi:P.info? elem=some i) (hn:cs.length=Nat.min sLen dLen * i.size)
 (hsrc:∀ j v,cs[j]?=some v→w.cell? (a.add j)=some v) (hb:w.heap[b]?=some (.cells cur e (0,0))) (hfit:o+cs.length≤cur.size) (h1:∀ v∈cs,v.oneCell'=true) :
 (Builtin.copy_ #[dT,sT] ty #[.slice (some ⟨b,o,none⟩) dLen dCap,.slice (some a) sLen sCap]).run P w=.ok (goInt (Nat.min sLen dLen)) (w.setRow b (cur.toList.take o++cs++cur.toList.drop (o+cs.length)).toArray):=by
 have hl:=run_loadCells_list (P:=P) w a cs hsrc
 have hst:=run_storeCells_at P b o e cs 0 cur w hb (by simpa using hfit) h1
 rw [Nat.add_zero] at hst
 simp [Builtin.copy_,run_underlying hu,Builtin.lenOf,Builtin.firstCells,sizeOf,typeInfo,hi,← hn,hl,hst]
end Go.AM.YtbepaplaahcnkaaGreat
end
