/- CaFirst. -/
import Derived.Test.YtdohkcddjoammaaPw22

section
set_option linter.all false
namespace Go.AM.Ytdohkcddjoammaa
open Go.Proofs Go.RowKit
theorem bk_cells {R:Nat→Prop} {w:World} {x:Bk.El} {vs:List Value} (h:RelEl R w Bk x vs):vs=[.int .i64 x.1,.int .i64 x.2.1,.int .i64 x.2.2.1,.int .i64 x.2.2.2]:=by
  obtain ⟨u1,w1,rfl,⟨rfl,_⟩,u2,w2,rfl,⟨rfl,_⟩,u3,w3,rfl,⟨rfl,_⟩,⟨rfl,_⟩⟩:=h
  rfl
def firstF (xss:List (List Bk.El)) (tl fr ln:Int):Int × Bool:=if toolB tl=true∧1≤ln then firstG (gapsL (toolL xss tl) (max fr 0)) ln else (0,false)
def firstS:Spec:=plain fun
  | [.nilptr,.int .i64 tl,.int .i64 fr,.int .i64 ln]=>outV True (.tup [.int .i64 0,.bool false])
  | [.ext (.cref (.pair (.int .i64) (.pair (.int .i64) (.pair (.int .i64) (.int .i64)))) xss 0),.int .i64 tl,.int .i64 fr,.int .i64 ln]=>outV (Cal xss) (.tup [.int .i64 (firstF xss tl fr ln).1,.bool (firstF xss tl fr ln).2])
  | _=>none
theorem plain_fin {w0 w':World} {g0:Nat→Gh} {R0:Nat→Prop} {o:Out} {v:Value} (hR:∀ b,R0 b→b < w0.heap.size) (hrows:o.rows=[]) (hal:o.al=false) (hg:w0.grownBy w' none)
    (hv:∀ g K R w,RelV g K R w o.ret v) :
    ∃ u g' R',Ending.returned v=Ending.returned u∧HeapR ⟨w0,pasOf g0 w0 [],R0,g',[]⟩ g' R' (locK o.rows) (locRow o.rows) w' ∧
      (∀ i,i < ([]:List AObj).length→g' i=g0 i)∧([]:List AObj).length≤o.rows.length∧RelV g' (locK o.rows) R' w' o.ret u ∧
      (o.al=false→RelV g' (locK o.rows) (freshR w0 R') w' o.ret u∧∀ i ob,o.rows[i]?=some ob→RowH g' (locK o.rows) (freshR w0 R') w' i ob):=by
  rw [hrows]
  have no:∀ i ob,locRow [] i=some ob→False:=fun i ob h=>by simp [locRow] at h
  exact ⟨v,g0,R0,rfl,⟨hg.size,hg.os,hg.tape,hg.output,fun b hb _=>hg.block b hb (by simp),fun _ h=>h,fun b h=>Nat.lt_of_lt_of_le (hR b h) hg.size,fun b h _=>.inl h,fun _ _ _=>rfl,fun r o h=>(no r o h).elim,fun r o h=>(no r o h).elim,fun r o b h=>(no r o h).elim,fun r r' o o' b h=>(no r o h).elim⟩,
    fun i hi=>by simp at hi,by simp,hv _ _ _ _,fun _=>⟨hv _ _ _ _,fun i ob h=>(no i ob h).elim⟩⟩
theorem gaps_start {P:Int→Prop} (hmax:∀ a b,P a→P b→P (max a b)):∀ {xs:List Bk.El} {f:Int},P f→(∀ b∈xs,P b.2.2.1)→∀ g∈gapsL xs f,P g.1
  | [],f,hf,_,g,hg=>by
    unfold gapsL at hg
    split at hg
    · rw [List.mem_singleton.1 hg];exact hf
    · cases hg
  | b::xs,f,hf,hb,g,hg=>by
    unfold gapsL at hg
    rcases List.mem_append.1 hg with h|h
    · split at h
      · rw [List.mem_singleton.1 h];exact hf
      · cases h
    · exact gaps_start hmax (xs:=xs) (hmax _ _ hf (hb b (by simp))) (fun c hc=>hb c (by simp [hc])) g h
theorem firstG_start {P:Int→Prop} {gs:List (Int × Int)} {ln:Int} (h0:P 0) (h:∀ g∈gs,P g.1):P (firstG gs ln).1:=by
  unfold firstG
  split
  · rename_i g hg
    exact h g (List.mem_of_find?_eq_some hg)
  · exact h0
end Go.AM.Ytdohkcddjoammaa
end
