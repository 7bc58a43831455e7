/- CaIns2. -/
import Derived.Test.YtdohkcddjoammaaPw18

section
set_option linter.all false
namespace Go.AM.Ytdohkcddjoammaa
open Go.Proofs Go.RowKit Go.Lib
def insF (xs ys:List Bk.El) (i:Int):List Bk.El:=xs.take i.toNat++ys++xs.drop i.toNat
def insS:Spec:=⟨true,fun args rows=>match args,rows with
  | [.own 0,.int .i64 i,.own 1],[.seq (.pair (.int .i64) (.pair (.int .i64) (.pair (.int .i64) (.int .i64)))) xs,.seq (.pair (.int .i64) (.pair (.int .i64) (.pair (.int .i64) (.int .i64)))) ys] =>
    some ⟨0≤i∧i≤xs.length∧0 < ys.length∧(xs.length+ys.length) * 32≤140737488355328,.own 2,[.dead,.dead,.seq Bk (insF xs ys i)],true⟩
  | _,_=>none⟩
theorem ins_fin {w0 w':World} {g0:Nat→Gh} {R0:Nat→Prop} {xs ys zs:List Bk.El} {v':Value} (hR:∀ b,R0 b→b < w0.heap.size)
    (hown:∀ i o b,[AObj.seq Bk xs,AObj.seq Bk ys][i]?=some o→Own g0 w0 i o b→¬ R0 b)
    (he:(∀ ad:Addr,R0 ad.block→w'.cell? ad=w0.cell? ad)→ElemR R0 w' Bk zs v') (hg:w0.grownBy w' (blkOf (g0 0).v)) (hb:∀ b,blkOf v'=some b→blkOf (g0 0).v=some b∨b=w0.heap.size) :
    ∃ v g' R',Ending.returned v'=Ending.returned v∧HeapR ⟨w0,pasOf g0 w0 [.seq Bk xs,.seq Bk ys],R0,g',[]⟩ g' R' (locK [.dead,.dead,.seq Bk zs]) (locRow [.dead,.dead,.seq Bk zs]) w' ∧
      (∀ i,i < [AObj.seq Bk xs,AObj.seq Bk ys].length→g' i=g0 i)∧[AObj.seq Bk xs,AObj.seq Bk ys].length≤[AObj.dead,AObj.dead,AObj.seq Bk zs].length∧RelV g' (locK [.dead,.dead,.seq Bk zs]) R' w' (.own 2) v ∧
      (true=false→RelV g' (locK [.dead,.dead,.seq Bk zs]) (freshR w0 R') w' (.own 2) v∧∀ i o,[AObj.dead,AObj.dead,AObj.seq Bk zs][i]?=some o→RowH g' (locK [.dead,.dead,.seq Bk zs]) (freshR w0 R') w' i o):=by
  have h0:∀ b,blkOf (g0 0).v=some b→Own g0 w0 0 (.seq Bk xs) b:=fun b h=>h
  have hblk:∀ b,R0 b→w'.heap[b]?=w0.heap[b]?:=fun b h=>hg.block b (hR b h) (fun e=>hown 0 _ b rfl (h0 b e.symm) h)
  have he:=he fun ad had=>cell_of_heap (hblk _ had)
  have hrow:∀ i o,(locRow [.dead,.dead,.seq Bk zs]) i=some o→o=.dead∨(i=2∧o=.seq Bk zs):=fun i o h=>by
    unfold locRow at h
    match i,h with
    | 0,h=>simp at h;exact .inl h.symm
    | 1,h=>simp at h;exact .inl h.symm
    | 2,h=>simp at h;exact .inr ⟨rfl,h.symm⟩
    | i+3,h=>simp at h
  refine ⟨v',updG g0 2 ⟨0,v'⟩,R0,rfl,⟨hg.size,hg.os,hg.tape,hg.output,fun b hb' hp=>hg.block b hb' (fun e=>hp ⟨0,_,rfl,h0 b e.symm⟩),fun _ h=>h,fun b h=>Nat.lt_of_lt_of_le (hR b h) hg.size,fun b h _=>.inl h,fun _ _ _=>rfl,fun r o h=>?_,fun r o h=>?_,fun r o b h hb'=>?_,fun r r' o o' b h h' h1 h2=>?_⟩,
    fun i hi=>updG_other _ _ (by simp at hi;omega),by simp,?_,fun h=>by cases h⟩
  · exact (List.getElem?_eq_some_iff.1 h).1
  · rcases hrow r o h with rfl|⟨rfl,rfl⟩
    · trivial
    · show ElemR _ _ _ _ _
      rw [updG_same];exact he
  · rcases hrow r o h with rfl|⟨rfl,rfl⟩
    · simp [Own] at hb'
    · simp only [Own,updG_same] at hb'
      rcases hb b hb' with h1|rfl
      · exact ⟨hown 0 _ b rfl (h0 b h1),.inr ⟨0,_,rfl,h0 b h1⟩⟩
      · exact ⟨fun h=>by have:=hR _ h;omega,.inl (Nat.le_refl _)⟩
  · rcases hrow r o h with rfl|⟨rfl,rfl⟩
    · simp [Own] at h1
    · rcases hrow r' o' h' with rfl|⟨rfl,rfl⟩
      · simp [Own] at h2
      · rfl
  · have hone:v'.oneCell'=true:=by obtain ⟨_,_,h,_⟩:=he;exact own_one h
    have:=RelV.own (g:=updG g0 2 ⟨0,v'⟩) (K:=locK [.dead,.dead,.seq Bk zs]) (R:=R0) (w:=w') (r:=2) (by unfold locK;simp) (by rw [updG_same];exact hone)
    rw [updG_same] at this
    exact this
end Go.AM.Ytdohkcddjoammaa
end
