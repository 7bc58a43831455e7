/- CaG. -/
import Derived.Test.YtmohhhbgcehnpaaGreatPm14
import Derived.RangeFuncBox
import Derived.RangeFuncLeaves
import Derived.RangeFuncRecord
import Derived.WalkKit
import Derived.OwnWalkIn
import Derived.TacticsInMore
import Derived.LoopNIn
import Derived.LoopIn

section
set_option linter.all false
namespace Go.AM.YtmohhhbgcehnpaaGreat
open Go.Proofs Go.RowKit
def gapsL:List Bk.El→Int→List (Int × Int)
 | [],f=>if f < 1000000 then [(f,1000000)] else []
 | b::xs,f=>(if f < b.2.1 then [(f,b.2.1)] else [])++gapsL xs (max f b.2.2.1)
structure Keep (Y:Nat→Prop) (W W':World):Prop where
 size:W.heap.size≤W'.heap.size
 same:∀ k,k < W.heap.size→¬ Y k→W'.heap[k]?=W.heap[k]?
def spanV (x:Int × Int):Value:=.agg #[.int .i64 x.1,.int .i64 x.2]
theorem max_if (a b:Int):(if a < b then b else a)=max a b:=by split <;> omega
theorem box_set {w:World} {b:Nat} {t:TypeId} {u v:Value} (h:w.heap[b]?=some (.cells #[u] t (0,0))) :
 w.grownBy (w.setCell ⟨b,0,none⟩ v) (some b)∧(w.setCell ⟨b,0,none⟩ v).heap[b]?=some (.cells #[v] t (0,0))∧(∀ k,k≠b→(w.setCell ⟨b,0,none⟩ v).heap[k]?=w.heap[k]?)∧(w.setCell ⟨b,0,none⟩ v).heap.size=w.heap.size :=
 ⟨grownBy_setCell' w b v,Boxed.set v h,fun k hk=>Below.heap_setCell w ⟨b,0,none⟩ v k hk,by simp [World.setCell]⟩
theorem grown_alloc {w w':World} {r:Option Nat} (h:w.grownBy w' r) (o:Obj):w.grownBy (w'.alloc o) r :=
 ⟨h.os,h.tape,h.output,by have:=h.size;simp;omega,fun k hk hr=>(Below.heap_alloc w' o k (Nat.lt_of_lt_of_le hk h.size)).trans (h.block k hk hr)⟩
set_option maxRecDepth 100000 in
set_option maxHeartbeats 4000000 in
theorem gaps1_in (n l Bc Bt Bf B b off cap:Nat) (sa:Option Addr) (tl:Int) (f0:Int) (xs:List Bk.El) (Y:Nat→Prop) (J Jx:List (Int × Int)→World→Prop) (hn:1≤n)
 (hJ:∀ pre W W',J pre W→W.grownBy W' (some Bf)→J pre W')
 (hY:∀ pre x W,J pre W→YieldAt Fence.wide (n - 1) Tryz.prog l #[spanV x] W fun e W' =>
  (e=.returned (.bool true)∧J (pre++[x]) W'∧Keep Y W W')∨(e=.returned (.bool false)∧Jx (pre++[x]) W'))
 (W:World) (htl:0≤tl∧tl < 60) (hlen:xs.length≤1000000000) (hYlt:∀ k,Y k→k < W.heap.size) (hyf:¬ Y Bf) (hyb:¬ Y b) (hfb:Bf≠b)
 (hc:W.heap[Bc]?=some (.cells #[.pointer (some ⟨B,0,none⟩)] 30 (0,0))) (ht:W.heap[Bt]?=some (.cells #[.int .i64 tl] 3 (0,0))) (hf:W.heap[Bf]?=some (.cells #[.int .i64 f0] 3 (0,0)))
 (hs:W.cell? ⟨B,tl.toNat,none⟩=some (.slice sa xs.length cap)) (hsa:0 < xs.length→sa=some ⟨b,off,none⟩) (hbs:b < W.heap.size)
 (hel:∀ (W':World),W'.heap[b]?=W.heap[b]?→∀ k,k < xs.length→W'.cell? ⟨b,off+k * 4,none⟩=some (.int .i64 (getI xs Bk.dflt k).1)∧W'.cell? ⟨b,off+k * 4+1,none⟩=some (.int .i64 (getI xs Bk.dflt k).2.1) ∧
  W'.cell? ⟨b,off+k * 4+2,none⟩=some (.int .i64 (getI xs Bk.dflt k).2.2.1)∧W'.cell? ⟨b,off+k * 4+3,none⟩=some (.int .i64 (getI xs Bk.dflt k).2.2.2)) (h0:J [] W) :
 CallsIn Fence.wide n Tryz.prog 147 #[.func (.yield l) #[] #[],.pointer (some ⟨Bc,0,none⟩),.pointer (some ⟨Bt,0,none⟩),.pointer (some ⟨Bf,0,none⟩)] W fun e W'=>(∃ v,e=.returned v) ∧
  (J (gapsL xs f0) W'∨(∃ pre,pre <+: gapsL xs f0∧Jx pre W')):=by
 have u23:=run_underlying Tryz.underlying90
 have hmix:=mixed
 have hc0:W.cell? ⟨Bc,0,none⟩=some (.pointer (some ⟨B,0,none⟩)):=by simp [World.cell?,hc]
 have ht0:W.cell? ⟨Bt,0,none⟩=some (.int .i64 tl):=by simp [World.cell?,ht]
 have htl1:=htl.1
 have htl2:=htl.2
 refine callsIn_of_wp Tryz.func147 rfl trivial ?_ rfl
 simp only [Tryz.ntmps147,List.size_toArray,List.length_cons,List.length_nil,Nat.reduceAdd,Nat.reduceSub,Array.replicate_succ,Array.replicate_zero,List.push_toArray,List.append_toArray,List.nil_append,List.cons_append]
 gi_wp2
 gi_region
 gi_wp2
 gi_loopw [14] (fun i wr=>∃ (k:Nat) (f:Int) (pre:List (Int × Int)),k≤xs.length∧i=.int .i64 k∧gapsL xs f0=pre++gapsL (xs.drop k) f∧J pre wr∧wr.heap[Bf]?=some (.cells #[.int .i64 f] 3 (0,0))∧wr.heap[b]?=W.heap[b]?∧W.heap.size≤wr.heap.size)
  (fun i _=>xs.length - (intOf i).toNat)
 case atStart=>exact ⟨0,f0,[],Nat.zero_le _,rfl,by simp,hJ _ _ _ h0 ⟨rfl,rfl,rfl,Nat.le_refl _,fun _ _ _=>rfl⟩,hf,rfl,Nat.le_refl _⟩
 case round =>
  obtain ⟨k,f,pre,hk,rfl,hg,hJs,hff,hbb,hsz⟩:=hrel
  have hff0:wr.cell? ⟨Bf,0,none⟩=some (.int .i64 f):=by simp [World.cell?,hff]
  have hffz:wr.frozen? ⟨Bf,0,none⟩=false:=by simp [World.frozen?,hff]
  by_cases hlt:k < xs.length
  ·obtain rfl:=hsa (by omega)
   obtain ⟨hl0,hl1,hl2,hl3⟩:=hel wr hbb k hlt
   have hBf:Bf < wr.heap.size:=(Array.getElem?_eq_some_iff.1 hff).1
   have hbw:b < wr.heap.size:=by omega
   generalize hx:getI xs Bk.dflt k=x at *
   obtain ⟨W2,hW2⟩:∃ W2,W2=wr.alloc (.cells #[.int .i64 x.1,.int .i64 x.2.1,.int .i64 x.2.2.1,.int .i64 x.2.2.2] 94):=⟨_,rfl⟩
   have hnew:∀ o,(wr.alloc o).cell? ⟨Bf,0,none⟩=some (.int .i64 f):=fun o=>by rw [World.cell?_alloc_lt wr o ⟨Bf,0,none⟩ hBf];exact hff0
   have hg2:wr.grownBy W2 (some Bf):=by rw [hW2];exact World.grownBy_alloc wr _ _
   have hJ2:=hJ _ _ _ hJs hg2
   have hN2:W2.heap[wr.heap.size]?=some (.cells #[.int .i64 x.1,.int .i64 x.2.1,.int .i64 x.2.2.1,.int .i64 x.2.2.2] 94 (0,0)):=by rw [hW2];exact World.alloc_heap_new wr _
   have hsz2:W2.heap.size=wr.heap.size+1:=by rw [hW2];simp
   have hff2:W2.heap[Bf]?=some (.cells #[.int .i64 f] 3 (0,0)):=by rw [hW2,show (wr.alloc _).heap[Bf]?=wr.heap[Bf]? from Below.heap_alloc _ _ _ hBf];exact hff
   have hbb2:W2.heap[b]?=W.heap[b]?:=by rw [hg2.block b hbw (by simpa using Ne.symm hfb)];exact hbb
   have hdrop:xs.drop k=x::xs.drop (k+1):=by
    rw [List.drop_eq_getElem_cons hlt]
    congr 1
    rw [← hx]
    simp [getI,List.getD,List.getElem?_eq_getElem hlt]
   have hgap:gapsL (xs.drop k) f=(if f < x.2.1 then [(f,x.2.1)] else [])++gapsL (xs.drop (k+1)) (max f x.2.2.1):=by rw [hdrop];rfl
   by_cases hfs:f < x.2.1
   ·obtain ⟨fn,tmps,assign,body,hy,hR⟩:=hY _ (f,x.2.1) W2 hJ2
    dsimp only [spanV] at hy
    rw [hW2] at hy
    rw [if_pos hfs] at hgap
    have hN2':=hN2
    gi_wp2
    subst hW2
    refine hR.mono ?_
    rintro e W3 (⟨rfl,hJ3,hk3⟩|⟨rfl,hJx3⟩)
    ·have hff3:W3.heap[Bf]?=some (.cells #[.int .i64 f] 3 (0,0)):=(hk3.same Bf (by omega) hyf).trans hff2
     have hN3:W3.heap[wr.heap.size]?=some (.cells #[.int .i64 x.1,.int .i64 x.2.1,.int .i64 x.2.2.1,.int .i64 x.2.2.2] 94 (0,0)):=(hk3.same _ (by omega) (fun h=>by have:=hYlt _ h;omega)).trans hN2'
     have hbb3:W3.heap[b]?=W.heap[b]?:=(hk3.same b (by omega) hyb).trans hbb2
     have hc3:W3.cell? ⟨Bf,0,none⟩=some (.int .i64 f):=by simp [World.cell?,hff3]
     have hz3:W3.frozen? ⟨Bf,0,none⟩=false:=by simp [World.frozen?,hff3]
     have he3:W3.cell? ⟨wr.heap.size,2,none⟩=some (.int .i64 x.2.2.1):=by simp [World.cell?,hN3]
     have hs3:=box_set (v:=.int .i64 (if f < x.2.2.1 then x.2.2.1 else f)) hff3
     gi_wp2
     go_roundw
     case rel =>
      refine ⟨k+1,max f x.2.2.1,pre++[(f,x.2.1)],by omega,by simp,by rw [hg,hgap,List.append_assoc],hJ _ _ _ hJ3 hs3.1,?_,(hs3.2.2.1 b (Ne.symm hfb)).trans hbb3,?_⟩
      ·rw [hs3.2.1,show (if f < x.2.2.1 then x.2.2.1 else f)=max f x.2.2.1 from max_if _ _]
      ·rw [hs3.2.2.2]
       have:=hk3.size
       omega
     case measure=>simp [intOf];omega
    ·gi_wp2
     refine bodyPost_ret (results_none rfl _ _ _) rfl ?_
     exact ⟨⟨_,rfl⟩,.inr ⟨_,⟨_,by rw [hg,hgap,List.append_assoc]⟩,hJx3⟩⟩
   ·rw [if_neg hfs] at hgap
    gi_wp2
    all_goals (refine ⟨fun _ _=>trivial,?_⟩)
    have hs3:=box_set (v:=.int .i64 (if f < x.2.2.1 then x.2.2.1 else f)) hff
    have hsO:=fun O=>grown_alloc hs3.1 O
    all_goals gi_wp2
    all_goals go_roundw
    case rel =>
     refine ⟨k+1,max f x.2.2.1,pre,by omega,by simp,by rw [hg,hgap,List.nil_append],hJ _ _ _ hJs (hsO _),?_,?_,?_⟩
     ·rw [Below.heap_alloc _ _ _ (by rw [hs3.2.2.2];exact hBf),hs3.2.1,show (if f < x.2.2.1 then x.2.2.1 else f)=max f x.2.2.1 from max_if _ _]
     ·rw [Below.heap_alloc _ _ _ (by rw [hs3.2.2.2];exact hbw),hs3.2.2.1 b (Ne.symm hfb)];exact hbb
     ·have:=(hsO (.cells #[.int .i64 x.1,.int .i64 x.2.1,.int .i64 x.2.2.1,.int .i64 x.2.2.2] 94)).size
      omega
    case measure=>simp [intOf];omega
  ·obtain rfl:k=xs.length:=by omega
   have hgap:gapsL (xs.drop xs.length) f=if f < 1000000 then [(f,1000000)] else []:=by rw [List.drop_length];rfl
   by_cases hfm:f < 1000000
   ·obtain ⟨fn,tmps,assign,body,hy,hR⟩:=hY _ (f,1000000) wr hJs
    dsimp only [spanV] at hy
    rw [if_pos hfm] at hgap
    gi_wp2
    refine hR.mono ?_
    rintro e W3 (⟨rfl,hJ3,hk3⟩|⟨rfl,hJx3⟩)
    ·gi_wp2
     go_end0
     exact ⟨⟨_,rfl⟩,.inl (by rw [hg,hgap];exact hJ3)⟩
    ·gi_wp2
     go_end0
     exact ⟨⟨_,rfl⟩,.inr ⟨_,⟨[],by rw [hg,hgap,List.append_nil]⟩,hJx3⟩⟩
   ·rw [if_neg hfm] at hgap
    gi_wp2
    go_end0
    exact ⟨⟨_,rfl⟩,.inl (by rw [show gapsL [] f=[] from if_neg (by omega),List.append_nil];exact hJs)⟩
end Go.AM.YtmohhhbgcehnpaaGreat
end
