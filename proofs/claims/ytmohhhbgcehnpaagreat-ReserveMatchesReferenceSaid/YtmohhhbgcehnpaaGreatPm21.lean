/- CaFirst. -/
import Derived.Test.YtmohhhbgcehnpaaGreatPm20

section
set_option linter.all false
namespace Go.AM.YtmohhhbgcehnpaaGreat
open Go.Proofs Go.RowKit
set_option maxRecDepth 100000 in
set_option maxHeartbeats 4000000 in
theorem tool_any (m:Nat) (tl:Int) (w:World):CallsIn Fence.wide m Tryz.prog 71 #[.int .i64 tl] w fun e w'=>e=.returned (.bool (toolB tl))∧w'=w:=by
 by_cases h:0≤tl∧tl < 60
 ·rw [toolB_of h.1 h.2];exact tool_in m tl w h
 ·have hb:toolB tl=false:=by unfold toolB;simp;omega
  rw [hb]
  refine callsIn_of_wp Tryz.func71 rfl trivial ?_ rfl
  simp only [Tryz.ntmps71,List.size_toArray,List.length_cons,List.length_nil,Nat.reduceAdd,Nat.reduceSub,Array.replicate_succ,Array.replicate_zero,List.push_toArray,List.append_toArray,List.nil_append,List.cons_append]
  clear hb
  by_cases h1:tl < 0
  ·gi_wp2
   go_ret
   exact ⟨rfl,rfl⟩
  ·have h2:¬ tl < 60:=by omega
   have h3:0≤tl:=by omega
   clear h
   gi_wp2
   go_ret
   exact ⟨rfl,rfl⟩
set_option maxRecDepth 100000 in
set_option maxHeartbeats 4000000 in
theorem first_no (p:Option Addr) (tl fr ln:Int) (W:World) (h:p=none∨toolB tl=false∨ln < 1) :
 CallsIn Fence.wide 9 Tryz.prog 127 #[.pointer p,.int .i64 tl,.int .i64 fr,.int .i64 ln] W fun e W'=>e=.returned (.tuple #[.int .i64 0,.bool false])∧W.grownBy W' none:=by
 have hg3:W.grownBy (((W.alloc (.cells #[.int .i64 ln] 3)).alloc (.cells #[.int .i64 0] 3)).alloc (.cells #[.bool false] 4)) none:=grown_alloc (grown_alloc (World.grownBy_alloc W _ none) _) _
 obtain ⟨s1,n1,k1⟩:=alloc_facts W (.cells #[.int .i64 ln] 3)
 obtain ⟨s2,n2,k2⟩:=alloc_facts (W.alloc (.cells #[.int .i64 ln] 3)) (.cells #[.int .i64 0] 3)
 obtain ⟨s3,n3,k3⟩:=alloc_facts ((W.alloc (.cells #[.int .i64 ln] 3)).alloc (.cells #[.int .i64 0] 3)) (.cells #[.bool false] 4)
 rw [s1] at n2
 rw [s2,s1] at n3
 have d8:=(k3 (W.heap.size+1) (by omega)).trans n2
 obtain ⟨W3,hW3⟩:∃ W3,W3=((W.alloc (.cells #[.int .i64 ln] 3)).alloc (.cells #[.int .i64 0] 3)).alloc (.cells #[.bool false] 4):=⟨_,rfl⟩
 rw [← hW3] at hg3 n3 d8
 have s8:=box_set (v:=.int .i64 0) d8
 have n3':=(s8.2.2.1 (W.heap.size+1+1) (by omega)).trans n3
 have s9:=box_set (v:=.bool false) n3'
 have fin:∀ (T:Array Value),T[8]?=some (.pointer (some ⟨W.heap.size+1,0,none⟩))→T[9]?=some (.pointer (some ⟨W.heap.size+1+1,0,none⟩)) →
  LeavesInM Fence.wide 9 Tryz.prog Tryz.f127 T (fun e W'=>e=.returned (.tuple #[.int .i64 0,.bool false])∧W.grownBy W' none) [] .returning ((W3.setCell ⟨W.heap.size+1,0,none⟩ (.int .i64 0)).setCell ⟨W.heap.size+1+1,0,none⟩ (.bool false)):=by
  intro T hT8 hT9
  have h8':=(s9.2.2.1 (W.heap.size+1) (by omega)).trans s8.2.1
  have k8:((W3.setCell ⟨W.heap.size+1,0,none⟩ (.int .i64 0)).setCell ⟨W.heap.size+1+1,0,none⟩ (.bool false)).cell? ⟨W.heap.size+1,0,none⟩=some (.int .i64 0):=by simp [World.cell?,h8']
  have k9:((W3.setCell ⟨W.heap.size+1,0,none⟩ (.int .i64 0)).setCell ⟨W.heap.size+1+1,0,none⟩ (.bool false)).cell? ⟨W.heap.size+1+1,0,none⟩=some (.bool false):=by simp [World.cell?,s9.2.1]
  refine ⟨_,?_,rfl,grown_none hg3 (by rw [s9.2.2.2,s8.2.2.2];exact Nat.le_refl _) (s9.1.os.trans s8.1.os) (s9.1.tape.trans s8.1.tape) (s9.1.output.trans s8.1.output) fun k hk=>(s9.2.2.1 k (by omega)).trans (s8.2.2.1 k (by omega))⟩
  simp [results,Tryz.f127,go_sem,hT8,hT9,k8,k9]
 have k8:W3.cell? ⟨W.heap.size+1,0,none⟩=some (.int .i64 0):=by simp [World.cell?,d8]
 have z8:W3.frozen? ⟨W.heap.size+1,0,none⟩=false:=by simp [World.frozen?,d8]
 have k9:W3.cell? ⟨W.heap.size+1+1,0,none⟩=some (.bool false):=by simp [World.cell?,n3]
 have z9:W3.frozen? ⟨W.heap.size+1+1,0,none⟩=false:=by simp [World.frozen?,n3]
 have k7:W3.cell? ⟨W.heap.size,0,none⟩=some (.int .i64 ln):=by
  have:=((k3 W.heap.size (by omega)).trans (k2 W.heap.size (by omega))).trans n1
  rw [← hW3] at this
  simp [World.cell?,this]
 clear s8 s9 n3' hg3 n1 n2 n3 d8 k1 k2 k3 s1 s2 s3
 refine callsIn_of_wp_marks Tryz.func127 rfl trivial ?_ rfl
 simp only [Tryz.ntmps127,List.size_toArray,List.length_cons,List.length_nil,Nat.reduceAdd,Nat.reduceSub,Array.replicate_succ,Array.replicate_zero,List.push_toArray,List.append_toArray,List.nil_append,List.cons_append]
 cases p with
 | none =>
   clear h
   gi_wp2
   refine ⟨trivial,?_⟩
   rw [← hW3]
   clear hW3
   gi_wp2
   refine fin _ ?_ ?_ <;> rfl
 | some a =>
   gi_wp2
   refine ⟨trivial,(tool_any _ tl _).mono ?_⟩
   rintro e w' ⟨rfl,rfl⟩
   rw [← hW3]
   clear hW3
   cases ht:toolB tl with
   | false =>
     gi_wp2
     refine fin _ ?_ ?_ <;> rfl
   | true =>
     have hln:ln < 1:=by rcases h with h|h|h;cases h;rw [ht] at h;cases h;exact h
     clear h
     gi_wp2
     refine fin _ ?_ ?_ <;> rfl
theorem bk_cells {R:Nat→Prop} {w:World} {x:Bk.El} {vs:List Value} (h:RelEl R w Bk x vs):vs=[.int .i64 x.1,.int .i64 x.2.1,.int .i64 x.2.2.1,.int .i64 x.2.2.2]:=by
 obtain ⟨u1,w1,rfl,⟨rfl,_⟩,u2,w2,rfl,⟨rfl,_⟩,u3,w3,rfl,⟨rfl,_⟩,⟨rfl,_⟩⟩:=h
 rfl
def firstF (xss:List (List Bk.El)) (tl fr ln:Int):Int × Bool:=if toolB tl=true∧1≤ln then firstG (gapsL (toolL xss tl) (max fr 0)) ln else (0,false)
def firstS:Spec:=plain fun
 | [.nilptr,.int .i64 tl,.int .i64 fr,.int .i64 ln]=>outV True (.tup [.int .i64 0,.bool false])
 | [.ext (.cref (.pair (.int .i64) (.pair (.int .i64) (.pair (.int .i64) (.int .i64)))) xss 0),.int .i64 tl,.int .i64 fr,.int .i64 ln]=>outV (Cal xss) (.tup [.int .i64 (firstF xss tl fr ln).1,.bool (firstF xss tl fr ln).2])
 | _=>none
theorem plain_fin {w0 w':World} {g0:Nat→Gh} {R0:Nat→Prop} {o:Out} {v:Value} (hR:∀ b,R0 b→b < w0.heap.size) (hrows:o.rows=[]) (hal:o.al=false) (hg:w0.grownBy w' none)
 (hv:∀ g K R w,RelV g K R w o.ret v) :
 ∃ u g' R',Ending.returned v=Ending.returned u∧HeapR ⟨w0,pasOf g0 w0 [],R0,g',[]⟩ g' R' (locK o.rows) (locRow o.rows) w' ∧
  (∀ i,i < ([]:List AObj).length→g' i=g0 i)∧([]:List AObj).length≤o.rows.length∧RelV g' (locK o.rows) R' w' o.ret u ∧
  (o.al=false→RelV g' (locK o.rows) (freshR w0 R') w' o.ret u∧∀ i ob,o.rows[i]?=some ob→RowH g' (locK o.rows) (freshR w0 R') w' i ob):=by
 rw [hrows]
 have no:∀ i ob,locRow [] i=some ob→False:=fun i ob h=>by simp [locRow] at h
 exact ⟨v,g0,R0,rfl,⟨hg.size,hg.os,hg.tape,hg.output,fun b hb _=>hg.block b hb (by simp),fun _ h=>h,fun b h=>Nat.lt_of_lt_of_le (hR b h) hg.size,fun b h _=>.inl h,fun _ _ _=>rfl,fun r o h=>(no r o h).elim,fun r o h=>(no r o h).elim,fun r o b h=>(no r o h).elim,fun r r' o o' b h=>(no r o h).elim⟩,
  fun i hi=>by simp at hi,by simp,hv _ _ _ _,fun _=>⟨hv _ _ _ _,fun i ob h=>(no i ob h).elim⟩⟩
theorem gaps_start {P:Int→Prop} (hmax:∀ a b,P a→P b→P (max a b)):∀ {xs:List Bk.El} {f:Int},P f→(∀ b∈xs,P b.2.2.1)→∀ g∈gapsL xs f,P g.1
 | [],f,hf,_,g,hg=>by
   unfold gapsL at hg
   split at hg
   ·rw [List.mem_singleton.1 hg];exact hf
   ·cases hg
 | b::xs,f,hf,hb,g,hg=>by
   unfold gapsL at hg
   rcases List.mem_append.1 hg with h|h
   ·split at h
    ·rw [List.mem_singleton.1 h];exact hf
    ·cases h
   ·exact gaps_start hmax (xs:=xs) (hmax _ _ hf (hb b (by simp))) (fun c hc=>hb c (by simp [hc])) g h
theorem firstG_start {P:Int→Prop} {gs:List (Int × Int)} {ln:Int} (h0:P 0) (h:∀ g∈gs,P g.1):P (firstG gs ln).1:=by
 unfold firstG
 split
 ·rename_i g hg
  exact h g (List.mem_of_find?_eq_some hg)
 ·exact h0
theorem firstOk:SpecSound Tryz.prog 127 firstS:=by
 intro args rows out hf hpre hr w0 g0 R0 vals hR hrows hown hsep hargs
 obtain rfl:rows=[]:=hr rfl
 have hv:∀ (a:Int) (r:Bool),IntKind.wrap .i64 a=a→∀ (g:Nat→Gh) (K R:Nat→Prop) (w:World),RelV g K R w (.tup [.int .i64 a,.bool r]) (.tuple #[.int .i64 a,.bool r]):=fun a r ha g K R w=>.tup (.cons (.int ha) (.cons .bool .nil))
 unfold firstS plain at hf
 dsimp only at hf
 split at hf <;> try (cases hf;done)
 ·rename_i tl fr ln
  cases hf
  cases hargs with
  | cons h1 hargs =>
  cases hargs with
  | cons h2 hargs =>
  cases hargs with
  | cons h3 hargs =>
  cases hargs with
  | cons h4 hargs =>
  cases hargs
  cases h1
  cases h2
  cases h3
  cases h4
  refine (callsIn_wide.1 (first_no none tl fr ln w0 (.inl rfl))).mono ?_
  rintro e w' ⟨rfl,hg⟩
  exact plain_fin hR rfl rfl hg (hv 0 false rfl)
 ·rename_i xss tl fr ln
  cases hf
  change Cal xss at hpre
  cases hargs with
  | cons h1 hargs =>
  cases hargs with
  | cons h2 hargs =>
  cases hargs with
  | cons h3 hargs =>
  cases hargs with
  | cons h4 hargs =>
  cases hargs
  cases h2
  cases h3
  cases h4
  cases h1 with
  | ext hx =>
  obtain ⟨B,vs,rfl,hRB,hrow,hcell⟩:=hx
  by_cases hok:toolB tl=true∧1≤ln
  ·obtain ⟨ht,hln⟩:=hok
   obtain ⟨t1,t2⟩:=toolB_true ht
   have hlt:tl.toNat < xss.length:=by rw [hpre.len];omega
   have hltv:tl.toNat < vs.length:=by rw [hrow.1];exact hlt
   have hrd:=hrow.2 tl.toNat _ _ (List.getElem?_eq_getElem hltv) (getI_get (d:=[]) hlt)
   obtain ⟨sa,cap,hu,_,_,_,hsome⟩:=hrd
   have hsm:=(hpre.get (i:=tl.toNat) (by omega)).2
   have hs:w0.cell? ⟨B,tl.toNat,none⟩=some (.slice sa (toolL xss tl).length cap):=by
    rw [hcell _ _ (List.getElem?_eq_getElem hltv),hu];rfl
   have hf:firstF xss tl fr ln=firstG (gapsL (toolL xss tl) (max fr 0)) ln:=by unfold firstF;rw [if_pos ⟨ht,hln⟩]
   obtain ⟨b,off,hb,hsa,hel⟩:∃ b off,b < w0.heap.size∧(0 < (toolL xss tl).length→sa=some ⟨b,off,none⟩) ∧
    ∀ (W':World),W'.heap[b]?=w0.heap[b]?→∀ k,k < (toolL xss tl).length→W'.cell? ⟨b,off+k * 4,none⟩=some (.int .i64 (getI (toolL xss tl) Bk.dflt k).1)∧W'.cell? ⟨b,off+k * 4+1,none⟩=some (.int .i64 (getI (toolL xss tl) Bk.dflt k).2.1) ∧
     W'.cell? ⟨b,off+k * 4+2,none⟩=some (.int .i64 (getI (toolL xss tl) Bk.dflt k).2.2.1)∧W'.cell? ⟨b,off+k * 4+3,none⟩=some (.int .i64 (getI (toolL xss tl) Bk.dflt k).2.2.2):=by
    by_cases h0:0 < (toolL xss tl).length
    ·obtain ⟨ad,us,h5,h6,h7,h8,h9⟩:=hsome h0
     obtain ⟨ab,ao,asp⟩:=ad
     simp only at h6
     subst h6
     refine ⟨ab,ao,hR _ h7,fun _=>h5,fun W' hW' k hk=>?_⟩
     obtain ⟨es,he1,he2⟩:=lay_at (w:=w0) (n:=Ty.size _) (fun _ _ h=>RelEl_len h) Bk.dflt h8 hk h9
     have he3:=bk_cells he1
     have key:∀ j u,es[j]?=some u→W'.cell? ⟨ab,ao+k * 4+j,none⟩=some u:=fun j u hj=>by
      have h10:=he2 j u hj
      rw [add_add',add_none rfl] at h10
      rw [cell_of_heap (w:=w0) (w':=W') hW']
      rw [show ao+k * 4+j=ao+(k * Bk.size+j) by show ao+k * 4+j=ao+(k * 4+j);omega]
      exact h10
     exact ⟨key 0 _ (by rw [he3];rfl),key 1 _ (by rw [he3];rfl),key 2 _ (by rw [he3];rfl),key 3 _ (by rw [he3];rfl)⟩
    ·exact ⟨B,0,hR _ hRB,fun h=>absurd h h0,fun W' hW' k hk=>absurd hk (by omega)⟩
   refine (callsIn_wide.1 (first_in B b off cap sa tl fr ln (toolL xss tl) w0 ⟨t1,t2⟩ hln (Nat.le_trans hsm (by omega)) hs hsa hb hel)).mono ?_
   rintro e w' ⟨rfl,hg⟩
   rw [← hf]
   refine plain_fin hR rfl rfl hg (hv _ _ ?_)
   rw [hf]
   have hrd:=Reads_ok (hrow.2 tl.toNat _ _ (List.getElem?_eq_getElem hltv) (getI_get (d:=[]) hlt))
   have hP:=firstG_start (P:=In64) (gs:=gapsL (toolL xss tl) (max fr 0)) (ln:=ln) (by decide) (gaps_start (fun a b ha hb=>by
    rcases Int.le_total a b with h|h
    ·rw [Int.max_eq_right h];exact hb
    ·rw [Int.max_eq_left h];exact ha) (by
     have:=wrap64 (by assumption:IntKind.wrap .i64 fr=fr)
     unfold In64
     omega) (fun c hc=>wrap64 (hrd.2 c hc).2.2.1))
   exact wrap_in64 hP
  ·have hf:firstF xss tl fr ln=(0,false):=by unfold firstF;rw [if_neg hok]
   have hno:toolB tl=false∨ln < 1:=by
    by_cases ht:toolB tl=true
    ·exact .inr (by rcases Int.lt_or_le ln 1 with h|h;exact h;exact absurd ⟨ht,h⟩ hok)
    ·exact .inl (by simpa using ht)
   refine (callsIn_wide.1 (first_no (some ⟨B,0,none⟩) tl fr ln w0 (.inr hno))).mono ?_
   rintro e w' ⟨rfl,hg⟩
   have hfin:=plain_fin (g0:=g0) hR (o:=⟨Cal xss,.tup [.int .i64 0,.bool false],[],false⟩) rfl rfl hg (hv 0 false rfl)
   rw [hf]
   exact hfin
end Go.AM.YtmohhhbgcehnpaaGreat
end
