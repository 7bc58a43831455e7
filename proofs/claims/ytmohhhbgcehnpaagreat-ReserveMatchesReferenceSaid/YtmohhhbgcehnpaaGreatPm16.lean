/- CaIns2. -/
import Derived.Test.YtmohhhbgcehnpaaGreatPm15

section
set_option linter.all false
namespace Go.AM.YtmohhhbgcehnpaaGreat
open Go.Proofs Go.RowKit Go.Lib
set_option maxHeartbeats 4000000 in
set_option maxRecDepth 100000 in
theorem ins_end (a:Option Addr) (n c vb m vc:Nat) (w w1:World) (v1:Value) (hm:0 < m) (hnc:n≤c) (hc63:c≤9223372036854775807) (hm63:m≤9223372036854775807) (ha:a=none→n=0∧c=0)
 (hrun:(Builtin.append_ #[90,90] 90 #[.slice a n c,.slice (some ⟨vb,0,none⟩) m vc]).run Tryz.prog w=.ok v1 w1) :
 Calls Tryz.prog 96 #[.slice a n c,.int .i64 n,.slice (some ⟨vb,0,none⟩) m vc] w fun e' w'=>e'=.returned v1∧w'=w1:=by
 obtain ⟨ti,z,hinfo,hsz,hzero,hzs,hby⟩:=bkInfo
 have u23:=run_underlying Tryz.underlying90
 have z35:∀ w,(sizeOf 94).run Tryz.prog w=.ok 4 w:=fun w=>by rw [run_size w hinfo,hsz]
 have hmix:=mixed
 have hz1:¬ ((m:Int)=0):=by omega
 clear hinfo hsz hzero hzs hby
 cases a with
 | none =>
   obtain ⟨rfl,rfl⟩:=ha rfl
   go_enter Tryz.func96,Tryz.ntmps96
   go_wp2_with (at_builtin;refine Lib.wpList_append_run _ rfl _ _ _ _ rfl _ _ rfl rfl _ _ hrun ?_)
   go_ret
   exact ⟨rfl,rfl⟩
 | some a =>
   clear ha
   obtain ⟨ab,ao,asp⟩:=a
   go_enter Tryz.func96,Tryz.ntmps96
   go_wp2_with (at_builtin;refine Lib.wpList_append_run _ rfl _ _ _ _ rfl _ _ rfl rfl _ _ hrun ?_)
   all_goals (go_ret;exact ⟨rfl,rfl⟩)
def insF (xs ys:List Bk.El) (i:Int):List Bk.El:=xs.take i.toNat++ys++xs.drop i.toNat
def insS:Spec:=⟨true,fun args rows=>match args,rows with
 | [.own 0,.int .i64 i,.own 1],[.seq (.pair (.int .i64) (.pair (.int .i64) (.pair (.int .i64) (.int .i64)))) xs,.seq (.pair (.int .i64) (.pair (.int .i64) (.pair (.int .i64) (.int .i64)))) ys] =>
   some ⟨0≤i∧i≤xs.length∧0 < ys.length∧(xs.length+ys.length) * 32≤140737488355328,.own 2,[.dead,.dead,.seq Bk (insF xs ys i)],true⟩
 | _,_=>none⟩
theorem ins_fin {w0 w':World} {g0:Nat→Gh} {R0:Nat→Prop} {xs ys zs:List Bk.El} {v':Value} (hR:∀ b,R0 b→b < w0.heap.size)
 (hown:∀ i o b,[AObj.seq Bk xs,AObj.seq Bk ys][i]?=some o→Own g0 w0 i o b→¬ R0 b)
 (he:(∀ ad:Addr,R0 ad.block→w'.cell? ad=w0.cell? ad)→ElemR R0 w' Bk zs v') (hg:w0.grownBy w' (blkOf (g0 0).v)) (hb:∀ b,blkOf v'=some b→blkOf (g0 0).v=some b∨b=w0.heap.size) :
 ∃ v g' R',Ending.returned v'=Ending.returned v∧HeapR ⟨w0,pasOf g0 w0 [.seq Bk xs,.seq Bk ys],R0,g',[]⟩ g' R' (locK [.dead,.dead,.seq Bk zs]) (locRow [.dead,.dead,.seq Bk zs]) w' ∧
  (∀ i,i < [AObj.seq Bk xs,AObj.seq Bk ys].length→g' i=g0 i)∧[AObj.seq Bk xs,AObj.seq Bk ys].length≤[AObj.dead,AObj.dead,AObj.seq Bk zs].length∧RelV g' (locK [.dead,.dead,.seq Bk zs]) R' w' (.own 2) v ∧
  (true=false→RelV g' (locK [.dead,.dead,.seq Bk zs]) (freshR w0 R') w' (.own 2) v∧∀ i o,[AObj.dead,AObj.dead,AObj.seq Bk zs][i]?=some o→RowH g' (locK [.dead,.dead,.seq Bk zs]) (freshR w0 R') w' i o):=by
 have h0:∀ b,blkOf (g0 0).v=some b→Own g0 w0 0 (.seq Bk xs) b:=fun b h=>h
 have hblk:∀ b,R0 b→w'.heap[b]?=w0.heap[b]?:=fun b h=>hg.block b (hR b h) (fun e=>hown 0 _ b rfl (h0 b e.symm) h)
 have he:=he fun ad had=>cell_of_heap (hblk _ had)
 have hrow:∀ i o,(locRow [.dead,.dead,.seq Bk zs]) i=some o→o=.dead∨(i=2∧o=.seq Bk zs):=fun i o h=>by
  unfold locRow at h
  match i,h with
  | 0,h=>simp at h;exact .inl h.symm
  | 1,h=>simp at h;exact .inl h.symm
  | 2,h=>simp at h;exact .inr ⟨rfl,h.symm⟩
  | i+3,h=>simp at h
 refine ⟨v',updG g0 2 ⟨0,v'⟩,R0,rfl,⟨hg.size,hg.os,hg.tape,hg.output,fun b hb' hp=>hg.block b hb' (fun e=>hp ⟨0,_,rfl,h0 b e.symm⟩),fun _ h=>h,fun b h=>Nat.lt_of_lt_of_le (hR b h) hg.size,fun b h _=>.inl h,fun _ _ _=>rfl,fun r o h=>?_,fun r o h=>?_,fun r o b h hb'=>?_,fun r r' o o' b h h' h1 h2=>?_⟩,
  fun i hi=>updG_other _ _ (by simp at hi;omega),by simp,?_,fun h=>by cases h⟩
 ·exact (List.getElem?_eq_some_iff.1 h).1
 ·rcases hrow r o h with rfl|⟨rfl,rfl⟩
  ·trivial
  ·show ElemR _ _ _ _ _
   rw [updG_same];exact he
 ·rcases hrow r o h with rfl|⟨rfl,rfl⟩
  ·simp [Own] at hb'
  ·simp only [Own,updG_same] at hb'
   rcases hb b hb' with h1|rfl
   ·exact ⟨hown 0 _ b rfl (h0 b h1),.inr ⟨0,_,rfl,h0 b h1⟩⟩
   ·exact ⟨fun h=>by have:=hR _ h;omega,.inl (Nat.le_refl _)⟩
 ·rcases hrow r o h with rfl|⟨rfl,rfl⟩
  ·simp [Own] at h1
  ·rcases hrow r' o' h' with rfl|⟨rfl,rfl⟩
   ·simp [Own] at h2
   ·rfl
 ·have hone:v'.oneCell'=true:=by obtain ⟨_,_,h,_⟩:=he;exact own_one h
  have:=RelV.own (g:=updG g0 2 ⟨0,v'⟩) (K:=locK [.dead,.dead,.seq Bk zs]) (R:=R0) (w:=w') (r:=2) (by unfold locK;simp) (by rw [updG_same];exact hone)
  rw [updG_same] at this
  exact this
theorem insOk:SpecSound Tryz.prog 96 insS:=by
 intro args rows out hf hpre hr w0 g0 R0 vals hR hrows hown hsep hargs
 unfold insS at hf
 dsimp only at hf
 split at hf <;> try (cases hf;done)
 rename_i i xs ys
 cases hf
 obtain ⟨hi0,hi1,hym,hbig⟩:=hpre
 cases hargs with
 | cons ha1 hargs =>
 cases hargs with
 | cons ha2 hargs =>
 cases hargs with
 | cons ha3 hargs =>
 cases hargs
 cases ha1 with
 | own _ hone0 =>
 cases ha2 with
 | int hwi =>
 cases ha3 with
 | own _ hone1 =>
 have hx:ElemR R0 w0 Bk xs (g0 0).v:=hrows 0 _ rfl
 have hy:ElemR R0 w0 Bk ys (g0 1).v:=hrows 1 _ rfl
 obtain ⟨e,cs,hxo,hxl,hxb⟩:=hx
 obtain ⟨ve,vs,hyo,hyl,hyb⟩:=hy
 have hsize:Bk.size=4:=rfl
 rw [hsize] at hxo hyo
 obtain ⟨k,rfl⟩:∃ k:Nat,i=k:=⟨i.toNat,by omega⟩
 have hk:k≤xs.length:=by omega
 have hkn:((k:Int)).toNat=k:=by simp
 have h1c:∀ v∈cs,v.oneCell'=true:=lay_all (fun _ _ h=>RelEl_one h) hxl
 have h1v:∀ v∈vs,v.oneCell'=true:=lay_all (fun _ _ h=>RelEl_one h) hyl
 have hmx:xs.length+ys.length≤maxLen:=by unfold maxLen;omega
 have hvl:vs.length=ys.length * 4:=hyo.1
 have hlay:∀ (w':World),(∀ ad:Addr,R0 ad.block→w'.cell? ad=w0.cell? ad)→lay (RelEl R0 w' Bk) (insF xs ys k) (cs.take (k * 4)++vs++cs.drop (k * 4)):=fun w' hc=>by
  have m1:∀ x vs,RelEl R0 w0 Bk x vs→RelEl R0 w' Bk x vs:=fun x vs h=>RelEl_mono (fun _ h=>h) hc h
  have l1:=lay_take (m:=k) (fun _ _ h=>RelEl_len h) (lay_mono m1 hxl)
  have l2:=lay_drop (m:=k) (fun _ _ h=>RelEl_len h) (lay_mono m1 hxl)
  rw [hsize] at l1 l2
  unfold insF
  rw [hkn]
  exact lay_append (lay_append l1 (lay_mono m1 hyl)) l2
 have hil:(insF xs ys k).length=xs.length+ys.length:=by unfold insF;rw [hkn];simp;omega
 have hib:(insF xs ys k).length * Bk.bytes≤140737488355328:=by rw [hil];exact hbig
 rcases hyo.2 with ⟨_,_,h0⟩|⟨vb,vc,vcur,hv1,hvc0,hvh,hvle,hvmx,hvcur,hvtake⟩
 ·omega
 have hvsz:(g0 1).v=.slice (some ⟨vb,0,none⟩) ys.length vc:=hv1
 have hvm63:ys.length≤9223372036854775807:=by unfold maxLen at hmx;omega
 by_cases hend:k=xs.length
 ·-- at the end
  subst hend
  obtain ⟨ti,z,hinfo,hsz,hzero,hzs,hby⟩:=bkInfo
  rw [← hsz] at hxo
  obtain ⟨v',w',e2,hrun,hown',hgr,hat⟩:=run_append_any (P:=Tryz.prog) (w:=w0) (ty:=90) (t:=90) (e:=94) Tryz.underlying90 hinfo hzero (by rw [hzs,hsz]) (g0 0).v xs.length cs hxo
   (some ⟨vb,0,none⟩) ys.length vc vs (by rw [hvl,hsz]) (fun h=>by cases h) (fun ad had=>by cases had;exact own_cells hyo hv1) h1v hmx (by rw [hby];exact hbig)
  rw [hsz] at hown' hxo
  obtain ⟨a,c,hv0,hnc,ha,hc63⟩:∃ a c,(g0 0).v=.slice a xs.length c∧xs.length≤c∧(a=none→xs.length=0∧c=0)∧c≤9223372036854775807:=by
   rcases hxo.2 with ⟨a,h1,h2⟩|⟨b,cap,cur,h1,_,_,h2,h3,_⟩
   ·exact ⟨a,0,by rw [h1,h2],by omega,fun _=>⟨h2,rfl⟩,by omega⟩
   ·exact ⟨_,cap,h1,h2,fun h=>(by cases h),by unfold maxLen at h3;omega⟩
  rw [hv0,hvsz]
  rw [hv0] at hrun
  refine (ins_end a xs.length c vb ys.length vc w0 w' v' hym hnc hc63 hvm63 ha hrun).mono ?_
  rintro e' w1 ⟨rfl,rfl⟩
  refine ins_fin hR hown (fun hc=>⟨e2,cs++vs,?_,?_,hib⟩) hgr hat
  ·rw [hil,hsize];exact hown'
  ·have:=hlay w1 hc
   rw [List.take_of_length_le (by rw [hxo.1];exact Nat.le_refl _),List.drop_of_length_le (by rw [hxo.1];exact Nat.le_refl _),List.append_nil] at this
   exact this
 ·-- within
  have hlt:k < xs.length:=by omega
  rcases hxo.2 with ⟨_,_,h0⟩|⟨b,c,cur,hv0,hc0,hh,hle,hcm,hcur,htake⟩
  ·omega
  have hc63:c≤9223372036854775807:=by unfold maxLen at hcm;omega
  have hbv:blkOf (g0 0).v=some b:=by rw [hv0,blkOf_pos hc0]
  have hvbv:blkOf (g0 1).v=some vb:=by rw [hv1,blkOf_pos hvc0]
  have hne:vb≠b:=fun e=>by
   have:=hsep 0 1 _ _ b rfl rfl hbv (e ▸ hvbv)
   omega
  rw [hv0,hvsz]
  by_cases hroom:xs.length+ys.length≤c
  ·refine (ins_shift b xs.length c k vb ys.length vc cs vs cur vcur e ve w0 hlt hym hroom hc63 hne hh hcur htake hvh hvtake hvl h1c h1v).mono ?_
   rintro e' w1 ⟨rfl,rfl⟩
   have hcl:=hxo.1
   have hl3:(cs.take (k * 4)++vs++cs.drop (k * 4)).length=(xs.length+ys.length) * 4:=by simp only [List.length_append,List.length_take,List.length_drop,hvl,hcl];omega
   refine ins_fin hR hown (fun hc=>⟨e,cs.take (k * 4)++vs++cs.drop (k * 4),⟨?_,.inr ⟨b,c,_,by rw [hil],hc0,setRow_heap w0.drew b cur _ e _ hh,by rw [hil];exact hroom,hcm,?_,?_⟩⟩,hlay _ hc,hib⟩)
    (by rw [hbv];exact ⟨rfl,rfl,rfl,by simp,fun q _ hq=>setRow_other w0.drew b q _ (fun e=>hq (by rw [e]))⟩) (fun q hq=>.inl (by rw [hbv];rw [blkOf_pos hc0] at hq;exact hq))
   ·rw [hil,hsize];exact hl3
   ·rw [hsize]
    simp only [List.size_toArray,List.length_append,List.length_drop,Array.length_toList] at hl3 ⊢
    omega
   ·rw [hil,hsize,List.toList_toArray,← hl3]
    exact List.take_left
  ·refine (ins_grow b xs.length c k vb ys.length vc cs vs cur vcur e ve w0 hlt hym hle (by omega) hbig hh hcur htake hvh hvtake hvl h1c h1v).mono ?_
   rintro e' w1 ⟨G,cur',rfl,hG,hGm,hcs',htk,hh',hgr⟩
   have hcl:=hxo.1
   have hl3:(cs.take (k * 4)++vs++cs.drop (k * 4)).length=(xs.length+ys.length) * 4:=by simp only [List.length_append,List.length_take,List.length_drop,hvl,hcl];omega
   refine ins_fin hR hown (fun hc=>⟨94,cs.take (k * 4)++vs++cs.drop (k * 4),⟨?_,.inr ⟨w0.heap.size,G,cur',by rw [hil],by omega,hh',by rw [hil];exact hG,hGm,?_,?_⟩⟩,hlay _ hc,hib⟩)
    ⟨hgr.os,hgr.tape,hgr.output,hgr.size,fun q hq _=>hgr.block q hq (by simp)⟩ (fun q hq=>.inr ?_)
   ·rw [hil,hsize];exact hl3
   ·rw [hsize];exact hcs'
   ·rw [hil,hsize];exact htk
   ·have:=blkOf_own hq
    simpa [Value.ownBlock] using this.symm
end Go.AM.YtmohhhbgcehnpaaGreat
end
