/- CaIns. -/
import Derived.Test.YtmohhhbgcehnpaaGreatPm14
import Derived.WalkKit
import Derived.Shelf.RegionOpenPlain
import Derived.Lib.Walk
import Derived.Lib.SliceRun
import Derived.Lib.Overlaps
import Derived.Lib.AppendZerosOnto
import Derived.Laws.Externs
import Derived.Laws.NewBlocks

section
set_option linter.all false
namespace Go.AM.YtmohhhbgcehnpaaGreat
open Go.Proofs Go.RowKit Go.Lib
theorem run_copy_row {P:Program} (w:World) (dT sT ty elem:TypeId) (i:TypeInfo) (b o dLen dCap:Nat) (a:Addr) (sLen sCap:Nat) (cs:List Value) (cur:Array Value) (e:TypeId)
 (hu:P.underlying dT=some (.slice elem)) (hi:P.info? elem=some i) (hn:cs.length=Nat.min sLen dLen * i.size)
 (hsrc:∀ j v,cs[j]?=some v→w.cell? (a.add j)=some v) (hb:w.heap[b]?=some (.cells cur e (0,0))) (hfit:o+cs.length≤cur.size) (h1:∀ v∈cs,v.oneCell'=true) :
 (Builtin.copy_ #[dT,sT] ty #[.slice (some ⟨b,o,none⟩) dLen dCap,.slice (some a) sLen sCap]).run P w=.ok (goInt (Nat.min sLen dLen)) (w.setRow b (cur.toList.take o++cs++cur.toList.drop (o+cs.length)).toArray):=by
 have hl:=run_loadCells_list (P:=P) w a cs hsrc
 have hst:=run_storeCells_at P b o e cs 0 cur w hb (by simpa using hfit) h1
 rw [Nat.add_zero] at hst
 simp [Builtin.copy_,run_underlying hu,Builtin.lenOf,Builtin.firstCells,sizeOf,typeInfo,hi,← hn,hl,hst]
theorem wpList_copy_runI {P:Program} (w:World) {ops:Array Oper} {rest:List Oper} {o:Oper} {a:Act} {Q:Exit→Act→World→Prop} (hgd:o.guard=none) (d s:Operand) (t t':TypeId)
 (ho:o.op=.call { callee:=.builtin .copy,args:=#[d,s],argTypes:=#[t,t'] }) (v u:Value) (hd:a.eval d=v) (hs:a.eval s=u) {v':Value} {w':World}
 (hr:(Builtin.copy_ #[t,t'] o.type #[v,u]).run P w=.ok v' w') (h:wpList P ops Q rest (a.put o.dst v') w'):wpList P ops Q (o::rest) a w :=
 wpList_plain hgd fun K hK=>by
  unfold Oper.wp execOp
  simp only [ho,resolve,invoke,builtin,Sem.run_bind,Sem.run_pure,Result.andThen_ok,List.map_toArray,List.map_cons,List.map_nil,hd,hs,hr]
  exact hK _ _ h
theorem step_copy_runI {P:Program} {ops:Array Oper} {o:Oper} {a:Act} {w:World} {K:Act→World→Prop} {Q:Exit→Act→World→Prop} {E:Prop}
 (hg:o.guard=none) (d x:Operand) (dT sT:TypeId) (hop:o.op=Op.call { callee:=Callee.builtin Builtin.copy,args:=#[d,x],argTypes:=#[dT,sT] })
 (v u:Value) (hd:a.eval d=v) (hx:a.eval x=u) {v':Value} {w':World} (hr:(Builtin.copy_ #[dT,sT] o.type #[v,u]).run P w=.ok v' w') (hK:K (a.put o.dst v') w') :
 if Region.wanted o (yielded ops a.tmps)=true then Oper.wp P o a w K Q else E:=by
 have hw:Region.wanted o (yielded ops a.tmps)=true:=by simp [Region.wanted,hg]
 rw [if_pos hw]
 unfold Oper.wp
 simp [execOp,hop,resolve,invoke,builtin,hd,hx,hr,Result.andThen]
 exact hK
theorem shape_row {w:World} {b:Nat} {cur:Array Value} {e:TypeId} (h:w.heap[b]?=some (.cells cur e (0,0))):w.shape? b=some (e,cur.size):=by
 simp [World.shape?,h]
theorem frozen_row {w:World} {b k:Nat} {cur:Array Value} {e:TypeId} (h:w.heap[b]?=some (.cells cur e (0,0))):w.frozen? ⟨b,k,none⟩=false:=by
 simp [World.frozen?,h]
theorem bkInfo:∃ i z,Tryz.prog.info? 94=some i∧i.size=4∧i.zero=some z∧z.cells.size=4∧i.bytes=32:=by
 obtain ⟨_,_,_,_,_,_,_,hd,_,_⟩:=tsOk.info (t:=90) rfl
 obtain ⟨el,i,z,c,hu,h1,_,h2,h3,h4,h5,h6⟩:=td_slice hd
 have e:=Tryz.underlying90
 rw [hu] at e
 injection e with e
 injection e with e
 subst e
 refine ⟨i,z,h1,h2,h4,?_,h3⟩
 have h7:=RelL_len (cells_rel (ofZero_rel (g:=fun _=>⟨0,undef⟩) (K:=fun _=>True) (R:=fun _=>True) (w:=default) h5) (ofZero_cell h5))
 rw [← h6] at h7
 simpa using h7
set_option maxHeartbeats 4000000 in
set_option maxRecDepth 100000 in
theorem ins_shift (b n c i vb m vc:Nat) (cs vs:List Value) (cur vcur:Array Value) (e ve:TypeId) (w:World) (hi:i < n) (hm:0 < m) (hroom:n+m≤c) (hc63:c≤9223372036854775807) (hvb:vb≠b)
 (hb:w.heap[b]?=some (.cells cur e (0,0))) (hcs:cur.size=c * 4) (hct:cur.toList.take (n * 4)=cs) (hv:w.heap[vb]?=some (.cells vcur ve (0,0))) (hvt:vcur.toList.take (m * 4)=vs) (hvl:vs.length=m * 4)
 (h1c:∀ v∈cs,v.oneCell'=true) (h1v:∀ v∈vs,v.oneCell'=true) :
 Calls Tryz.prog 96 #[.slice (some ⟨b,0,none⟩) n c,.int .i64 i,.slice (some ⟨vb,0,none⟩) m vc] w fun e' w' =>
  e'=.returned (.slice (some ⟨b,0,none⟩) (n+m) c) ∧
  w'=w.drew.setRow b (cs.take (i * 4)++vs++cs.drop (i * 4)++cur.toList.drop ((n+m) * 4)).toArray:=by
 obtain ⟨ti,z,hinfo,hsz,hzero,hzs,hby⟩:=bkInfo
 have u23:=run_underlying Tryz.underlying90
 have z35:∀ w,(sizeOf 94).run Tryz.prog w=.ok 4 w:=fun w=>by rw [run_size w hinfo,hsz]
 have hmix:=mixed
 have hz1:¬ ((m:Int)=0):=by omega
 have hz2:¬ ((i:Int)=(n:Int)):=by omega
 have hcl:cs.length=n * 4:=by rw [← hct,List.length_take,Array.length_toList,hcs];omega
 have hcurl:cur.toList=cs++cur.toList.drop (n * 4):=by rw [← hct,List.take_append_drop]
 have hvsz:m * 4≤vcur.size:=by have:=hvl;rw [← hvt,List.length_take,Array.length_toList] at this;omega
 have hov:∀ lb cb,(callFunc 124 #[.slice (some ⟨vb,0,none⟩) m vc,.slice (some ⟨b,(i+m) * 4,none⟩) lb cb]).run Tryz.prog w=.ok (.value (.bool false)) w:=fun lb cb=>by
  rw [run_callFunc_extern Tryz.func124 (by kernel_rfl) (by kernel_rfl) (by kernel_rfl) (e:=Extern.SlicesOverlaps.overlaps #[90,90] #[4]) (by kernel_rfl),
   Lib.run_overlaps_apart w 90 4 94 Tryz.underlying90 4 z35 ⟨vb,0,none⟩ ⟨b,(i+m) * 4,none⟩ m vc lb cb hvb ve e vcur.size cur.size (shape_row hv) (shape_row hb) (by omega) (frozen_row hv) (frozen_row hv)]
  rfl
 have hw1:IntKind.i64.wrap ((i:Int)+(m:Int))=(i:Int)+(m:Int):=by rw [IntKind.wrap_i64];omega
 have hb1:(0:Int)≤(i:Int)+(m:Int):=by omega
 have hin:i≤n:=by omega
 have htn:((i:Int)+(m:Int)).toNat=i+m:=by omega
 have hb2:¬ (c=i+m):=by omega
 have hb3:(i:Int)≤(n:Int)+(m:Int):=by omega
 have hb4:¬ (c=i):=by omega
 have hcell:∀ j v,cs[j]?=some v→w.drew.cell? ⟨b,j,none⟩=some v:=fun j v hj=>by
  rw [cell_of_row w.drew b j cur e (0,0) hb]
  have:cur.toList[j]?=some v:=by rw [hcurl,List.getElem?_append_left (List.getElem?_eq_some_iff.1 hj).1];exact hj
  simpa using this
 have hdl:(cs.drop (i * 4)).length=(n - i) * 4:=by rw [List.length_drop,hcl];omega
 have hcp1:∀ ty dc sc,(Builtin.copy_ #[90,90] ty #[.slice (some ⟨b,(i+m) * 4,none⟩) (n+m - (i+m)) dc,.slice (some ⟨b,i * 4,none⟩) (n+m - i) sc]).run Tryz.prog w.drew=.ok (goInt ((n - i:Nat):Int)) (w.drew.setRow b (cur.toList.take ((i+m) * 4)++cs.drop (i * 4)++cur.toList.drop ((i+m) * 4+(cs.drop (i * 4)).length)).toArray):=fun ty dc sc=>by
  have hmin:Nat.min (n+m - i) (n+m - (i+m))=n - i:=by simp only [Nat.min_def];split <;> omega
  have:=run_copy_row w.drew 90 90 ty 94 ti b ((i+m) * 4) (n+m - (i+m)) dc ⟨b,i * 4,none⟩ (n+m - i) sc (cs.drop (i * 4)) cur e Tryz.underlying90 hinfo
   (by rw [hdl,hsz,hmin]) (fun j v hj=>by rw [Addr.add_lit];exact hcell _ v (by rwa [List.getElem?_drop] at hj)) hb (by rw [hdl,hcs];omega) (fun v hv=>h1c v (List.mem_of_mem_drop hv))
  rw [hmin] at this
  exact this
 obtain ⟨cur1,hcur1⟩:∃ cur1,cur1=(cur.toList.take ((i+m) * 4)++cs.drop (i * 4)++cur.toList.drop ((i+m) * 4+(cs.drop (i * 4)).length)).toArray:=⟨_,rfl⟩
 rw [← hcur1] at hcp1
 obtain ⟨W1,hW1⟩:∃ W1,W1=w.drew.setRow b cur1:=⟨_,rfl⟩
 rw [← hW1] at hcp1
 have hb1':W1.heap[b]?=some (.cells cur1 e (0,0)):=by rw [hW1];exact setRow_heap _ _ cur _ _ _ hb
 have hv1:W1.heap[vb]?=some (.cells vcur ve (0,0)):=by rw [hW1,setRow_other _ _ _ _ hvb];exact hv
 have hcur1s:cur1.size=c * 4:=by rw [hcur1];simp [hdl,hcs];omega
 have hcp2:∀ ty dc,(Builtin.copy_ #[90,90] ty #[.slice (some ⟨b,i * 4,none⟩) (n+m - i) dc,.slice (some ⟨vb,0,none⟩) m vc]).run Tryz.prog W1=.ok (goInt m) (W1.setRow b (cur1.toList.take (i * 4)++vs++cur1.toList.drop (i * 4+vs.length)).toArray):=fun ty dc=>by
  have hmin:Nat.min m (n+m - i)=m:=by simp only [Nat.min_def];split <;> omega
  have:=run_copy_row W1 90 90 ty 94 ti b (i * 4) (n+m - i) dc ⟨vb,0,none⟩ m vc vs cur1 e Tryz.underlying90 hinfo
   (by rw [hvl,hsz,hmin]) (fun j v hj=>by
    rw [Addr.add_lit,Nat.zero_add,cell_of_row W1 vb j vcur ve (0,0) hv1]
    have:vcur.toList[j]?=some v:=by
     have hjl:=(List.getElem?_eq_some_iff.1 hj).1
     rw [← hvt,List.getElem?_take] at hj
     split at hj
     ·exact hj
     ·cases hj
    simpa using this) hb1' (by rw [hvl,hcur1s];omega) h1v
  rw [hmin] at this
  exact this
 have hfin:(cur1.toList.take (i * 4)++vs++cur1.toList.drop (i * 4+vs.length))=cs.take (i * 4)++vs++cs.drop (i * 4)++cur.toList.drop ((n+m) * 4):=by
  have e1:cur1.toList.take (i * 4)=cs.take (i * 4):=by
   rw [hcur1,List.append_assoc,List.toList_toArray,List.take_append_of_le_length (by rw [List.length_take,Array.length_toList,hcs];omega),List.take_take,Nat.min_eq_left (by omega),hcurl,List.take_append_of_le_length (by omega)]
  have e2:cur1.toList.drop (i * 4+vs.length)=cs.drop (i * 4)++cur.toList.drop ((n+m) * 4):=by
   have hl:(cur.toList.take ((i+m) * 4)).length=(i+m) * 4:=by rw [List.length_take,Array.length_toList,hcs];omega
   rw [hcur1,List.append_assoc,List.toList_toArray,hvl,show i * 4+m * 4=(cur.toList.take ((i+m) * 4)).length by rw [hl];omega,List.drop_left,hdl]
   congr 2;omega
  rw [e1,e2,List.append_assoc,List.append_assoc,List.append_assoc]
 rw [hfin] at hcp2
 have hset:W1.setRow b (cs.take (i * 4)++vs++cs.drop (i * 4)++cur.toList.drop ((n+m) * 4)).toArray=w.drew.setRow b (cs.take (i * 4)++vs++cs.drop (i * 4)++cur.toList.drop ((n+m) * 4)).toArray:=by
  rw [hW1,setRow_setRow]
 clear hcurl hfin hcur1 hW1 hb1' hv1 hcur1s hcell hdl hct hvt hcl hvl h1c h1v hb hv hcs hvsz
 go_enter Tryz.func96,Tryz.ntmps96
 go_wp2_with (simp only [hov])
 go_region_law_o (refine step_copy_runI rfl _ _ 90 90 rfl _ _ (by simp [Act.eval,Act.put]) (by simp [Act.eval,Act.put]) (hcp1 _ _ _) ?_)
 go_wp2_with (at_builtin;refine wpList_copy_runI _ rfl _ _ 90 90 rfl _ _ rfl rfl (hcp2 _ _) ?_)
 go_ret
 exact ⟨rfl,by rw [← hset];simp only [List.append_assoc]⟩
set_option maxHeartbeats 4000000 in
set_option maxRecDepth 100000 in
theorem ins_grow (b n c i vb m vc:Nat) (cs vs:List Value) (cur vcur:Array Value) (e ve:TypeId) (w:World) (hi:i < n) (hm:0 < m) (hnc:n≤c) (hroom:c < n+m) (hbig:(n+m) * 32≤140737488355328)
 (hb:w.heap[b]?=some (.cells cur e (0,0))) (hcs:cur.size=c * 4) (hct:cur.toList.take (n * 4)=cs) (hv:w.heap[vb]?=some (.cells vcur ve (0,0))) (hvt:vcur.toList.take (m * 4)=vs) (hvl:vs.length=m * 4)
 (h1c:∀ v∈cs,v.oneCell'=true) (h1v:∀ v∈vs,v.oneCell'=true) :
 Calls Tryz.prog 96 #[.slice (some ⟨b,0,none⟩) n c,.int .i64 i,.slice (some ⟨vb,0,none⟩) m vc] w fun e' w' =>
  ∃ G cur',e'=.returned (.slice (some ⟨w.heap.size,0,none⟩) (n+m) G)∧n+m≤G∧G≤maxLen∧cur'.size=G * 4∧cur'.toList.take ((n+m) * 4)=cs.take (i * 4)++vs++cs.drop (i * 4) ∧
   w'.heap[w.heap.size]?=some (.cells cur' 94 (0,0))∧w.grownBy w' none:=by
 obtain ⟨ti,z,hinfo,hsz,hzero,hzs,hby⟩:=bkInfo
 have u23:=run_underlying Tryz.underlying90
 have z35:∀ w,(sizeOf 94).run Tryz.prog w=.ok 4 w:=fun w=>by rw [run_size w hinfo,hsz]
 have hmix:=mixed
 have hz1:¬ ((m:Int)=0):=by omega
 have hz2:¬ ((i:Int)=(n:Int)):=by omega
 have hz3:(c:Int) < (n:Int)+(m:Int):=by omega
 have hbw:b < w.heap.size:=(Array.getElem?_eq_some_iff.1 hb).1
 have hvw:vb < w.heap.size:=(Array.getElem?_eq_some_iff.1 hv).1
 have hcl:cs.length=n * 4:=by rw [← hct,List.length_take,Array.length_toList,hcs];omega
 have hcurl:cur.toList=cs++cur.toList.drop (n * 4):=by rw [← hct,List.take_append_drop]
 have hvsz:m * 4≤vcur.size:=by have:=hvl;rw [← hvt,List.length_take,Array.length_toList] at this;omega
 have hkk:(n:Int)+(m:Int) - (i:Int)=((n+m - i:Nat):Int):=by omega
 have hik:i+(n+m - i)=n+m:=by omega
 have hcell:∀ (W:World),W.heap[b]?=w.heap[b]?→∀ j v,cs[j]?=some v→W.cell? ⟨b,j,none⟩=some v:=fun W hW j v hj=>by
  rw [cell_of_row W b j cur e (0,0) (hW.trans hb)]
  have:cur.toList[j]?=some v:=by rw [hcurl,List.getElem?_append_left (List.getElem?_eq_some_iff.1 hj).1];exact hj
  simpa using this
 have hold:(Builtin.firstCells ti.size i (.slice (some ⟨b,0,none⟩) i c)).run Tryz.prog w.drew=.ok (cs.take (i * 4)).toArray w.drew:=by
  rw [hsz]
  exact run_firstCells_some w.drew 4 i ⟨b,0,none⟩ i c (cs.take (i * 4)) (by rw [List.length_take];omega) (fun j v hj=>by
   rw [Addr.add_lit,Nat.zero_add]
   rw [List.getElem?_take] at hj
   split at hj
   ·exact hcell w.drew rfl j v hj
   ·cases hj)
 have hmx:n+m≤maxLen:=by unfold maxLen;omega
 have hrz:∀ ty,(Builtin.append_ #[90,3] ty #[.slice (some ⟨b,0,none⟩) i c,.int .i64 ((n:Int)+(m:Int) - (i:Int))]).run Tryz.prog w =
  .ok (.slice (some ⟨w.heap.size,0,none⟩) (n+m) (grownCap w (n+m) c 94)) (w.drew.alloc (.cells ((cs.take (i * 4)).toArray++Builtin.zeroCells z.cells (n+m - i)++Builtin.zeroCells z.cells (grownCap w (n+m) c 94 - (n+m))) 94)):=fun ty=>by
  have h:=Lib.run_append_grow_zeros w 90 3 ty 94 ti z .i64 .i64 Tryz.underlying90 Tryz.underlying3 hinfo hzero (some ⟨b,0,none⟩) i c (cs.take (i * 4)) hold (n+m - i) (by omega) (by omega) (by omega) (by omega) (by rw [hby];omega) (by rw [hby,hik];exact growslice_fits hroom hbig)
  rw [hik] at h
  rw [hkk]
  exact h
 obtain ⟨G,hG⟩:∃ G,G=grownCap w (n+m) c 94:=⟨_,rfl⟩
 obtain ⟨ROW,hROW⟩:∃ ROW:Array Value,ROW=(cs.take (i * 4)).toArray++Builtin.zeroCells z.cells (n+m - i)++Builtin.zeroCells z.cells (G - (n+m)):=⟨_,rfl⟩
 rw [← hG] at hrz
 rw [← hROW] at hrz
 have hGn:n+m≤G:=by rw [hG];exact grownCap_ge w _ _ _
 have hGm:G≤maxLen:=by rw [hG];exact grownCap_le_maxLen w (n+m) c 94 hmx
 have hG63:G≤9223372036854775807:=by have:=hGm;unfold maxLen at this;omega
 have hRs:ROW.size=G * 4:=by
  rw [hROW]
  simp only [Array.size_append,List.size_toArray,size_zeroCells,hzs,List.length_take,hcl]
  omega
 obtain ⟨W1,hW1⟩:∃ W1,W1=w.drew.alloc (.cells ROW 94):=⟨_,rfl⟩
 rw [← hW1] at hrz
 have hN1:W1.heap[w.heap.size]?=some (.cells ROW 94 (0,0)):=by rw [hW1];exact heap_alloc_new w.drew _
 have hold1:∀ k,k < w.heap.size→W1.heap[k]?=w.heap[k]?:=fun k hk=>by rw [hW1];exact Go.RowKit.Below.heap_alloc w.drew _ _ hk
 have hrt:ROW.toList.take (i * 4)=cs.take (i * 4):=by
  have hl:(cs.take (i * 4)).length=i * 4:=by rw [List.length_take,hcl];omega
  rw [hROW,Array.toList_append,Array.toList_append,List.append_assoc]
  conv=>lhs;rw [← hl]
  simp
 obtain ⟨cur2,hcur2⟩:∃ cur2:Array Value,cur2=(ROW.toList.take (i * 4)++vs++ROW.toList.drop (i * 4+vs.length)).toArray:=⟨_,rfl⟩
 have hcur2s:cur2.size=G * 4:=by rw [hcur2];simp [hRs,hvl];omega
 have hcpA:∀ (W:World),W.heap=W1.heap→∀ ty dc,(Builtin.copy_ #[90,90] ty #[.slice (some ⟨w.heap.size,i * 4,none⟩) (n+m - i) dc,.slice (some ⟨vb,0,none⟩) m vc]).run Tryz.prog W=.ok (goInt m) (W.setRow w.heap.size cur2):=fun W hW ty dc=>by
  have hmin:Nat.min m (n+m - i)=m:=by simp only [Nat.min_def];split <;> omega
  have:=run_copy_row W 90 90 ty 94 ti w.heap.size (i * 4) (n+m - i) dc ⟨vb,0,none⟩ m vc vs ROW 94 Tryz.underlying90 hinfo
   (by rw [hvl,hsz,hmin]) (fun j v hj=>by
    rw [Addr.add_lit,Nat.zero_add,cell_of_row W vb j vcur ve (0,0) (by rw [hW,hold1 vb hvw];exact hv)]
    have:vcur.toList[j]?=some v:=by
     rw [← hvt,List.getElem?_take] at hj
     split at hj
     ·exact hj
     ·cases hj
    simpa using this) (by rw [hW];exact hN1) (by rw [hvl,hRs];omega) h1v
  rw [hmin] at this
  rw [hcur2];exact this
 have hdl:(cs.drop (i * 4)).length=(n - i) * 4:=by rw [List.length_drop,hcl];omega
 obtain ⟨cur3,hcur3⟩:∃ cur3:Array Value,cur3=(cur2.toList.take ((i+m) * 4)++cs.drop (i * 4)++cur2.toList.drop ((i+m) * 4+(cs.drop (i * 4)).length)).toArray:=⟨_,rfl⟩
 have hcur3s:cur3.size=G * 4:=by rw [hcur3];simp [hcur2s,hdl];omega
 have hcpB:∀ (W:World),W.heap=(W1.setRow w.heap.size cur2).heap→∀ ty dc sc,(Builtin.copy_ #[90,90] ty #[.slice (some ⟨w.heap.size,(i+m) * 4,none⟩) (n+m - (i+m)) dc,.slice (some ⟨b,i * 4,none⟩) (n - i) sc]).run Tryz.prog W=.ok (goInt ((n - i:Nat):Int)) (W.setRow w.heap.size cur3):=fun W hW ty dc sc=>by
  have hmin:Nat.min (n - i) (n+m - (i+m))=n - i:=by simp only [Nat.min_def];split <;> omega
  have:=run_copy_row W 90 90 ty 94 ti w.heap.size ((i+m) * 4) (n+m - (i+m)) dc ⟨b,i * 4,none⟩ (n - i) sc (cs.drop (i * 4)) cur2 94 Tryz.underlying90 hinfo
   (by rw [hdl,hsz,hmin]) (fun j v hj=>by
    rw [Addr.add_lit]
    exact hcell W (by rw [hW,setRow_other _ _ _ _ (by omega),hold1 b hbw]) _ v (by rwa [List.getElem?_drop] at hj))
   (by rw [hW];exact setRow_heap _ _ ROW _ _ _ hN1) (by rw [hdl,hcur2s];omega) (fun v hv=>h1c v (List.mem_of_mem_drop hv))
  rw [hmin] at this
  rw [hcur3];exact this
 have hfin:cur3.toList.take ((n+m) * 4)=cs.take (i * 4)++vs++cs.drop (i * 4):=by
  have hl0:(cs.take (i * 4)).length=i * 4:=by rw [List.length_take,hcl];omega
  have e1:cur2.toList.take ((i+m) * 4)=cs.take (i * 4)++vs:=by
   have hl:(cs.take (i * 4)++vs).length=(i+m) * 4:=by rw [List.length_append,hl0,hvl];omega
   rw [hcur2,hrt,List.toList_toArray,← hl]
   exact List.take_left
  have hl3:(cs.take (i * 4)++vs++cs.drop (i * 4)).length=(n+m) * 4:=by simp only [List.length_append,hl0,hvl,hdl];omega
  rw [hcur3,e1,List.toList_toArray,← hl3]
  exact List.take_left
 have hend:∀ (W W':World),W.heap=(W1.setRow w.heap.size cur2).heap→W'.heap=(W.setRow w.heap.size cur3).heap→W'.os=w.os→W'.tape=w.tape→W'.output=w.output→W'.heap[w.heap.size]?=some (.cells cur3 94 (0,0))∧w.grownBy W' none:=fun W W' hW hW' h1 h2 h3=>by
  have hWN:W.heap[w.heap.size]?=some (.cells cur2 94 (0,0)):=by rw [hW];exact setRow_heap _ _ ROW _ _ _ hN1
  refine ⟨by rw [hW'];exact setRow_heap _ _ cur2 _ _ _ hWN,⟨h1,h2,h3,?_,fun k hk _=>?_⟩⟩
  ·have h4:(W.setRow w.heap.size cur3).heap.size=W.heap.size:=by simp
   have h5:(W1.setRow w.heap.size cur2).heap.size=W1.heap.size:=by simp
   rw [hW',h4,hW,h5,hW1];simp
  ·rw [hW',setRow_other _ _ _ _ (by omega),hW,setRow_other _ _ _ _ (by omega),hold1 k hk]
 have hGi:¬ (G=i):=by omega
 have hGim:¬ (G=i+m):=by omega
 have hci:¬ (c=i):=by omega
 have hw1:IntKind.i64.wrap ((i:Int)+(m:Int))=(i:Int)+(m:Int):=by rw [IntKind.wrap_i64];omega
 have hb1:(0:Int)≤(i:Int)+(m:Int):=by omega
 have hin:i≤n:=by omega
 have htn:((i:Int)+(m:Int)).toNat=i+m:=by omega
 have hb3:(i:Int)≤(n:Int):=by omega
 subst hW1
 have hE1:((w.alloc (.cells ROW 94)).drew).heap=(w.drew.alloc (.cells ROW 94)).heap:=rfl
 have hF1:(((w.alloc (.cells ROW 94)).drew.setRow w.heap.size cur2).drew).heap=((w.drew.alloc (.cells ROW 94)).setRow w.heap.size cur2).heap:=rfl
 have hF2:=hend _ ((((w.alloc (.cells ROW 94)).drew.setRow w.heap.size cur2).drew).setRow w.heap.size cur3) hF1 rfl rfl rfl rfl
 clear hkk hik hold hROW hG hRs hcurl hcur2 hcur3 hrt hcell hcl hct hvt hvl h1c h1v hb hv hcs hvsz hdl hcur2s hN1 hold1 hend hmx
 go_enter Tryz.func96,Tryz.ntmps96
 go_wp2_with (first
  | (at_builtin;refine Lib.wpList_append_run _ rfl _ _ _ _ rfl _ _ rfl rfl _ _ (hrz _) ?_)
  | (at_builtin;refine wpList_copy_runI _ rfl _ _ 90 90 rfl _ _ rfl rfl (hcpA _ hE1 _ _) ?_)
  | (at_builtin;refine wpList_copy_runI _ rfl _ _ 90 90 rfl _ _ rfl rfl (hcpB _ rfl _ _ _) ?_))
 go_region_law_o (refine step_copy_runI rfl _ _ 90 90 rfl (.slice (some ⟨w.heap.size,(i+m) * 4,none⟩) (n+m - (i+m)) (G - (i+m))) (.slice (some ⟨b,i * 4,none⟩) (n - i) (c - i)) (by simp [Act.eval,Act.put]) (by simp [Act.eval,Act.put]) (hcpB _ hF1 3 (G - (i+m)) (c - i)) ?_)
 go_wp2
 go_ret
 exact ⟨G,cur3,rfl,hGn,hGm,hcur3s,hfin,hF2.1,hF2.2⟩
end Go.AM.YtmohhhbgcehnpaaGreat
end
