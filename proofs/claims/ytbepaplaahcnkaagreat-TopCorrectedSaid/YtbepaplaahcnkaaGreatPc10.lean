/- AmOps7. -/
import Derived.Test.YtbepaplaahcnkaaGreatPc09
import Derived.Lib.AppendStr

section
set_option linter.all false
namespace Go.AM
section
variable {P:Program} {C:Ctx} {g:Nat→Gh} {R:Nat→Prop} {st:St} {a:Act} {w:World} {tt:TT}
theorem run_append_str {t u ty e e':TypeId} {i:TypeInfo} {z:Value} (ht:P.underlying t=some (.slice e)) (hu:P.underlying u=some .string) (hi:P.info? e=some i) (hz:i.zero=some z) (hzs:z.cells.size=1) (hs1:i.size=1) (hb1:i.bytes=1)
 (v:Value) (n:Nat) (xs:List Value) (hown:ownsSeq w e' 1 v n xs) (s:ByteArray) (hby:n+s.size≤140737488355328) :
 ∃ v' w' e2,(Builtin.append_ #[t,u] ty #[v,.string s]).run P w=.ok v' w'∧ownsSeq w' e2 1 v' (n+s.size) (xs++Go.Lib.strCells s)∧w.grownBy w' (blkOf v)∧(∀ b,blkOf v'=some b→blkOf v=some b∨w.heap.size≤b)∧(e2=e'∨e2=e):=by
 have h63:n+s.size≤maxLen:=by unfold maxLen;omega
 have hxl:xs.length=n:=by simpa using hown.1
 have grow:∀ (b:Addr) (cap:Nat),v=.slice (some b) n cap→(∀ j u,xs[j]?=some u→w.cell? (b.add j)=some u)→cap < n+s.size →
  ∃ v' w' e2,(Builtin.append_ #[t,u] ty #[v,.string s]).run P w=.ok v' w'∧ownsSeq w' e2 1 v' (n+s.size) (xs++Go.Lib.strCells s)∧w.grownBy w' (blkOf v)∧(∀ b,blkOf v'=some b→blkOf v=some b∨w.heap.size≤b)∧(e2=e'∨e2=e):=by
  intro b cap hv hcells hcap
  have hr:=Go.Lib.run_append_grow_string (P:=P) (ty:=ty) w t u e i z ht hu hi hz b n cap xs (by rw [hs1,hxl,Nat.mul_one]) hcells s hcap (by unfold maxLen at h63;omega) (growslice_fits (by omega) (by rw [hb1,Nat.mul_one];exact hby))
  have hge:=grownCap_ge w (n+s.size) cap e
  have hcm:grownCap w (n+s.size) cap e≤maxLen:=grownCap_le_maxLen w (n+s.size) cap e h63
  rw [hv]
  refine ⟨_,_,e,hr,ownsSeq_of ⟨by rw [List.length_append,hxl,Go.Lib.strCells_length,Nat.mul_one],.inr ⟨w.heap.size,_,_,rfl,Nat.zero_le _,heap_alloc_new w.drew _,hge,hcm,?_,?_⟩⟩,⟨rfl,rfl,rfl,by simp,fun k hk _=>Go.RowKit.Below.heap_alloc w.drew _ k hk⟩,fun b hb=>.inr ?_,.inr rfl⟩
  ·simp only [Array.size_append,List.size_toArray,size_zeroCells,hxl,Go.Lib.strCells_length]
   rw [hzs]
   omega
  ·simp only [Array.toList_append,List.append_assoc]
   have:(n+s.size) * 1=(xs++Go.Lib.strCells s).length:=by rw [List.length_append,hxl,Go.Lib.strCells_length,Nat.mul_one]
   rw [this,← List.append_assoc]
   exact List.take_left
  ·have:=blkOf_own hb
   simp [Value.ownBlock] at this
   omega
 rcases hown.2 with ⟨a0,hv,hn⟩|⟨b,cap,cur,hv,h0,hh,hle,hcm,hcs,htk⟩
 ·subst hn
  have hx:xs=[]:=List.eq_nil_of_length_eq_zero hxl
  subst hx
  cases a0 with
  | none =>
    by_cases hs0:s.size=0
    ·have hsc:Go.Lib.strCells s=[]:=List.eq_nil_of_length_eq_zero (by rw [Go.Lib.strCells_length,hs0])
     refine ⟨v,w,e',?_,by rw [hs0,hsc];exact hown,⟨rfl,rfl,rfl,Nat.le_refl _,fun _ _ _=>rfl⟩,fun b hb=>.inl hb,.inl rfl⟩
     subst hv
     have hf:=Go.Lib.run_firstCells_string (P:=P) w 1 s
     rw [hs0,hsc] at hf
     simp [Builtin.append_,run_underlying ht,run_underlying hu,sizeOf,typeInfo,hi,hs1,Builtin.lenOf,hs0,hf]
    ·have hr:=run_append_nil_string (P:=P) (ty:=ty) w t u e i z ht hu hi hz s (by omega) (by unfold maxLen at h63;omega) (by rw [hb1];omega)
     have e1:(s.data.map fun b=>Value.int .u8 b.toNat)=(Go.Lib.strCells s).toArray:=by
      apply Array.ext'
      simp [Go.Lib.strCells]
     rw [e1] at hr
     have hge:=grownCap_ge w s.size 0 e
     have hcm:grownCap w s.size 0 e≤maxLen:=grownCap_le_maxLen w s.size 0 e (by omega)
     simp only [Nat.zero_add,List.nil_append]
     rw [hv]
     refine ⟨_,_,e,hr,ownsSeq_of ⟨by rw [Go.Lib.strCells_length,Nat.mul_one],.inr ⟨w.heap.size,_,_,rfl,Nat.zero_le _,heap_alloc_new w.drew _,hge,hcm,?_,?_⟩⟩,⟨rfl,rfl,rfl,by simp,fun k hk _=>Go.RowKit.Below.heap_alloc w.drew _ k hk⟩,fun b hb=>.inr ?_,.inr rfl⟩
     ·simp only [Array.size_append,List.size_toArray,size_zeroCells,Go.Lib.strCells_length]
      rw [hzs]
      omega
     ·simp only [Array.toList_append,List.append_assoc]
      have:s.size * 1=(Go.Lib.strCells s).length:=by rw [Go.Lib.strCells_length,Nat.mul_one]
      rw [this]
      exact List.take_left
     ·have:=blkOf_own hb
      simp [Value.ownBlock] at this
      omega
  | some ad =>
    by_cases hs0:s.size=0
    ·have hsc:Go.Lib.strCells s=[]:=List.eq_nil_of_length_eq_zero (by rw [Go.Lib.strCells_length,hs0])
     refine ⟨v,w,e',?_,by rw [hs0,hsc];exact hown,⟨rfl,rfl,rfl,Nat.le_refl _,fun _ _ _=>rfl⟩,fun b hb=>.inl hb,.inl rfl⟩
     subst hv
     have hf:=Go.Lib.run_firstCells_string (P:=P) w 1 s
     rw [hs0,hsc] at hf
     simp [Builtin.append_,run_underlying ht,run_underlying hu,sizeOf,typeInfo,hi,hs1,Builtin.lenOf,hs0,hf,storeCells]
    ·exact grow ad 0 hv (fun j u hj=>by simp at hj) (by omega)
 ·by_cases hroom:n+s.size≤cap
  ·have hf:=Go.Lib.run_firstCells_string (P:=P) w 1 s
   have hst:=run_storeCells_at P b n e' (Go.Lib.strCells s) 0 cur w hh (by rw [Go.Lib.strCells_length,hcs];omega) (Go.Lib.strCells_oneCell s)
   simp only [Nat.add_zero,Go.Lib.strCells_length] at hst
   have hr:(Builtin.append_ #[t,u] ty #[.slice (some ⟨b,0,none⟩) n cap,.string s]).run P w =
    .ok (.slice (some ⟨b,0,none⟩) (n+s.size) cap) (w.setRow b (cur.toList.take n++Go.Lib.strCells s++cur.toList.drop (n+s.size)).toArray):=by
    simp [Builtin.append_,run_underlying ht,run_underlying hu,sizeOf,typeInfo,hi,hs1,Builtin.lenOf,hroom,hf,Addr.add_lit,hst]
   rw [hv]
   refine ⟨_,_,e',hr,⟨by rw [List.length_append,hxl,Go.Lib.strCells_length,Nat.mul_one],.inr ⟨b,cap,_,rfl,h0,setRow_heap w b cur _ e' _ hh,hroom,hcm,?_,?_⟩⟩,⟨rfl,rfl,rfl,by simp,fun k _ hk=>setRow_other w b k _ (fun e=>hk (by rw [blkOf_pos h0,e]))⟩,fun c hc=>.inl (by rw [blkOf_pos h0] at hc ⊢;exact hc),.inl rfl⟩
   ·simp only [List.size_toArray,List.length_append,List.length_take,List.length_drop,Array.length_toList,Go.Lib.strCells_length]
    omega
   ·rw [Nat.mul_one] at htk
    rw [htk,Nat.mul_one,← hxl,← Go.Lib.strCells_length,← List.length_append]
    exact List.take_left
  ·exact grow ⟨b,0,none⟩ cap hv (own_cells hown hv) (by omega)
theorem wrap_u8 {x:Int} (h:0≤x∧x < 256):IntKind.u8.wrap x=x:=by
 have:IntKind.u8.wrap x=x % 256:=by simp [IntKind.wrap,IntKind.bits,IntKind.signed]
 rw [this];omega
theorem strCells_map (s:ByteArray):Go.Lib.strCells s=(strB s).map (Value.int .u8):=by
 simp [Go.Lib.strCells,strB]
theorem strB_len (s:ByteArray):(strB s).length=s.size:=by
 rw [strB,List.length_map,Array.length_toList];rfl
theorem lay_bytes {R:Nat→Prop} {w:World}:∀ {xs:List Int},(∀ x∈xs,IntKind.u8.wrap x=x)→lay (RelEl R w (.int .u8)) xs (xs.map (Value.int .u8))
 | [],_=>rfl
 | x::xs,h=>⟨[.int .u8 x],_,rfl,⟨rfl,h x (by simp)⟩,lay_bytes (fun y hy=>h y (by simp [hy]))⟩
theorem appendS_did (hT:TTok P tt) (hrel:Rel C g R st a w) {t tu ty':TypeId} {ti ui:TI} (hl:look tt.1 t=some ti) (hlu:look tt.1 tu=some ui) {d:Nat} {s:AV} {x:ByteArray} {u:Value} {li:List Nat} {res:Res} {rd:List Nat}
 (h:(evAppendS d ti ui s x).run (look st.rows) li=some (res,rd)) (hf:freshAll st.ks res.new=true) (hc:∀ p∈res.conds,p) (hs:RelV g (fun r=>mem st.ks r=true) R w s u) :
 Did P C st a w (Builtin.append_ #[t,tu] ty' #[u,.string x]) res:=by
 obtain ⟨i,z,hi,hsz,hz,hoz,ha,hd,_,_⟩:=hT.info hl
 obtain ⟨_,_,_,_,_,_,_,hdu,_,_⟩:=hT.info hlu
 unfold evAppendS at h
 split at h <;> try exact (fX h).elim
 rename_i ty esz bytes zs hfs hus
 rw [hus] at hdu
 have hstr:=td_str hdu
 split at h <;> try exact (fX h).elim
 rename_i h1 _ h2 h3 h4
 obtain ⟨rfl⟩:=h1
 rw [hfs] at hd
 obtain ⟨el0,hel0,hty0,hag0⟩:=td_slice_int hd
 obtain ⟨el,ei,ez,ec,hel,hei,_,rfl,rfl,hez,hoez,rfl⟩:=td_slice hd
 rw [hel0] at hel
 cases hel
 have hu8:=tyOf_int hty0 hag0
 have h2':ei.size=1:=beq_eq h2
 have h3':ei.bytes=1:=beq_eq h3
 have hzc:ez.cells.size=1:=by
  have hz0:=ofZero_rel (g:=g) (K:=fun r=>mem st.ks r=true) (R:=R) (w:=w) hoez
  have hzc:=RelL_len (cells_rel hz0 (ofZero_cell hoez))
  have h6:=beq_eq h4
  rw [lenL_spec] at h6
  rw [h6,h2'] at hzc
  simpa using hzc
 have bs:∀ y∈strB x,IntKind.u8.wrap y=y:=fun y hy=>by
  simp only [strB,List.mem_map] at hy
  obtain ⟨b,_,rfl⟩:=hy
  have:=b.toNat_lt
  exact wrap_u8 ⟨by omega,by omega⟩
 have fin:∀ (r:Option Nat) (xs:List Int) (u:Value),(∀ r0,r=some r0→look st.rows r0=some (.seq (.int .u8) xs)∧(g r0).v=u)→ElemR R w (.int .u8) xs u→(r=none→blkOf u=none)→xs.length+x.size≤140737488355328→freshAll st.ks [d]=true →
  Did P C st a w (Builtin.append_ #[t,tu] ty' #[u,.string x]) ⟨[],.own d,(d,.seq (.int .u8) (xs++strB x))::(match r with|some r=>[(r,.dead)]|none=>[]),[d]⟩:=by
  intro r xs u hr hE hn hby hf
  obtain ⟨e',vs,how,hlay,hbd⟩:=hE
  obtain ⟨rfl,hb⟩:=bytes_rel (e:=e') hlay
  obtain ⟨v',w',e2,hrun,hown',hgr,hat,_⟩:=run_append_str (P:=P) (w:=w) (ty:=ty') hel0 hstr hei hez hzc h2' h3' u xs.length _ how x hby
  have hfr:mem st.ks d=false∧d < 100000:=freshAll_spec hf d (by simp [mem])
  have hg:∀ r,mem st.ks r=true→updG g d ⟨0,v'⟩ r=g r:=fun r hr=>updG_other g _ (fun e=>by subst e;rw [hfr.1] at hr;cases hr)
  have hmem:∀ r,mem [d] r=true↔r=d:=fun r=>by rw [mem_cons];simp [mem,eq_comm]
  have hrow:(∀ ad:Addr,R ad.block→w'.cell? ad=w.cell? ad)→RowH (updG g d ⟨0,v'⟩) (fun r=>mem st.ks r=true∨mem [d] r=true) R w' d (.seq (.int .u8) (xs++strB x)):=fun hcell=>by
   refine ⟨e2,(xs++strB x).map (Value.int .u8),?_,lay_bytes (fun y hy=>?_),?_⟩
   ·rw [updG_same,List.length_append,strB_len,List.map_append,← strCells_map];exact hown'
   ·rcases List.mem_append.1 hy with hy|hy
    ·exact wrap_u8 (hb y hy)
    ·exact bs y hy
   ·rw [List.length_append,strB_len]
    show _ * 1≤_
    omega
  have hv:=RelV.own (g:=updG g d ⟨0,v'⟩) (K:=fun r=>mem (appK [d] st.ks) r=true) (R:=R) (w:=w') (r:=d) (by simp [appK,mem_cons]) (by rw [updG_same];exact own_one hown')
  rw [updG_same] at hv
  refine ⟨v',w',updG g d ⟨0,v'⟩,R,hrun,?_,hv⟩
  cases r with
  | none =>
    have hn:=hn rfl
    refine hrel.new1 hf hgr.os hgr.tape hgr.output hgr.size (fun b hb=>hgr.block b hb (by rw [hn];exact fun e=>by cases e)) ?_ (fun b hb=>?_)
    ·have e:(fun r=>mem (d::st.ks) r=true)=(fun r=>mem st.ks r=true∨mem [d] r=true):=by
      funext r
      refine propext ?_
      rw [mem_cons,hmem r]
      simp only [Bool.or_eq_true,decide_eq_true_eq]
      exact ⟨fun h=>h.elim (fun h=>.inr h.symm) .inl,fun h=>h.elim .inr (fun h=>.inl h.symm)⟩
     rw [e]
     exact hrow (fun ad had=>cell_of_heap (hgr.block _ (hrel.heap.rlt _ had) (by rw [hn];exact fun e=>by cases e)))
    ·simp only [Own,updG_same] at hb
     rcases hat b hb with h|h
     ·rw [hn] at h;cases h
     ·exact h
  | some r0 =>
    obtain ⟨ho,hgu⟩:=hr r0 rfl
    have hk:=hrel.heap.keys r0 _ ho
    have hown:∀ b,blkOf u=some b→Own g w r0 (.seq (.int .u8) xs) b:=fun b hb=>by show blkOf (g r0).v=some b;rw [hgu];exact hb
    refine hrel.two (fun e=>by subst e;rw [hfr.1] at hk;cases hk) hg (fun r hr=>by rw [(hmem r).1 hr];exact ⟨by rw [hfr.1];simp,hfr.2⟩) (.inr ((hmem d).2 rfl)) hk hgr.os hgr.tape hgr.output hgr.size (fun b hb=>?_) hrow (fun b hb=>?_)
    ·by_cases e:some b=blkOf u
     ·exact .inr ⟨r0,_,.inr rfl,ho,hown b e.symm⟩
     ·exact .inl (hgr.block b hb e)
    ·simp only [Own,updG_same] at hb
     rcases hat b hb with h|h
     ·exact ⟨(hrel.heap.own _ _ b ho (hown b h)).1,.inr ⟨r0,_,.inr rfl,ho,hown b h⟩⟩
     ·exact ⟨fun h'=>by have:=hrel.heap.rlt _ h';omega,.inl h⟩
 split at h <;> try exact (fX h).elim
 ·rw [ret_run h] at hf hc ⊢
  cases hs
  have hby:=hc _ (List.mem_singleton.2 rfl)
  exact (fin none [] (.slice none 0 0) (fun _ h=>by cases h) ⟨el0,[],ownsSeq_nil w el0 _ none,rfl,by simp⟩ (fun _=>rfl) (by simpa using hby) hf)
 ·rename_i r
  simp only [RQ.run] at h
  split at h <;> try (cases h;done)
  rename_i o ho
  split at h <;> try exact (fX h).elim
  rename_i u' xs
  split at h <;> try exact (fX h).elim
  rename_i hu8' _
  subst hu8'
  have h:RQ.run (look st.rows) (.ret (⟨[xs.length+x.size≤140737488355328],.own d,[(d,.seq (.int .u8) (xs++strB x)),(r,.dead)],[d]⟩:Res)) _=some (res,rd):=h
  rw [ret_run h] at hf hc ⊢
  have hby:=hc _ (List.mem_singleton.2 rfl)
  cases hs with
  | own hk1 h1 =>
  exact fin (some r) xs _ (fun r0 e=>by cases e;exact ⟨ho,rfl⟩) (hrel.heap.held r _ ho) (fun e=>by cases e) hby hf
theorem modify_same {es:Array MapEntry} {j:Nat} {e:MapEntry} {f:MapEntry→MapEntry} (he:es.toList[j]?=some e) (hf:f e=e):es.modify j f=es:=by
 apply Array.ext'
 rw [Array.toList_modify]
 refine List.ext_getElem? fun i=>?_
 rw [List.getElem?_modify]
 by_cases hij:j=i
 ·subst hij
  rw [he]
  simp [hf]
 ·simp [hij]
theorem modify_set {es:Array MapEntry} {j:Nat} {e:MapEntry} {f:MapEntry→MapEntry} (he:es.toList[j]?=some e):(es.modify j f).toList=es.toList.set j (f e):=by
 rw [Array.toList_modify]
 have hlt:j < es.toList.length:=(List.getElem?_eq_some_iff.1 he).1
 refine List.ext_getElem? fun i=>?_
 rw [List.getElem?_modify,List.getElem?_set]
 by_cases hij:j=i
 ·subst hij
  rw [he]
  simp only [if_true,hlt,Option.map_eq_map,Option.map_some]
 ·simp [hij]
theorem setVal_eq {α β:Type} (y:β):∀ {j:Nat} {l:List (α × β)} {p:α × β},l[j]?=some p→setVal y j l=l.set j (p.1,y)
 | _,[],_,h=>by simp at h
 | 0,_::_,_,h=>by simp at h;subst h;rfl
 | j+1,e::l,p,h=>by
   show e::setVal y j l=e::l.set j (p.1,y)
   rw [setVal_eq y (j:=j) (l:=l) (p:=p) (by simpa using h)]
theorem MapE_key_at {k v:Ty}:∀ {kvs:List (k.El × v.El)} {es:List MapEntry} {j:Nat} {e:MapEntry},MapE R w k v kvs es→es[j]?=some e→∃ p,kvs[j]?=some p∧(∃ us,RelEl R w k p.1 us∧e.key=valOf k us)∧∃ vs,RelEl R w v p.2 vs∧e.val=valOf v vs
 | p::_,_::_,0,_,⟨h1,h2,_⟩,he=>by simp at he;subst he;exact ⟨p,rfl,h1,h2⟩
 | _::_,_::_,j+1,_,⟨_,_,h⟩,he=>let ⟨p,h1,h2⟩:=MapE_key_at (j:=j) h (by simpa using he);⟨p,by simpa using h1,h2⟩
 | [],_::_,_,_,h,_=>h.elim
 | _,[],_,_,_,he=>by simp at he
theorem entryP_did (hT:TTok P tt) (hrel:Rel C g R st a w) {t:TypeId} {ti:TI} (hl:look tt.1 t=some ti) {d:Nat} {m x:AV} {u vx:Value} {li:List Nat} {res:Res} {rd:List Nat}
 (h:(evEntryP d ti m x).run (look st.rows) li=some (res,rd)) (hf:freshAll st.ks res.new=true) (hm:RelV g (fun r=>mem st.ks r=true) R w m u) (hx:RelV g (fun r=>mem st.ks r=true) R w x vx) :
 Did P C st a w (Instr.mapEntry t u vx) res:=by
 unfold evEntryP at h
 split at h <;> try exact (fX h).elim
 rename_i k v z r hd
 simp only [RQ.run] at h
 split at h <;> try (cases h;done)
 rename_i o ho
 split at h <;> try exact (fX h).elim
 rename_i k' v' kvs0
 split at h <;> try exact (fX h).elim
 rename_i hk' hv' kx y _ _ hkx hdz
 obtain ⟨kvs,e1,hrow⟩:=castM_eq hk' hv' kvs0 (fun kvs=>RQ.ret (⟨[],.tup [encV v ((mapFind k v kx kvs).getD y),.own d],[(d,.pend r k v (bif (mapFind k v kx kvs).isSome then kvs else kvs++[(kx,y)]) ((mmIdx k kx kvs).getD kvs.length)),(r,.dead)],[d]⟩:Res))
 rw [e1] at h
 rw [ret_run h] at hf ⊢
 obtain ⟨i,zz,hi,hsz,hz,hoz,ha,htd,_⟩:=hT.info hl
 rw [hd] at htd
 obtain ⟨kt,et,ei,zv,c,hu,huk,hty,hei,hez,hoc,rfl⟩:=td_map htd
 have KL:=keyLaw huk
 obtain ⟨ku,hku,rfl⟩:=keyInt_rel (g:=g) hkx hx
 have hR0:=hrow _ _ _ _ _ (hrel.heap.held r _ ho)
 obtain ⟨b,es,clock,hgr,hb,hM⟩:=hR0
 obtain ⟨l,hpm,hME⟩:=hM.rel
 have hfp:=find_perm KL.ints (x:=kx) hpm hM.dk
 cases hm with
 | own hkr h1 =>
 rw [hgr]
 have hown:Own g w r (.map k' v' kvs0) b:=hgr
 obtain ⟨fr,h2,hF⟩:=KL.fi w hku (MapE_key hME)
 have hck:=KL.ck (R:=R) (w0:=w) false w hku
 have hsb:=KL.sb hku
 have hfr:mem st.ks d=false∧d < 100000:=freshAll_spec hf d (by simp [mem])
 have hmem:∀ r,mem [d] r=true↔r=d:=fun r=>by rw [mem_cons];simp [mem,eq_comm]
 have hrd:r≠d:=fun e=>by
  have h2:mem st.ks r=true:=hkr
  rw [e,hfr.1] at h2;cases h2
 have fin:∀ (w':World) (es':Array MapEntry) (clock':Nat) (e:MapEntry) (kvs' l':List (k.El × v.El)) (j j':Nat) (p:k.El × v.El) (val:Value) (av:AV),
  w'={ w with heap:=w.heap.setIfInBounds b (.map es' clock') }→((∀ ad:Addr,R ad.block→w'.cell? ad=w.cell? ad)→(MapH R w' k v kvs' es'.toList clock'∧MapE R w' k v l' es'.toList)∧RelV (updG g d ⟨b,.int .i64 e.born⟩) (fun r=>mem (appK [d] st.ks) r=true) R w' av val)→l'.Perm kvs'→es'[j']?=some e→l'[j']?=some p→kvs'[j]?=some p →
  (Instr.mapEntry t (.map (some b)) (valOf k ku)).run P w=.ok (.tuple #[val,.int .i64 e.born]) w' →
  Did P C st a w (Instr.mapEntry t (.map (some b)) (valOf k ku)) ⟨[],.tup [av,.own d],[(d,.pend r k v kvs' j),(r,.dead)],[d]⟩:=by
  intro w' es' clock' e kvs' l' j j' p val av hw' hM' hpl he hlp hkp hrun
  have hg:∀ r,mem st.ks r=true→updG g d ⟨b,.int .i64 e.born⟩ r=g r:=fun r hr=>updG_other g _ (fun e=>by subst e;rw [hfr.1] at hr;cases hr)
  have hbn:w'.heap[b]?=some (.map es' clock'):=by rw [hw'];simp [Array.getElem?_setIfInBounds,(Array.getElem?_eq_some_iff.1 hb).1]
  have hoth:∀ c,c≠b→w'.heap[c]?=w.heap[c]?:=fun c hc=>by rw [hw'];simp [Array.getElem?_setIfInBounds,Ne.symm hc]
  have hcell:∀ ad:Addr,R ad.block→w'.cell? ad=w.cell? ad:=fun ad had=>cell_of_heap (hoth _ (fun e=>(hrel.heap.own r _ b ho hown).1 (e ▸ had)))
  refine ⟨_,w',updG g d ⟨b,.int .i64 e.born⟩,R,hrun,?_,?_⟩
  ·refine hrel.two (Ne.symm hrd) hg (fun r hr=>by rw [(hmem r).1 hr];exact ⟨by rw [hfr.1];simp,hfr.2⟩) (.inr ((hmem d).2 rfl)) hkr (by rw [hw']) (by rw [hw']) (by rw [hw']) (by rw [hw'];simp) (fun c hc=>?_) (fun _=>?_) (fun c hc=>?_)
   ·by_cases e:c=b
    ·exact .inr ⟨r,_,.inr rfl,ho,by rw [e];exact hown⟩
    ·exact .inl (hoth c e)
   ·refine ⟨⟨.inl hkr,by rw [updG_other g _ hrd,updG_same];exact hgr⟩,es',clock',e,j',l',p,by rw [updG_same];exact hbn,(hM' hcell).1.1,⟨hpl,(hM' hcell).1.2,he,hlp,hkp⟩,by rw [updG_same]⟩
   ·simp only [Own,updG_same] at hc
    subst hc
    exact ⟨(hrel.heap.own r _ _ ho hown).1,.inr ⟨r,_,.inr rfl,ho,hown⟩⟩
  ·have:=RelV.own (g:=updG g d ⟨b,.int .i64 e.born⟩) (K:=fun r=>mem (appK [d] st.ks) r=true) (R:=R) (w:=w') (r:=d) (by simp [appK,mem_cons]) (by rw [updG_same];simp [Value.oneCell'])
   rw [updG_same] at this
   exact .tup (.cons (hM' hcell).2 (.cons this .nil))
 rcases hF with ⟨rfl,h3⟩|⟨j,e,rfl,h3,h6,h8⟩
 ·have hz0:=ofZero_rel (g:=g) (K:=fun r=>mem st.ks r=true) (R:=R) (w:=w) hoc
  obtain ⟨us,h9,h10⟩:=decV_rel hdz hz0
  rcases mmIdx_map (v:=v) (x:=kx) (kvs:=l) with ⟨_,h4⟩|⟨j,p,h5,_⟩
  rotate_left
  ·rw [h3] at h5;cases h5
  rw [hfp] at h4
  have h3k:mmIdx k kx kvs=none:=by
   rcases mmIdx_map (v:=v) (x:=kx) (kvs:=kvs) with ⟨h5,_⟩|⟨j,p,_,_,h5,_⟩
   ·exact h5
   ·rw [h4] at h5;cases h5
  rw [h3k,h4]
  have hlen:=MapE_len hME
  refine fin _ (es.push { key:=valOf k ku,val:=zv,born:=clock }) (clock+1) { key:=valOf k ku,val:=zv,born:=clock } _ (l++[(kx,y)]) _ l.length (kx,y) zv (encV v y) rfl (fun hcell=>?_) (hpm.append_right _) ?_ (by simp) (by simp) ?_
  ·have hME':MapE R { w with heap:=w.heap.setIfInBounds b (.map (es.push { key:=valOf k ku,val:=zv,born:=clock }) (clock+1)) } k v (l++[(kx,y)]) (es.push { key:=valOf k ku,val:=zv,born:=clock }).toList:=by
    rw [Array.toList_push]
    exact MapE_app (us:=ku) (keys_move KL.ints hku) rfl (RelEl_mono (fun _ h=>h) hcell h9) h10 (MapE_mono (fun _ h=>h) hcell hME)
   refine ⟨⟨⟨⟨_,hpm.append_right _,hME'⟩,fun e he=>?_,?_,?_,KL.ints⟩,hME'⟩,?_⟩
   ·rw [Array.toList_push] at he
    rcases List.mem_append.1 he with he|he
    ·have:=hM.lt e he;omega
    ·rw [List.mem_singleton.1 he];exact Nat.lt_succ_self _
   ·rw [Array.toList_push,List.map_append,List.nodup_append]
    refine ⟨hM.nd,by simp,fun x hx y hy=>?_⟩
    obtain ⟨e,he,rfl⟩:=List.mem_map.1 hx
    simp at hy
    subst hy
    have:=hM.lt e he
    omega
   ·exact KeysDiffer.perm KL.ints (List.perm_append_singleton _ _) (List.pairwise_cons.2 ⟨fun e he=>find_none h4 e he,hM.dk⟩)
   ·have q:=encV_rel (g:=updG g d ⟨b,.int .i64 clock⟩) (K:=fun r=>mem (appK [d] st.ks) r=true) (RelEl_mono (fun _ h=>h) hcell h9)
    rw [← h10] at q
    exact q
  ·rw [← hlen,Array.length_toList]
   simp
  ·simp [Instr.mapEntry,run_underlying hu,run_getMap hb,hck,h2,run_setMap _ hb,run_zero w hei hez,goInt]
 ·have h3':es[j]?=some e:=by simpa using h3
  rcases mmIdx_map (v:=v) (x:=kx) (kvs:=l) with ⟨h5,_⟩|⟨j',p,h5,h11,h12,h13⟩
  ·rw [h8] at h5;cases h5
  rw [h8] at h5
  cases h5
  rw [hfp] at h12
  obtain ⟨j2,p2,k1,k2,k3,k4⟩:∃ j2 p2,mmIdx k kx kvs=some j2∧kvs[j2]?=some p2∧mapFind k v kx kvs=some p2.2∧keyEq k kx p2.1=true:=by
   rcases mmIdx_map (v:=v) (x:=kx) (kvs:=kvs) with ⟨_,h5⟩|h5
   ·rw [h12] at h5;cases h5
   ·exact h5
  have hpe:p2=p:=by
   refine Prod.ext (((keyEq_iff KL.ints).1 k4).symm.trans ((keyEq_iff KL.ints).1 h13)) ?_
   rw [h12] at k3
   exact (Option.some.inj k3).symm
  subst hpe
  rw [k1,h12]
  obtain ⟨p',h14,_,vs,h15,h16⟩:=MapE_key_at hME h3
  rw [h11] at h14
  cases h14
  refine fin _ es clock e _ l j2 j p2 e.val (encV v p2.2) rfl (fun hcell=>⟨⟨MapH_mono (fun _ h=>h) hcell hM,MapE_mono (fun _ h=>h) hcell hME⟩,?_⟩) hpm h3' h11 k2 ?_
  ·rw [h16]
   exact encV_rel (RelEl_mono (fun _ h=>h) hcell h15)
  ·have hmo:(es.modify j fun e=>{ e with key:=valOf k ku })=es:=modify_same h3 (by rw [← h6])
   simp only [Nat.zero_add] at h2
   simp [Instr.mapEntry,run_underlying hu,run_getMap hb,hck,h2,run_setMap _ hb,h3',Instr.keyThatStays,h6,hsb,goInt,hmo]
theorem entryS_did (hrel:Rel C g R st a w) {t:TypeId} {m s y:AV} {u vs vy:Value} {li:List Nat} {res:Res} {rd:List Nat}
 (h:(evEntryS m s y).run (look st.rows) li=some (res,rd)) (hm:RelV g (fun r=>mem st.ks r=true) R w m u) (hs:RelV g (fun r=>mem st.ks r=true) R w s vs) (hy:RelV g (fun r=>mem st.ks r=true) R w y vy) :
 res.av=.junk∧∃ w',(Instr.entryStore t u vs vy).run P w=.ok () w'∧Rel C g R ⟨st.n,st.slots,st.gt,appK res.new st.ks,addRows res.upd st.rows⟩ a w':=by
 unfold evEntryS at h
 split at h <;> try exact (fX h).elim
 rename_i r d
 split at h <;> try exact (fX h).elim
 rename_i hrd
 simp only [RQ.run] at h
 split at h <;> try (cases h;done)
 rename_i o ho
 split at h <;> try exact (fX h).elim
 rename_i r' k v kvs j
 split at h <;> try exact (fX h).elim
 rename_i z hr hz
 have hr:=beq_eq hr
 subst hr
 rw [ret_run h]
 have hrd':r≠d:=fun e=>by subst e;simp at hrd
 obtain ⟨us,hv1,rfl⟩:=decV_rel hz hy
 obtain ⟨⟨hkr,hgr⟩,es,clock,e,j',l,p,hb,hM,⟨hpm,hME,he,hlp,hp⟩,hgd⟩:=hrel.heap.held d _ ho
 cases hm with
 | own _ _ =>
 cases hs with
 | own _ _ =>
 rw [hgr,hgd]
 have hown:Own g w d (.pend r k v kvs j) (g d).b:=rfl
 have he':es.toList[j']?=some e:=by simpa using he
 obtain ⟨p1,hp1,⟨ku,hku,hke⟩,_⟩:=MapE_key_at hME he'
 rw [hlp] at hp1
 cases hp1
 have hfi:es.findIdx? (fun x=>(x.born:Int) == (e.born:Int))=some j':=by
  have hj:j' < es.size:=(Array.getElem?_eq_some_iff.1 he).1
  rw [Array.findIdx?_eq_some_iff_getElem]
  refine ⟨hj,?_,fun i hi=>?_⟩
  ·have:es[j']=e:=(Array.getElem?_eq_some_iff.1 he).2
   simp [this]
  ·have hnd:=List.pairwise_iff_getElem.1 hM.nd i j' (by simp;omega) (by simpa using hj) hi
   simp only [List.getElem_map,Array.getElem_toList] at hnd
   have he2:es[j']=e:=(Array.getElem?_eq_some_iff.1 he).2
   rw [he2] at hnd
   simp
   omega
 obtain ⟨w',hw'⟩:∃ w',w'={ w with heap:=w.heap.setIfInBounds (g d).b (.map (es.modify j' fun e=>{ e with val:=valOf v us }) clock) }:=⟨_,rfl⟩
 have hbn:w'.heap[(g d).b]?=some (.map (es.modify j' fun e=>{ e with val:=valOf v us }) clock):=by rw [hw'];simp [Array.getElem?_setIfInBounds,(Array.getElem?_eq_some_iff.1 hb).1]
 have hoth:∀ c,c≠(g d).b→w'.heap[c]?=w.heap[c]?:=fun c hc=>by rw [hw'];simp [Array.getElem?_setIfInBounds,Ne.symm hc]
 refine ⟨rfl,w',?_,?_⟩
 ·rw [hw']
  simp [Instr.entryStore,run_getMap hb,run_setMap _ hb,asInt,asIntOf,hfi]
 refine hrel.two (new:=[]) hrd' (fun _ _=>rfl) (fun r h=>by simp [mem] at h) (.inl hkr) (hrel.heap.keys d _ ho) (by rw [hw']) (by rw [hw']) (by rw [hw']) (by rw [hw'];simp) (fun c hc=>?_) (fun hcell=>?_) (fun c hc=>?_)
 ·by_cases e:c=(g d).b
  ·exact .inr ⟨d,_,.inr rfl,ho,by rw [e];exact hown⟩
  ·exact .inl (hoth c e)
 ·refine ⟨(g d).b,_,clock,hgr,hbn,?_⟩
  rw [modify_set he',setVal_eq z hp]
  have hkk:keyEq k p.1 p.1=true:=(keyEq_iff hM.ki).2 rfl
  have hdl:=KeysDiffer.perm hM.ki hpm hM.dk
  refine ⟨⟨l.set j' (p.1,z),?_,MapE_set (e:={ e with val:=valOf v us }) (us:=ku) (RelEl_mono (fun _ h=>h) hcell hku) hke (RelEl_mono (fun _ h=>h) hcell hv1) rfl (MapE_mono (fun _ h=>h) hcell hME)⟩,fun x hx=>?_,?_,?_,hM.ki⟩
  ·rw [← mapPut_set hM.ki hdl hlp hkk,← mapPut_set hM.ki hM.dk hp hkk,mapPut_eq hM.ki hdl,mapPut_eq hM.ki hM.dk]
   exact hpm.map _
  ·rcases List.mem_or_eq_of_mem_set hx with hx|rfl
   ·exact hM.lt x hx
   ·exact hM.lt e (List.mem_of_getElem? he')
  ·rw [List.map_set]
   have:(es.toList.map (·.born)).set j' e.born=es.toList.map (·.born):=by
    refine List.ext_getElem? fun i=>?_
    rw [List.getElem?_set]
    split
    ·rename_i hij
     subst hij
     have hlt:=(List.getElem?_eq_some_iff.1 he').1
     rw [if_pos (by simpa using hlt),List.getElem?_map,he']
     rfl
    ·rfl
   rw [this]
   exact hM.nd
  ·rw [← mapPut_set hM.ki hM.dk hp hkk]
   have:=mapSet_dk (y:=z) hM.ki (x:=p.1) hM.dk
   unfold mapSet at this
   rw [find_of hM.ki hM.dk (List.mem_of_getElem? hp) hkk] at this
   exact this
 ·have hc:(g r).v=.map (some c):=hc
  rw [hgr] at hc
  cases hc
  exact ⟨(hrel.heap.own d _ _ ho hown).1,.inr ⟨d,_,.inr rfl,ho,hown⟩⟩
theorem upd_quiet {S:Nat→Option Spec} {ti:TI} {m x:AV} {cs:List AV} {row row':Nat→Option AObj} {l:List Nat} {res:Res} {rd:List Nat} (hrow:∀ r a b kvs,row r=some (.map a b kvs)→row' r=row r) (h:(evUpd S ti m x (.agg cs)).run row l=some (res,rd)) :
 (evUpd S ti m x (.agg cs)).run row' l=some (res,rd):=by
 cases m with
 | own r =>
   cases hd:ti.d with
   | map k v z =>
     simp only [evUpd,hd,RQ.run] at h ⊢
     split at h <;> try (cases h;done)
     rename_i o ho
     split at h <;> try exact (fX h).elim
     rename_i k' v' kvs
     have e:=hrow _ _ _ _ ho
     rw [e,ho]
     dsimp only
     split at h <;> try exact (fX h).elim
     rename_i h1 h2 kx vx e1 e2 e3 e4
     subst h1 h2
     exact h
   | mmap k a b =>
     simp only [evUpd,hd,evUpdM] at h
     exact (fX h).elim
   | _ =>
     simp only [evUpd,hd] at h
     exact (fX h).elim
 | _ =>
   unfold evUpd at h
   split at h
   ·contradiction
   ·contradiction
   ·exact (fX h).elim
theorem updX_did {S:Nat→Option Spec} (hT:TTok P tt) (hS:∀ f s,S f=some s→SpecSound P f s∧∀ args w,(callFunc f args).run P w=.ok (.enter f args) w) (hrel:Rel C g R st a w) {t:TypeId} {ti:TI} (hl:look tt.1 t=some ti) {m x y:AV} {u vx vy:Value} {li:List Nat} {res:Res} {rd:List Nat}
 (h:(evUpdX S ti m x y).run (look st.rows) li=some (res,rd)) (hc:∀ p∈res.conds,p) (hm:RelV g (fun r=>mem st.ks r=true) R w m u) (hx:RelV g (fun r=>mem st.ks r=true) R w x vx) (hy:RelV g (fun r=>mem st.ks r=true) R w y vy) :
 res.av=.junk∧∃ w' R',(Instr.mapUpdate t u vx vy).run P w=.ok () w'∧Rel C g R' ⟨st.n,st.slots,st.gt,appK res.new st.ks,addRows res.upd st.rows⟩ a w':=by
 unfold evUpdX at h
 split at h
 rotate_left
 ·obtain ⟨h1,w',h2,h3⟩:=upd_did hT hS hrel hl h hc hm hx hy
  exact ⟨h1,w',R,h2,h3⟩
 rename_i cs
 rw [run_bind] at h
 split at h <;> try (cases h;done)
 rename_i fr l0 hfr
 obtain ⟨ds,ms⟩:=fr
 obtain ⟨q1,_,q3,q4⟩:=frzLQ_spec hfr
 dsimp only at h
 rw [run_bind] at h
 split at h <;> try (cases h;done)
 rename_i r1 rd1 hr1
 rw [ret_run h] at hc ⊢
 have hseq:∀ m∈ms,IsSeq (look st.rows) m:=fun m hm=>by
  rcases q3 m hm with h|h
  ·cases h
  ·exact h
 obtain ⟨R',hR'⟩:∃ R':Nat→Prop,R'=fun b=>R b∨∃ m∈ms,blkOf (g m).v=some b:=⟨_,rfl⟩
 have hR:∀ b,R b→R' b:=fun b h=>by rw [hR'];exact .inl h
 have gen:=(hrel.heap.gen (g':=g) (R':=R') (w':=w) (ms.map fun m=>(m,.dead)) [] (fun r'=>r'∈ms) (fun r hr=>by simp [mem] at hr) (fun r' o h=>.inl (by obtain ⟨u,xs,ho⟩:=hseq _ (look_frz h).1;exact hrel.heap.keys _ _ ho)) (fun r' h=>look_frz_mem h)
  rfl rfl rfl (Nat.le_refl _) (fun _ _=>.inl rfl) (fun _ _=>rfl) hR
  (fun b hb'=>by
   rw [hR'] at hb'
   rcases hb' with h|⟨m,hm,h⟩
   ·exact hrel.heap.rlt b h
   ·obtain ⟨u,xs,ho⟩:=hseq m hm
    exact Own_lt (hrel.heap.held m _ ho) h)
  (fun b hb'=>by
   rw [hR'] at hb'
   rcases hb' with h|⟨m,hm,h⟩
   ·exact .inl h
   ·obtain ⟨u,xs,ho⟩:=hseq m hm
    exact .inr (.inr ⟨m,_,hm,ho,h⟩))
  (fun r' o h=>by rw [(look_frz h).2];trivial) (fun r' o b h hb=>by rw [(look_frz h).2] at hb;simp [Own] at hb) (fun r1 r2 o1 o2 b h1 h2 h3 _=>by rw [(look_frz h1).2] at h3;simp [Own] at h3)).1.lists (ks:=st.ks) (rows:=st.rows)
 have gen:HeapR C g R' (fun r=>mem st.ks r=true) (look (addRows (ms.map fun m=>(m,.dead)) st.rows)) w:=gen
 have hrel':Rel C g R' ⟨st.n,st.slots,st.gt,st.ks,addRows (ms.map fun m=>(m,.dead)) st.rows⟩ a w:=⟨hrel.size,hrel.defers,fun i e hi=>by
  obtain ⟨h2,h3⟩:=hrel.slots i e hi
  exact ⟨fun hp=>by obtain ⟨v,h4,h5⟩:=h2 hp;exact ⟨v,h4,RelV_weaken (fun _ h=>h) hR h5⟩,h3⟩,hrel.gts,gen⟩
 have hr2:=upd_quiet (row':=look (addRows (ms.map fun m=>(m,.dead)) st.rows)) (fun r a b kvs hr=>by
  rw [look_addRows]
  split
  ·rename_i o ho
   obtain ⟨u,xs,ho'⟩:=hseq _ (look_frz ho).1
   rw [hr] at ho'
   cases ho'
  ·rfl) hr1
 have hy':RelV g (fun r=>mem st.ks r=true) R' w (.agg ds) vy:=by
  rw [q1]
  cases hy with
  | agg hy =>
  exact .agg (fzpL_rel hR (fun m u xs hm hrow=>⟨hrel.heap.held m _ hrow,fun b hb=>by rw [hR'];exact .inr ⟨m,q4 m hm,hb⟩⟩) hy)
 obtain ⟨k1,w',k2,k3⟩:=upd_did hT hS hrel' hl hr2 hc (RelV_weaken (fun _ h=>h) hR hm) (RelV_weaken (fun _ h=>h) hR hx) hy'
 refine ⟨k1,w',R',k2,?_⟩
 show Rel C g R' ⟨st.n,st.slots,st.gt,appK r1.new st.ks,addRows (appU r1.upd ms) st.rows⟩ a w'
 rw [appU_eq]
 have e:addRows (r1.upd++ms.map fun m=>(m,.dead)) st.rows=addRows r1.upd (addRows (ms.map fun m=>(m,.dead)) st.rows):=by
  induction r1.upd with
  | nil=>rfl
  | cons y l ih=>simp only [List.cons_append,addRows,ih]
 exact e ▸ k3
end
end Go.AM
end
