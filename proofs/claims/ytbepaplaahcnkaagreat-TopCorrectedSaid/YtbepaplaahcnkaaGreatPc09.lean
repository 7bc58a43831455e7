/- AmOps6. -/
import Derived.Test.YtbepaplaahcnkaaGreatPc08
import Derived.Laws.MakeOwn
import Derived.Lib.AppendZerosOnto
import Derived.Maps.RangeRun

section
set_option linter.all false
namespace Go.AM
section
variable {P:Program} {C:Ctx} {g:Nat→Gh} {R:Nat→Prop} {st:St} {a:Act} {w:World} {tt:TT}
theorem toList_made {ls:List Value} (z:Array Value) (hz:z.toList=ls) (hp:0 < ls.length) (n:Nat):(madeCells z (n * ls.length)).toList=(List.replicate n ls).flatten:=by
 have h:=toList_rep z n (.inl (by rw [← hz] at hp;simpa using hp))
 rw [hz] at h
 rw [← h]
 have hs:z.size=ls.length:=by rw [← hz];simp
 unfold madeCells
 rw [hs]
theorem withC_spec {p:Prop} {q:RQ Res} {row:Nat→Option AObj} {li:List Nat} {res:Res} {rd:List Nat} (h:(withC p q).run row li=some (res,rd)) (hc:∀ x∈res.conds,x) :
 p∧(∀ x∈res.conds,x)∧∃ cs,q.run row li=some (⟨cs,res.av,res.upd,res.new⟩,rd)∧∀ x∈cs,x:=by
 unfold withC at h
 rw [run_bind] at h
 split at h <;> try (cases h;done)
 rename_i r l' hr
 obtain ⟨cs,av,upd,new⟩:=r
 simp only [RQ.run] at h
 cases h
 exact ⟨hc _ (by simp),hc,cs,hr,fun x hx=>hc _ (List.mem_cons_of_mem _ hx)⟩
theorem makeS_did (hT:TTok P tt) (hrel:Rel C g R st a w) {t:TypeId} {ti:TI} (hl:look tt.1 t=some ti) {d:Nat} {n:Int} {kl kc:IntKind} {row:Nat→Option AObj} {li:List Nat} {res:Res} {rd:List Nat}
 (h:(evMakeS d ti n).run row li=some (res,rd)) (hf:freshAll st.ks res.new=true) (hc:∀ p∈res.conds,p) :
 Did P C st a w (Instr.makeSlice t (.int kl n) (.int kc n)) res:=by
 obtain ⟨i,z,hi,hsz,hz,hoz,ha,hd,_,_⟩:=hT.info hl
 unfold evMakeS at h
 split at h <;> try exact (fX h).elim
 rename_i ty esz bytes zs hfs
 rw [hfs] at hd
 obtain ⟨el,ei,ez,ec,hel,hei,_,rfl,rfl,hez,hoez,rfl⟩:=td_slice hd
 split at h <;> try exact (fX h).elim
 rename_i y h1 h2 h3 h4 h5 hdec
 rw [ret_run h] at hf hc ⊢
 have h0:0≤n:=hc _ (by simp)
 have hby:n.toNat * ei.bytes≤140737488355328:=hc _ (by simp)
 have h1':ei.size=ty.size:=beq_eq h1
 have h2':ty.bytes≤ei.bytes:=by simpa using h2
 have h3':1≤ei.size:=by simpa using h3
 have h4':1≤ei.bytes:=by simpa using h4
 have hz0:=ofZero_rel (g:=g) (K:=fun r=>mem st.ks r=true) (R:=R) (w:=w) hoez
 have hzr:=cells_rel hz0 (ofZero_cell hoez)
 obtain ⟨us,ws,ezs,hyr,hws⟩:=dec_rel hdec hzr
 cases hws
 rw [List.append_nil] at ezs
 have hzl:us.length=ty.size:=RelEl_len hyr
 have hn:n.toNat≤140737488355328:=Nat.le_trans (Nat.le_mul_of_pos_right _ h4') hby
 have hrun:=run_make (P:=P) w t el ei ez hel hei hez kl kc n n h0 (Int.le_refl _) (by
  have:((n.toNat * ei.bytes:Nat):Int)≤140737488355328:=by omega
  rw [Int.natCast_mul,Int.mul_comm] at this
  rw [show ((n.toNat:Nat):Int)=n by omega] at this
  omega) (by omega)
 have hlen:(List.replicate n.toNat y).length=n.toNat:=by simp
 have hcells:(madeCells ez.cells (n.toNat * ei.size)).toList=(List.replicate n.toNat us).flatten:=by
  rw [h1',← hzl]
  exact toList_made ez.cells ezs (by omega) n.toNat
 have hlay:=lay_rep hyr n.toNat
 have hone:∀ v∈(List.replicate n.toNat us).flatten,v.oneCell'=true:=by
  intro v hv
  obtain ⟨q,hq,hvq⟩:=List.mem_flatten.1 hv
  rw [(List.mem_replicate.1 hq).2] at hvq
  exact RelEl_one hyr v hvq
 have hfl:(List.replicate n.toNat us).flatten.length=n.toNat * ty.size:=by rw [flatten_len,hzl]
 have hkeep:∀ ad:Addr,R ad.block→(w.alloc (.cells (madeCells ez.cells (n.toNat * ei.size)) el)).cell? ad=w.cell? ad:=fun ad had=>cell_of_heap (Go.RowKit.Below.heap_alloc w _ _ (hrel.heap.rlt _ had))
 refine ⟨_,_,updG g d ⟨0,.slice (some ⟨w.heap.size,0,none⟩) n.toNat n.toNat⟩,R,hrun,hrel.new1 hf rfl rfl rfl (by simp) (fun b hb=>Go.RowKit.Below.heap_alloc w _ b hb) ?_ (fun b hb=>?_),?_⟩
 ·show ElemR _ _ _ _ _
  rw [updG_same]
  refine ⟨el,(List.replicate n.toNat us).flatten,⟨by rw [hlen];exact hfl,?_⟩,lay_mono (fun _ _ h=>RelEl_mono (fun _ h=>h) hkeep h) hlay,by rw [hlen];exact Nat.le_trans (Nat.mul_le_mul_left _ h2') hby⟩
  rw [hlen]
  rcases Nat.eq_zero_or_pos n.toNat with hz'|hz'
  ·exact .inl ⟨some ⟨w.heap.size,0,none⟩,by rw [hz'],hz'⟩
  ·refine .inr ⟨w.heap.size,n.toNat,_,rfl,hz',heap_alloc_new w _,Nat.le_refl _,by unfold maxLen;omega,by rw [size_madeCells,h1'],?_⟩
   rw [hcells,List.take_of_length_le (by rw [hfl];exact Nat.le_refl _)]
 ·simp only [Own,updG_same] at hb
  have:=blkOf_own hb
  simp [Value.ownBlock] at this
  omega
 ·have:=RelV.own (g:=updG g d ⟨0,.slice (some ⟨w.heap.size,0,none⟩) n.toNat n.toNat⟩) (K:=fun r=>mem (appK [d] st.ks) r=true) (R:=R) (w:=w.alloc (.cells (madeCells ez.cells (n.toNat * ei.size)) el)) (r:=d) (by simp [appK,mem_cons]) (by rw [updG_same];rfl)
  rw [updG_same] at this
  exact this
theorem appendZ_did (hT:TTok P tt) (hrel:Rel C g R st a w) {t tu ty':TypeId} {ti ui:TI} (hl:look tt.1 t=some ti) (hlu:look tt.1 tu=some ui) {d:Nat} {s:AV} {n:Int} {u:Value} {row:Nat→Option AObj} {li:List Nat} {res:Res} {rd:List Nat}
 (h:(evAppendZ d ti ui s n).run row li=some (res,rd)) (hf:freshAll st.ks res.new=true) (hc:∀ p∈res.conds,p) (hs:RelV g (fun r=>mem st.ks r=true) R w s u) :
 Did P C st a w (Builtin.append_ #[t,tu] ty' #[u,.int .i64 n]) res:=by
 unfold evAppendZ at h
 split at h <;> try exact (fX h).elim
 rename_i hud
 cases hs
 obtain ⟨hpos,_,cs,h,hcs⟩:=withC_spec h hc
 obtain ⟨_,_,_,_,_,_,_,hdu,_,_⟩:=hT.info hlu
 rw [hud] at hdu
 have htn:=td_int hdu
 obtain ⟨i,z,hi,hsz,hz,hoz,ha,hd,_,_⟩:=hT.info hl
 obtain ⟨conds,av,upd,new⟩:=res
 simp only at h hf
 unfold evMakeS at h
 split at h <;> try exact (fX h).elim
 rename_i ty esz bytes zs hfs
 rw [hfs] at hd
 obtain ⟨el,ei,ez,ec,hel,hei,_,rfl,rfl,hez,hoez,rfl⟩:=td_slice hd
 split at h <;> try exact (fX h).elim
 rename_i y h1 h2 h3 h4 h5 hdec
 have e:=ret_run h
 injection e with e1 e2 e3 e4
 subst e1 e2 e3 e4
 have hby:n.toNat * ei.bytes≤140737488355328:=hcs _ (by simp)
 have h1':ei.size=ty.size:=beq_eq h1
 have h2':ty.bytes≤ei.bytes:=by simpa using h2
 have h3':1≤ei.size:=by simpa using h3
 have h4':1≤ei.bytes:=by simpa using h4
 have hz0:=ofZero_rel (g:=g) (K:=fun r=>mem st.ks r=true) (R:=R) (w:=w) hoez
 have hzr:=cells_rel hz0 (ofZero_cell hoez)
 obtain ⟨us,ws,ezs,hyr,hws⟩:=dec_rel hdec hzr
 cases hws
 rw [List.append_nil] at ezs
 have hzl:us.length=ty.size:=RelEl_len hyr
 obtain ⟨k,rfl⟩:∃ k:Nat,n=k:=⟨n.toNat,by omega⟩
 rw [Int.toNat_natCast] at *
 have hk0:0 < k:=by omega
 have hn:k≤140737488355328:=Nat.le_trans (Nat.le_mul_of_pos_right _ h4') hby
 have hrun:=Go.Lib.run_append_grow_zeros (P:=P) w t tu ty' el ei ez .i64 .i64 hel htn hei hez none 0 0 [] (by simp [Builtin.firstCells]) k hk0 (by omega) (by omega) (by omega) (by omega) (by
  rw [Nat.zero_add,nextslicecap_zero hk0];omega)
 rw [Nat.zero_add] at hrun
 obtain ⟨cap,hcap⟩:∃ cap,cap=grownCap w k 0 el:=⟨_,rfl⟩
 have hcge:k≤cap:=by rw [hcap];exact grownCap_ge w _ _ el
 have hcle:cap≤maxLen:=by rw [hcap];exact grownCap_le_maxLen w _ _ el (by unfold maxLen;omega)
 rw [← hcap] at hrun
 obtain ⟨cur,hcur⟩:∃ cur,cur=([]:List Value).toArray++Builtin.zeroCells ez.cells k++Builtin.zeroCells ez.cells (cap - k):=⟨_,rfl⟩
 rw [← hcur] at hrun
 have hezl:ez.cells.size=us.length:=by rw [← ezs];simp
 have hcs2:cur.size=cap * ei.size:=by
  rw [hcur,Array.size_append,Array.size_append,size_zeroCells,size_zeroCells,hezl,hzl,← h1']
  simp only [List.size_toArray,List.length_nil,Nat.zero_add]
  rw [← Nat.add_mul]
  congr 1
  omega
 have hlen:(List.replicate k y).length=k:=by simp
 have hfl:(List.replicate k us).flatten.length=k * ty.size:=by rw [flatten_len,hzl]
 have hcells:cur.toList.take (k * ty.size)=(List.replicate k us).flatten:=by
  have h6:(Builtin.zeroCells ez.cells k).toList=(List.replicate k us).flatten:=by
   have:=toList_made ez.cells ezs (by omega) k
   rw [← hezl] at this
   exact this
  rw [hcur,Array.toList_append,Array.toList_append,h6]
  rw [show ([]:List Value).toArray.toList=[] from rfl,List.nil_append]
  rw [← hfl]
  exact List.take_left
 have hlay:=lay_rep hyr k
 have hkeep:∀ ad:Addr,R ad.block→(w.drew.alloc (.cells cur el)).cell? ad=w.cell? ad:=fun ad had=>cell_of_heap (Go.RowKit.Below.heap_alloc w.drew _ _ (hrel.heap.rlt _ had))
 refine ⟨_,_,updG g d ⟨0,.slice (some ⟨w.heap.size,0,none⟩) k cap⟩,R,hrun,hrel.new1 hf rfl rfl rfl (by simp) (fun b hb=>Go.RowKit.Below.heap_alloc w.drew _ b hb) ?_ (fun b hb=>?_),?_⟩
 ·show ElemR _ _ _ _ _
  rw [updG_same]
  refine ⟨el,(List.replicate k us).flatten,⟨by rw [hlen];exact hfl,?_⟩,lay_mono (fun _ _ h=>RelEl_mono (fun _ h=>h) hkeep h) hlay,by rw [hlen];exact Nat.le_trans (Nat.mul_le_mul_left _ h2') hby⟩
  rw [hlen]
  refine .inr ⟨w.heap.size,cap,_,rfl,by omega,heap_alloc_new w.drew _,hcge,hcle,by rw [hcs2,h1'],?_⟩
  rw [hcells]
 ·simp only [Own,updG_same] at hb
  have:=blkOf_own hb
  simp [Value.ownBlock] at this
  omega
 ·have:=RelV.own (g:=updG g d ⟨0,.slice (some ⟨w.heap.size,0,none⟩) k cap⟩) (K:=fun r=>mem (appK [d] st.ks) r=true) (R:=R) (w:=w.drew.alloc (.cells cur el)) (r:=d) (by simp [appK,mem_cons]) (by rw [updG_same];rfl)
  rw [updG_same] at this
  exact this
theorem head_did (hT:TTok P tt) (hrel:Rel C g R st a w) {t:TypeId} {ti:TI} (hl:look tt.1 t=some ti) {r:Nat} {n:Int} {k:IntKind} {u:Value} {li:List Nat} {res:Res} {rd:List Nat}
 (h:(evHead ti r n).run (look st.rows) li=some (res,rd)) (hc:∀ p∈res.conds,p) (hx:RelV g (fun r=>mem st.ks r=true) R w (.own r) u) :
 Did P C st a w (Instr.sliceAt t u none (some (.int k n)) none) res:=by
 obtain ⟨i,z,hi,hsz,hz,hoz,ha,hd,_,_⟩:=hT.info hl
 unfold evHead at h
 split at h <;> try exact (fX h).elim
 rename_i ty esz bytes zs hfs
 rw [hfs] at hd
 obtain ⟨el,ei,_,_,hel,hei,_,hesz,_⟩:=td_slice hd
 simp only [RQ.run] at h
 split at h <;> try (cases h;done)
 rename_i o ho
 split at h <;> try exact (fX h).elim
 rename_i uty xs
 split at h <;> try exact (fX h).elim
 rename_i hes
 rw [ret_run h] at hc ⊢
 have h0:0≤n:=hc _ (by simp)
 have h1:n≤xs.length:=hc _ (by simp)
 have h2:0 < xs.length:=hc _ (by simp)
 cases hx with
 | own hk _ =>
   obtain ⟨e,vs,hown,hlay,_⟩:=hrel.heap.held _ _ ho
   rcases hown.2 with ⟨_,_,hn0⟩|⟨b,cap,cur,hv,hc0,_,hnc,hcm,_⟩
   ·omega
   ·have hb:=sliceBound_run (P:=P) (w:=w) (y:=cap) (k:=k) (c:=.sliceAcap) (n:=n) h0 (by omega)
    refine Pure.did hrel ⟨rfl,rfl,.slice (some ⟨b,0,none⟩) n.toNat cap,?_,.head hk hv (by omega)⟩
    rw [hv]
    have hne:¬ cap=0:=by omega
    simp [Instr.sliceAt,Instr.slice,run_underlying hel,Instr.sliceBounds,hb,run_size w hei,hne,Addr.add_lit,hesz]
theorem lay_sub {α:Type} {p:α→List Value→Prop} {n:Nat} (hp:∀ x vs,p x vs→vs.length=n) {xs:List α} {vs:List Value} (h:lay p xs vs) (k:Nat):lay p (xs.drop k) (vs.drop (k * n)):=by
 induction k generalizing xs vs with
 | zero=>simpa using h
 | succ k ih =>
   cases xs with
   | nil=>cases h;simp [lay]
   | cons x xs =>
     obtain ⟨a,b,rfl,h1,h2⟩:=h
     have:=ih h2
     rw [List.drop_succ_cons,Nat.succ_mul,Nat.add_comm,← List.drop_drop,List.drop_left' (hp _ _ h1)]
     exact this
theorem copy_core (hrel:Rel C g R st a w) {t ty':TypeId} {elem:TypeId} {ei:TypeInfo} (hel:P.underlying t=some (.slice elem)) (hei:P.info? elem=some ei) (hsz:ei.size=1) {r:Nat} {ty:Ty} {xs:List ty.El} (ht1:ty.size=1)
 (ho:look st.rows r=some (.seq ty xs)) {b cap:Nat} (hv:(g r).v=.slice (some ⟨b,0,none⟩) xs.length cap) (hlen:0 < xs.length) {l:Nat} {zs:List ty.El} {cs:List Value} (hz:lay (RelEl R w ty) zs cs) (hfit:l+zs.length≤xs.length)
 {sa:Addr} {sLen sCap dCap:Nat} (hsrc:∀ j v,cs[j]?=some v→w.cell? (sa.add j)=some v) (hn:cs.length=Nat.min sLen (xs.length - l)) :
 Did P C st a w (Builtin.copy_ #[t,t] ty' #[.slice (some ⟨b,l,none⟩) (xs.length - l) dCap,.slice (some sa) sLen sCap]) ⟨[],.int .i64 zs.length,[(r,.seq ty (xs.take l++zs++xs.drop (l+zs.length)))],[]⟩:=by
 obtain ⟨e,vs,hown,hlay,hby⟩:=hrel.heap.held _ _ ho
 rcases hown.2 with ⟨a',hv',hn0⟩|⟨b',cap',cur,hv',hb0,hh,hle,hmx,hcur,htake⟩
 ·omega
 rw [hv] at hv'
 injection hv' with hv1 hv2 hv3
 injection hv1 with hv1
 injection hv1 with hv1
 subst hv1 hv3
 have hvl:vs.length=xs.length:=by have:=hown.1;rw [ht1,Nat.mul_one] at this;exact this
 have hcs:cs.length=zs.length:=by have:=lay_length (n:=1) (fun _ _ h=>by rw [RelEl_len h,ht1]) hz;rw [Nat.mul_one] at this;exact this
 have hcz:cur.size=cap:=by rw [hcur,ht1,Nat.mul_one]
 have hone:∀ v∈cs,v.oneCell'=true:=lay_all (fun _ _ h=>RelEl_one h) hz
 have hb1:Own g w r (.seq ty xs) b:=by simp only [Own];rw [hv,blkOf_pos hb0]
 have hst:=run_copy_row (P:=P) w t t ty' elem b l (xs.length - l) dCap sa sLen sCap cur e cs hel (by rw [hei];simp [hsz]) hh hn hsrc (by rw [hcz,hcs];omega) hone
 rw [ht1,Nat.mul_one] at htake
 have hct:cur.toList.take l=vs.take l:=by rw [← htake,List.take_take,Nat.min_eq_left (by omega)]
 have hnew:cur.toList.take l++cs++cur.toList.drop (l+cs.length)=(vs.take l++cs++vs.drop (l+cs.length))++cur.toList.drop xs.length:=by
  rw [hct]
  simp only [List.append_assoc]
  congr 2
  rw [← htake,List.drop_take]
  have:(cur.toList.drop (l+cs.length)).take (xs.length - (l+cs.length))++cur.toList.drop xs.length=cur.toList.drop (l+cs.length):=by
   have h1:=List.take_append_drop (xs.length - (l+cs.length)) (cur.toList.drop (l+cs.length))
   rw [List.drop_drop,show l+cs.length+(xs.length - (l+cs.length))=xs.length by omega] at h1
   exact h1
  rw [this]
 rw [hnew] at hst
 obtain ⟨W,hW⟩:∃ W,W=w.setRow b ((vs.take l++cs++vs.drop (l+cs.length))++cur.toList.drop xs.length).toArray:=⟨_,rfl⟩
 rw [← hW] at hst
 have hkeep:∀ ad:Addr,R ad.block→W.cell? ad=w.cell? ad:=fun ad had=>by rw [hW];exact cell_of_heap (setRow_other w _ _ _ (fun e=>(hrel.heap.own r _ b ho hb1).1 (e ▸ had)))
 have hxn:(xs.take l++zs++xs.drop (l+zs.length)).length=xs.length:=by simp;omega
 have hvn:(vs.take l++cs++vs.drop (l+cs.length)).length=xs.length:=by simp;omega
 have hl2:lay (RelEl R w ty) (xs.take l++zs++xs.drop (l+zs.length)) (vs.take l++cs++vs.drop (l+cs.length)):=by
  refine lay_append (lay_append ?_ hz) ?_
  ·have:=lay_take (size:=1) (fun _ _ h=>by rw [RelEl_len h,ht1]) hlay (m:=l)
   rwa [Nat.mul_one] at this
  ·have:=lay_sub (n:=1) (fun _ _ h=>by rw [RelEl_len h,ht1]) hlay (l+zs.length)
   rw [Nat.mul_one] at this
   rw [hcs]
   exact this
 refine ⟨goInt cs.length,W,g,R,hst,?_,?_⟩
 ·rw [hW]
  rw [hW] at hkeep
  refine hrel.set1 ho hb1 (fun _ h=>h) hh ?_
  refine ⟨e,vs.take l++cs++vs.drop (l+cs.length),⟨by rw [hxn,hvn,ht1,Nat.mul_one],.inr ⟨b,cap,_,by rw [hv,hxn],hb0,setRow_heap' w _ _ _ e hh,by rw [hxn];exact hle,hmx,?_,?_⟩⟩,?_,by rw [hxn];exact hby⟩
  ·rw [ht1,Nat.mul_one];simp;omega
  ·rw [hxn,ht1,Nat.mul_one,List.toList_toArray,List.take_append_of_le_length (by rw [hvn];exact Nat.le_refl _),List.take_of_length_le (by rw [hvn];exact Nat.le_refl _)]
  ·exact lay_mono (fun _ _ h=>RelEl_mono (fun _ h=>h) hkeep h) hl2
 ·rw [hcs]
  refine .int ?_
  have:(zs.length:Int)≤9223372036854775807:=by
   have h1:xs.length≤cap:=hle
   have h2:=hmx
   unfold maxLen at h2
   omega
  simp [IntKind.wrap,IntKind.signed,IntKind.bits]
  omega
theorem copy_did (hT:TTok P tt) (hrel:Rel C g R st a w) {t ty':TypeId} {ti:TI} (hl:look tt.1 t=some ti) {x y:AV} {u v:Value} {li:List Nat} {res:Res} {rd:List Nat}
 (h:(evCopy ti x y).run (look st.rows) li=some (res,rd)) (hc:∀ p∈res.conds,p) (hx:RelV g (fun r=>mem st.ks r=true) R w x u) (hy:RelV g (fun r=>mem st.ks r=true) R w y v) :
 Did P C st a w (Builtin.copy_ #[t,t] ty' #[u,v]) res:=by
 obtain ⟨i,z,hi,hsz,hz,hoz,ha,hd,_,_⟩:=hT.info hl
 unfold evCopy at h
 split at h <;> try exact (fX h).elim
 rename_i ety esz bytes zs0 hfs
 rw [hfs] at hd
 obtain ⟨el,ei,ez,ec,hel,hei,_,hesz,_⟩:=td_slice hd
 split at h <;> try exact (fX h).elim
 rename_i he1
 have hsz1:ei.size=1:=by have:=beq_eq he1;omega
 split at h <;> try exact (fX h).elim
 ·-- from a list
  rename_i r uty ys
  simp only [RQ.run] at h
  split at h <;> try (cases h;done)
  rename_i o ho
  split at h <;> try exact (fX h).elim
  rename_i ty xs
  split at h <;> try exact (fX h).elim
  rename_i hsame _ ht1
  rw [castK_eq] at h
  subst hsame
  rw [ret_run h] at hc ⊢
  have h1:0 < xs.length:=hc _ (by simp)
  have h2:0 < (Ty.castL rfl ys).length:=hc _ (by simp)
  have h3:(Ty.castL rfl ys).length≤xs.length:=hc _ (by simp)
  change 0 < ys.length at h2
  change ys.length≤xs.length at h3
  cases hx with
  | own hk _ =>
  cases hy with
  | sl hrd =>
  obtain ⟨sa,cap',rfl,_,_,_,hs⟩:=hrd
  obtain ⟨ad,vs,rfl,hsp,hRb,hlay,hcell⟩:=hs h2
  obtain ⟨e,vs',hown,_,_⟩:=hrel.heap.held _ _ ho
  rcases hown.2 with ⟨_,_,hn0⟩|⟨b,cap,cur,hv,_,_,_,_,_⟩
  ·omega
  have hvl:vs.length=ys.length:=by have:=lay_length (n:=1) (fun _ _ h=>by rw [RelEl_len h,beq_eq ht1]) hlay;rw [Nat.mul_one] at this;exact this
  obtain ⟨v',w',g',R',k1,k2,k3⟩:=copy_core (ty':=ty') (dCap:=cap) (sCap:=cap') hrel hel hei hsz1 (beq_eq ht1) ho hv h1 (l:=0) hlay (by omega) (sLen:=ys.length) hcell (by rw [hvl];exact (Nat.min_eq_left (by omega)).symm)
  refine ⟨v',w',g',R',?_,?_,k3⟩
  ·rw [hv]
   simpa using k1
  ·simp only [List.take_zero,List.nil_append,Nat.zero_add] at k2
   exact k2
 ·-- within a row
  rename_i r sz l r' sz' hh
  split at h <;> try exact (fX h).elim
  rename_i hrr hs1
  obtain rfl:=beq_eq hrr
  obtain rfl:=beq_eq hs1
  simp only [RQ.run] at h
  split at h <;> try (cases h;done)
  rename_i o ho
  split at h <;> try exact (fX h).elim
  rename_i ty xs
  split at h <;> try exact (fX h).elim
  rename_i ht1
  rw [ret_run h] at hc ⊢
  have h1:l < xs.length:=hc _ (by simp)
  have h2:hh≤xs.length:=hc _ (by simp)
  cases hx with
  | part hk hg1 hlt =>
  rename_i b n cap
  cases hy with
  | head hk2 hg2 hle2 =>
  rename_i b2 n2 cap2
  rw [hg1] at hg2
  injection hg2 with e1 e2 e3
  injection e1 with e1
  injection e1 with e1
  subst e1 e2 e3
  obtain ⟨e,vs,hown,hlay,_⟩:=hrel.heap.held _ _ ho
  rcases hown.2 with ⟨_,_,hn0⟩|⟨b',cap',cur,hv,_⟩
  ·omega
  have hv':=hv
  rw [hg1] at hv'
  injection hv' with f1 f2 f3
  injection f1 with f1
  injection f1 with f1
  subst f1 f2 f3
  have hvl:vs.length=xs.length:=by have:=hown.1;rw [beq_eq ht1,Nat.mul_one] at this;exact this
  have hcells:=own_cells hown hv
  obtain ⟨m,hm⟩:∃ m,m=min hh (xs.length - l):=⟨_,rfl⟩
  have hlz:lay (RelEl R w ty) (xs.take m) (vs.take m):=by
   have:=lay_take (size:=1) (fun _ _ h=>by rw [RelEl_len h,beq_eq ht1]) hlay (m:=m)
   rwa [Nat.mul_one] at this
  have hml:(xs.take m).length=m:=by rw [List.length_take];omega
  have hmv:(vs.take m).length=m:=by rw [List.length_take];omega
  obtain ⟨v',w',g',R',k1,k2,k3⟩:=copy_core (ty':=ty') (dCap:=cap - l) (sCap:=cap) (sLen:=hh) hrel hel hei hsz1 (beq_eq ht1) ho hv (by omega) (l:=l) hlz (by rw [hml];omega) (sa:=⟨b,0,none⟩) (fun j u hu=>by
   refine hcells j u ?_
   rw [List.getElem?_take] at hu
   split at hu
   ·exact hu
   ·cases hu) (by rw [hmv,hm])
  rw [hml] at k2 k3
  rw [hm] at k2 k3
  refine ⟨v',w',g',R',?_,k2,k3⟩
  rw [Nat.mul_one]
  exact k1
end
section
variable {P:Program} {C:Ctx} {g:Nat→Gh} {R:Nat→Prop} {st:St} {a:Act} {w:World} {tt:TT}
theorem rangeM_did (hT:TTok P tt) (hrel:Rel C g R st a w) {t:TypeId} {ti:TI} (hl:look tt.1 t=some ti) {d:Nat} {x:AV} {u:Value} {li:List Nat} {res:Res} {rd:List Nat}
 (h:(evRangeM d ti x).run (look st.rows) li=some (res,rd)) (hf:freshAll st.ks res.new=true) (hc:∀ p∈res.conds,p) (hx:RelV g (fun r=>mem st.ks r=true) R w x u):Did P C st a w (Instr.range t u) res:=by
 unfold evRangeM at h
 split at h <;> try exact (fX h).elim
 rotate_left
 ·rename_i k0 v0 z0 b hd
  rw [ret_run h] at hf hc ⊢
  have hb:=hc _ (List.mem_singleton.2 rfl)
  subst hb
  obtain ⟨_,_,_,_,_,_,_,htd,_⟩:=hT.info hl
  rw [hd] at htd
  obtain ⟨kt,et,_,_,_,hu,_⟩:=td_map htd
  cases hx with
  | ext hx =>
  obtain ⟨o,rfl,ho⟩:=hx
  cases o with
  | some _=>cases ho
  | none =>
  refine ⟨.pointer (some ⟨w.heap.size,0,none⟩),w.alloc (.mapIter none 0 #[] 0),updG g d ⟨0,.pointer (some ⟨w.heap.size,0,none⟩)⟩,R,by simp [Instr.range,run_underlying hu],?_,?_⟩
  ·refine hrel.new1 hf rfl rfl rfl (by simp) (fun b hb=>Go.RowKit.Below.heap_alloc w _ b hb) ⟨w.heap.size,0,#[],0,by rw [updG_same],heap_alloc_new w _⟩ (fun b hb=>?_)
   simp only [Own,updG_same] at hb
   cases hb
   exact Nat.le_refl _
  ·have:=RelV.own (g:=updG g d ⟨0,.pointer (some ⟨w.heap.size,0,none⟩)⟩) (K:=fun r=>mem (appK [d] st.ks) r=true) (R:=R) (w:=w.alloc (.mapIter none 0 #[] 0)) (r:=d) (by simp [appK,mem_cons]) (by rw [updG_same];simp [Value.oneCell'])
   rw [updG_same] at this
   exact this
 rename_i k0 v0 z0 r hd
 simp only [RQ.run] at h
 split at h <;> try (cases h;done)
 rename_i o ho
 split at h <;> try exact (fX h).elim
 rename_i k v kvs
 rw [ret_run h] at hf ⊢
 obtain ⟨_,_,_,_,_,_,_,htd,_⟩:=hT.info hl
 rw [hd] at htd
 obtain ⟨kt,et,_,_,_,hu,_⟩:=td_map htd
 obtain ⟨bm,es,clock,hgr,hb,hM⟩:=hrel.heap.held r _ ho
 cases hx with
 | own hk h1 =>
 rw [hgr]
 have hown:Own g w r (.map k v kvs) bm:=hgr
 have hbm:bm < w.heap.size:=(Array.getElem?_eq_some_iff.1 hb).1
 have hrun:=run_range_map (P:=P) w t kt et bm es clock hu hb
 obtain ⟨w',hw'⟩:∃ w',w'=w.alloc (.mapIter (some bm) clock #[] clock):=⟨_,rfl⟩
 have hold:∀ b,b < w.heap.size→w'.heap[b]?=w.heap[b]?:=fun b hb=>by rw [hw'];exact Go.RowKit.Below.heap_alloc w _ b hb
 have hnew:w'.heap[w.heap.size]?=some (.mapIter (some bm) clock #[] clock):=by rw [hw'];exact heap_alloc_new w _
 have hsz:w'.heap.size=w.heap.size+1:=by rw [hw'];simp
 have hos:w'.os=w.os∧w'.tape=w.tape∧w'.output=w.output:=by rw [hw'];exact ⟨rfl,rfl,rfl⟩
 rw [← hw'] at hrun
 have hfr:mem st.ks d=false∧d < 100000:=freshAll_spec hf d (by simp [mem])
 obtain ⟨v',hv'⟩:∃ v':Value,v'=.pointer (some ⟨w.heap.size,0,none⟩):=⟨_,rfl⟩
 rw [← hv'] at hrun
 have hrd:r≠d:=fun e=>by
  have h2:mem st.ks r=true:=hk
  rw [e,hfr.1] at h2;cases h2
 have hg:∀ r,mem st.ks r=true→updG g d ⟨bm,v'⟩ r=g r:=fun r hr=>updG_other g _ (fun e=>by subst e;rw [hfr.1] at hr;cases hr)
 have hmem:∀ r,mem [d] r=true↔r=d:=fun r=>by rw [mem_cons];simp [mem,eq_comm]
 have hlk:∀ r' o',look [(d,AObj.mit r k v kvs none none),(r,.dead)] r'=some o'→(r'=d∧o'=.mit r k v kvs none none)∨(r'=r∧o'=.dead):=fun r' o' h=>by
  rw [look_cons] at h
  by_cases e:d=r'
  ·simp [e] at h;exact .inl ⟨e.symm,h.symm⟩
  ·simp [e] at h
   rw [look_cons] at h
   by_cases e2:r=r'
   ·simp [e2] at h;exact .inr ⟨e2.symm,h.symm⟩
   ·simp [e2,look] at h
 have hb1:∀ b,R b→w'.heap[b]?=w.heap[b]?:=fun b hb=>hold b (hrel.heap.rlt b hb)
 have hcell:∀ ad:Addr,R ad.block→w'.cell? ad=w.cell? ad:=fun ad h=>cell_of_heap (hb1 _ h)
 refine ⟨v',w',updG g d ⟨bm,v'⟩,R,hrun,hrel.gen hg (fun r hr=>by rw [mem_appK,hr];simp) (fun _ h=>h) ?_,?_⟩
 ·have := hrel.heap.gen (g':=updG g d ⟨bm,v'⟩) (R':=R) (w':=w') [(d,.mit r k v kvs none none),(r,.dead)] [d] (fun r'=>r'=r) (fun r hr=>by rw [(hmem r).1 hr];exact ⟨by rw [hfr.1];simp,hfr.2⟩)
   (fun r' o' h=>by rcases hlk r' o' h with ⟨h6,_⟩|⟨h6,_⟩;exact .inr ((hmem r').2 h6);exact .inl (by rw [h6];exact hk))
   (fun r' h=>by subst h;exact ⟨.dead,by rw [look_cons];simp [Ne.symm hrd,look]⟩)
   hos.1 hos.2.1 hos.2.2 (by omega)
   (fun b hb=>.inl (hold b hb))
   hg (fun _ h=>h) (fun b hb=>Nat.lt_of_lt_of_le (hrel.heap.rlt b hb) (by omega)) (fun _ h=>.inl h)
   (fun r' o' h=>by
    rcases hlk r' o' h with ⟨rfl,rfl⟩|⟨_,rfl⟩
    ·refine ⟨⟨.inl hk,?_⟩,w.heap.size,⟨es,clock,clock,#[],clock⟩,?_,rfl,?_⟩
     ·rw [updG_other g _ hrd,updG_same];exact hgr
     ·rw [updG_same];exact hv'
     ·rw [updG_same]
      exact ⟨hnew,by rw [hold bm hbm];exact hb,MapH_mono (fun _ h=>h) hcell hM,hM.lt,Nat.le_refl _,Nat.le_refl _,fun y hy=>by cases hy⟩
    ·trivial)
   (fun r' o' b h hb'=>by
    rcases hlk r' o' h with ⟨rfl,rfl⟩|⟨_,rfl⟩
    ·simp only [Own,updG_same] at hb'
     rcases hb' with hb'|rfl
     ·rw [hv'] at hb'
      cases hb'
      exact ⟨fun h=>by have:=hrel.heap.rlt _ h;omega,.inl (Nat.le_refl _)⟩
     ·exact ⟨(hrel.heap.own r _ b ho hown).1,.inr ⟨r,_,rfl,ho,hown⟩⟩
    ·simp [Own] at hb')
   (fun r1 r2 o1 o2 b h6 h7 h8 h9=>by
    rcases hlk r1 o1 h6 with ⟨e1,_⟩|⟨_,e1⟩
    ·rcases hlk r2 o2 h7 with ⟨e2,_⟩|⟨_,e2⟩
     ·rw [e1,e2]
     ·rw [e2] at h9;simp [Own] at h9
    ·rw [e1] at h8;simp [Own] at h8)
  exact ⟨this.1.lists,this.2⟩
 ·have:=RelV.own (g:=updG g d ⟨bm,v'⟩) (K:=fun r=>mem (appK [d] st.ks) r=true) (R:=R) (w:=w') (r:=d) (by simp [appK,mem_cons]) (by rw [updG_same,hv'];rfl)
  rw [updG_same] at this
  exact this
theorem entryM_sound {K:Nat→Prop} {row:Nat→Option AObj} (hrow:∀ r o,row r=some o→RowH g K R w r o) {x:AV} {u:Value} {li:List Nat} {res:Res} {rd:List Nat}
 (h:(evEntryM x).run row li=some (res,rd)) (hx:RelV g K R w x u):Pure P g K R w (Instr.entry u) res:=by
 unfold evEntryM at h
 split at h <;> try exact (fX h).elim
 rename_i r
 simp only [RQ.run] at h
 split at h <;> try (cases h;done)
 rename_i o ho
 split at h <;> try exact (fX h).elim
 rename_i m k v kvs y G
 rw [b2_run h]
 obtain ⟨_,b,D,h1,_,h2⟩:=hrow r _ ho
 cases hx with
 | own hk _ =>
 rw [h1]
 obtain ⟨hc,e,he,hse,⟨us,h3,h4⟩,vs,h5,h6⟩:=h2.cu y rfl
 obtain ⟨seen',hs'⟩:∃ s:Array Nat,D.seen=s.push e.born:=by
  have hpos:D.seen.size≠0:=fun h0=>by
   rw [Array.eq_empty_of_size_eq_zero h0] at hse;simp at hse
  obtain ⟨bs,q,hq⟩:=Array.eq_push_of_size_ne_zero hpos
  rw [hq] at hse ⊢
  rw [Array.back?_push] at hse
  cases hse
  exact ⟨bs,rfl⟩
 have hit:=h2.it
 rw [hs',hc] at hit
 refine ⟨rfl,rfl,_,run_entry_at w b (g r).b D.since seen' D.es D.clock e hit h2.mp he h2.rel.nd,?_⟩
 rw [h4,h6]
 exact .tup (vs:=[valOf k us,valOf v vs]) (.cons (encV_rel h3) (.cons (encV_rel h5) .nil))
end
section
variable {P:Program} {C:Ctx} {g:Nat→Gh} {R:Nat→Prop} {st:St} {a:Act} {w:World} {tt:TT}
theorem appU_eq (ms:List Nat):∀ l:List (Nat × AObj),appU l ms=l++ms.map fun m=>(m,.dead)
 | []=>rfl
 | x::r=>by rw [appU,appU_eq ms r];rfl
def frz1 (row:Nat→Option AObj) (v:AV):AV:=match v with
 | .own m=>match row m with
   | some (.seq u xs)=>.sl u xs
   | _=>.own m
 | v=>v
def frzG (row:Nat→Option AObj) (v:AV):AV:=match v with
 | .agg cs=>.agg (cs.map (frz1 row))
 | v=>frz1 row v
def IsSeq (row:Nat→Option AObj) (m:Nat):Prop:=∃ u xs,row m=some (.seq u xs)
def OwnIn (m:Nat) (v:AV):Prop:=v=.own m∨∃ cs,v=.agg cs∧AV.own m∈cs
theorem frz1Q_spec {row:Nat→Option AObj} {v v':AV} {ms ms' li rd:List Nat} (h:(frz1Q v ms).run row li=some ((v',ms'),rd)) :
 v'=frz1 row v∧(∀ m∈ms,m∈ms')∧(∀ m∈ms',m∈ms∨IsSeq row m)∧∀ m,v=.own m→m∈ms':=by
 unfold frz1Q at h
 split at h
 ·rename_i m
  simp only [RQ.run] at h
  split at h <;> try (cases h;done)
  rename_i o ho
  split at h <;> try exact (fX h).elim
  rename_i u xs
  have:=ret_run h
  injection this with e1 e2
  subst e1 e2
  refine ⟨by simp [frz1,ho],fun m' h=>List.mem_cons_of_mem _ h,fun m' h=>?_,fun m' e=>by cases e;simp⟩
  rcases List.mem_cons.1 h with rfl|h
  ·exact .inr ⟨_,_,ho⟩
  ·exact .inl h
 ·rename_i hne
  have:=ret_run h
  injection this with e1 e2
  subst e1 e2
  refine ⟨?_,fun _ h=>h,fun _ h=>.inl h,fun m e=>absurd e (hne m)⟩
  unfold frz1
  split
  ·rename_i m;exact absurd rfl (hne m)
  ·rfl
theorem frzLQ_spec {row:Nat→Option AObj}:∀ {cs cs':List AV} {ms ms' li rd:List Nat},(frzLQ cs ms).run row li=some ((cs',ms'),rd) →
 cs'=cs.map (frz1 row)∧(∀ m∈ms,m∈ms')∧(∀ m∈ms',m∈ms∨IsSeq row m)∧∀ m,AV.own m∈cs→m∈ms'
 | [],cs',ms,ms',li,rd,h=>by
   have:=ret_run h
   injection this with e1 e2
   subst e1 e2
   exact ⟨rfl,fun _ h=>h,fun _ h=>.inl h,fun m h=>by cases h⟩
 | v::r,cs',ms,ms',li,rd,h=>by
   unfold frzLQ at h
   rw [run_bind] at h
   split at h <;> try (cases h;done)
   rename_i p l1 h1
   obtain ⟨p1,p2⟩:=p
   dsimp only at h
   rw [run_bind] at h
   split at h <;> try (cases h;done)
   rename_i q l2 h2
   obtain ⟨q1,q2⟩:=q
   obtain ⟨a1,a2,a3,a4⟩:=frz1Q_spec h1
   obtain ⟨b1,b2,b3,b4⟩:=frzLQ_spec h2
   have:=ret_run h
   injection this with e1 e2
   subst e1 e2
   refine ⟨by rw [a1,b1];rfl,fun m h=>b2 m (a2 m h),fun m h=>?_,fun m h=>?_⟩
   ·rcases b3 m h with h|h
    ·exact a3 m h
    ·exact .inr h
   ·rcases List.mem_cons.1 h with h|h
    ·exact b2 m (a4 m h.symm)
    ·exact b4 m h
theorem frzGQ_spec {row:Nat→Option AObj} {v v':AV} {ms ms' li rd:List Nat} (h:(frzGQ v ms).run row li=some ((v',ms'),rd)) :
 v'=frzG row v∧(∀ m∈ms,m∈ms')∧(∀ m∈ms',m∈ms∨IsSeq row m)∧∀ m,OwnIn m v→m∈ms':=by
 unfold frzGQ at h
 split at h
 ·rename_i cs
  rw [run_bind] at h
  split at h <;> try (cases h;done)
  rename_i q l2 h2
  obtain ⟨q1,q2⟩:=q
  obtain ⟨b1,b2,b3,b4⟩:=frzLQ_spec h2
  have:=ret_run h
  injection this with e1 e2
  subst e1 e2
  refine ⟨by rw [b1];rfl,b2,b3,fun m h=>?_⟩
  rcases h with h|⟨cs',h,hm⟩
  ·cases h
  ·cases h;exact b4 m hm
 ·rename_i hne
  obtain ⟨a1,a2,a3,a4⟩:=frz1Q_spec h
  refine ⟨?_,a2,a3,fun m h=>?_⟩
  ·rw [a1]
   unfold frzG
   split
   ·rename_i cs;exact absurd rfl (hne cs)
   ·rfl
  ·rcases h with h|⟨cs',h,hm⟩
   ·exact a4 m h
   ·exact absurd h (hne cs')
theorem frzPQ_spec {row:Nat→Option AObj}:∀ {ps ps':List (Nat × AV)} {ms ms' li rd:List Nat},(frzPQ ps ms).run row li=some ((ps',ms'),rd) →
 ps'=ps.map (fun p=>(p.1,frzG row p.2))∧(∀ m∈ms,m∈ms')∧(∀ m∈ms',m∈ms∨IsSeq row m)∧∀ p∈ps,∀ m,OwnIn m p.2→m∈ms'
 | [],cs',ms,ms',li,rd,h=>by
   have:=ret_run h
   injection this with e1 e2
   subst e1 e2
   exact ⟨rfl,fun _ h=>h,fun _ h=>.inl h,fun p h=>by cases h⟩
 | (i,v)::r,cs',ms,ms',li,rd,h=>by
   unfold frzPQ at h
   rw [run_bind] at h
   split at h <;> try (cases h;done)
   rename_i p l1 h1
   obtain ⟨p1,p2⟩:=p
   dsimp only at h
   rw [run_bind] at h
   split at h <;> try (cases h;done)
   rename_i q l2 h2
   obtain ⟨q1,q2⟩:=q
   obtain ⟨a1,a2,a3,a4⟩:=frzGQ_spec h1
   obtain ⟨b1,b2,b3,b4⟩:=frzPQ_spec h2
   have:=ret_run h
   injection this with e1 e2
   subst e1 e2
   refine ⟨by rw [a1,b1];rfl,fun m h=>b2 m (a2 m h),fun m h=>?_,fun p h m ho=>?_⟩
   ·rcases b3 m h with h|h
    ·exact a3 m h
    ·exact .inr h
   ·rcases List.mem_cons.1 h with h|h
    ·exact b2 m (a4 m (by rw [h] at ho;exact ho))
    ·exact b4 p h m ho
theorem fzp1_rel {K:Nat→Prop} {R':Nat→Prop} {row:Nat→Option AObj} {v:AV} {x:Value} (hR:∀ b,R b→R' b)
 (hE:∀ m u xs,v=.own m→row m=some (.seq u xs)→ElemR R w u xs (g m).v∧∀ b,blkOf (g m).v=some b→R' b) (h:RelV g K R w v x):RelV g K R' w (frz1 row v) x:=by
 unfold frz1
 split
 ·rename_i m
  split
  ·rename_i u xs hrow
   obtain ⟨he,hb⟩:=hE m u xs rfl hrow
   cases h with
   | own hk h1=>exact .sl (reads_of_elem he hR hb)
  ·exact RelV_weaken (fun _ h=>h) hR h
 ·exact RelV_weaken (fun _ h=>h) hR h
theorem fzpL_rel {K:Nat→Prop} {R':Nat→Prop} {row:Nat→Option AObj} (hR:∀ b,R b→R' b):∀ {cs:List AV} {us:List Value},
 (∀ m u xs,AV.own m∈cs→row m=some (.seq u xs)→ElemR R w u xs (g m).v∧∀ b,blkOf (g m).v=some b→R' b)→RelL g K R w cs us→RelL g K R' w (cs.map (frz1 row)) us
 | [],us,_,h=>by cases h;exact .nil
 | c::cs,us,hE,h=>by
   cases h with
   | cons h1 h2 =>
     exact .cons (fzp1_rel hR (fun m u xs e hr=>hE m u xs (by rw [e];simp) hr) h1) (fzpL_rel hR (fun m u xs hm hr=>hE m u xs (List.mem_cons_of_mem _ hm) hr) h2)
theorem fzpG_rel {K:Nat→Prop} {R':Nat→Prop} {row:Nat→Option AObj} {v:AV} {x:Value} (hR:∀ b,R b→R' b)
 (hE:∀ m u xs,OwnIn m v→row m=some (.seq u xs)→ElemR R w u xs (g m).v∧∀ b,blkOf (g m).v=some b→R' b) (h:RelV g K R w v x):RelV g K R' w (frzG row v) x:=by
 unfold frzG
 split
 ·rename_i cs
  cases h with
  | agg h=>exact .agg (fzpL_rel hR (fun m u xs hm hr=>hE m u xs (.inr ⟨cs,rfl,hm⟩) hr) h)
 ·exact fzp1_rel hR (fun m u xs e hr=>hE m u xs (.inl e) hr) h
theorem look_frz:∀ {ms:List Nat} {r:Nat} {o:AObj},look (ms.map fun m=>(m,AObj.dead)) r=some o→r∈ms∧o=.dead
 | [],_,_,h=>by simp [look] at h
 | m::ms,r,o,h=>by
   rw [List.map_cons,look_cons] at h
   by_cases e:m=r
   ·simp [e] at h;exact ⟨by simp [e],h.symm⟩
   ·simp [e] at h
    obtain ⟨h1,h2⟩:=look_frz h
    exact ⟨List.mem_cons_of_mem _ h1,h2⟩
theorem look_frz_mem:∀ {ms:List Nat} {r:Nat},r∈ms→∃ o,look (ms.map fun m=>(m,AObj.dead)) r=some o
 | m::ms,r,h=>by
   rw [List.map_cons,look_cons]
   by_cases e:m=r
   ·exact ⟨.dead,by simp [e]⟩
   ·rcases List.mem_cons.1 h with h|h
    ·exact absurd h.symm e
    ·obtain ⟨o,ho⟩:=look_frz_mem h
     exact ⟨o,by simp [e];exact ho⟩
theorem buildX_did (hT:TTok P tt) (hrel:Rel C g R st a w) {t:TypeId} {ti:TI} (hl:look tt.1 t=some ti) {d n:Nat} {get:Operand→AV} {ρ:Operand→Value} {ps:List (Nat × Operand)} {li:List Nat} {res:Res} {rd:List Nat}
 (h:(evBuildX d ti n (ps.map fun p=>(p.1,get p.2))).run (look st.rows) li=some (res,rd)) (hf:freshAll st.ks res.new=true) (hrp:∀ x∈ps.map (·.2),RelV g (fun r=>mem st.ks r=true) R w (get x) (ρ x)) :
 Did P C st a w (Instr.buildSlice t n (ps.map fun p=>(p.1,ρ p.2)).toArray) res:=by
 unfold evBuildX at h
 rw [run_bind] at h
 split at h <;> try (cases h;done)
 rename_i fr l0 hfr
 obtain ⟨l,ms⟩:=fr
 obtain ⟨q1,_,q3,q4⟩:=frzPQ_spec hfr
 dsimp only at h
 rw [run_bind] at h
 split at h <;> try (cases h;done)
 rename_i r1 rd1 hr1
 rw [ret_run h] at hf ⊢
 have hseq:∀ m∈ms,IsSeq (look st.rows) m:=fun m hm=>by
  rcases q3 m hm with h|h
  ·cases h
  ·exact h
 obtain ⟨R',hR'⟩:∃ R':Nat→Prop,R'=fun b=>R b∨∃ m∈ms,blkOf (g m).v=some b:=⟨_,rfl⟩
 have hR:∀ b,R b→R' b:=fun b h=>by rw [hR'];exact .inl h
 have gen:=(hrel.heap.gen (g':=g) (R':=R') (w':=w) (ms.map fun m=>(m,.dead)) [] (fun r'=>r'∈ms) (fun r hr=>by simp [mem] at hr) (fun r' o h=>.inl (by obtain ⟨u,xs,ho⟩:=hseq _ (look_frz h).1;exact hrel.heap.keys _ _ ho)) (fun r' h=>look_frz_mem h)
  rfl rfl rfl (Nat.le_refl _) (fun _ _=>.inl rfl) (fun _ _=>rfl) hR
  (fun b hb'=>by
   rw [hR'] at hb'
   rcases hb' with h|⟨m,hm,h⟩
   ·exact hrel.heap.rlt b h
   ·obtain ⟨u,xs,ho⟩:=hseq m hm
    exact Own_lt (hrel.heap.held m _ ho) h)
  (fun b hb'=>by
   rw [hR'] at hb'
   rcases hb' with h|⟨m,hm,h⟩
   ·exact .inl h
   ·obtain ⟨u,xs,ho⟩:=hseq m hm
    exact .inr (.inr ⟨m,_,hm,ho,h⟩))
  (fun r' o h=>by rw [(look_frz h).2];trivial) (fun r' o b h hb=>by rw [(look_frz h).2] at hb;simp [Own] at hb) (fun r1 r2 o1 o2 b h1 h2 h3 _=>by rw [(look_frz h1).2] at h3;simp [Own] at h3)).1.lists (ks:=st.ks) (rows:=st.rows)
 have gen:HeapR C g R' (fun r=>mem st.ks r=true) (look (addRows (ms.map fun m=>(m,.dead)) st.rows)) w:=gen
 have hrel':Rel C g R' ⟨st.n,st.slots,st.gt,st.ks,addRows (ms.map fun m=>(m,.dead)) st.rows⟩ a w:=⟨hrel.size,hrel.defers,fun i e hi=>by
  obtain ⟨h2,h3⟩:=hrel.slots i e hi
  exact ⟨fun hp=>by obtain ⟨v,h4,h5⟩:=h2 hp;exact ⟨v,h4,RelV_weaken (fun _ h=>h) hR h5⟩,h3⟩,hrel.gts,gen⟩
 rw [q1,List.map_map] at hr1
 have:=buildSlice_did (P:=P) hT hrel' hl (d:=d) (n:=n) (get:=fun y=>frzG (look st.rows) (get y)) (ρ:=ρ) (ps:=ps) (row:=look st.rows) hr1 hf (fun y hy=>by
  refine fzpG_rel hR (fun m u xs hm hrow=>?_) (hrp y hy)
  obtain ⟨p,hp,rfl⟩:=List.mem_map.1 hy
  have hmm:=q4 (p.1,get p.2) (List.mem_map.2 ⟨p,hp,rfl⟩) m hm
  exact ⟨hrel.heap.held m _ hrow,fun b hb=>by rw [hR'];exact .inr ⟨m,hmm,hb⟩⟩)
 obtain ⟨v',w',g',R2,k1,k2,k3⟩:=this
 refine ⟨v',w',g',R2,k1,?_,k3⟩
 rw [appU_eq]
 have e:addRows (r1.upd++ms.map fun m=>(m,.dead)) st.rows=addRows r1.upd (addRows (ms.map fun m=>(m,.dead)) st.rows):=by
  induction r1.upd with
  | nil=>rfl
  | cons y l ih=>simp only [List.cons_append,addRows,ih]
 exact e ▸ k2
end
section
variable {P:Program} {C:Ctx} {g:Nat→Gh} {R:Nat→Prop} {st:St} {a:Act} {w:World} {tt:TT}
theorem store_quiet {ti:TI} {v:AV} {r sz i j:Nat} {row row':Nat→Option AObj} {l:List Nat} (h:row' r=row r):(evStore ti v (.oel r sz i j)).run row' l=(evStore ti v (.oel r sz i j)).run row l:=by
 unfold evStore
 simp only [RQ.run]
 rw [h]
 split <;> try rfl
 split <;> try rfl
 split <;> try rfl
 split <;> rfl
theorem freeze_row {m:Nat} {o:AObj} (hrel:Rel C g R st a w) (ho:look st.rows m=some o) (B:Nat→Prop) (hB:∀ b,B b→Own g w m o b) :
 Rel C g (fun b=>R b∨B b) ⟨st.n,st.slots,st.gt,st.ks,(m,.dead)::st.rows⟩ a w:=by
 have hR:∀ b,R b→(R b∨B b):=fun b h=>.inl h
 have hlk:∀ r' o,look [(m,AObj.dead)] r'=some o→r'=m∧o=.dead:=fun r' o h=>by
  rw [look_cons] at h
  by_cases e:m=r'
  ·simp [e] at h;exact ⟨e.symm,h.symm⟩
  ·simp [e,look] at h
 have gen:=(hrel.heap.gen (g':=g) (R':=fun b=>R b∨B b) (w':=w) [(m,.dead)] [] (fun r'=>r'=m) (fun r hr=>by simp [mem] at hr) (fun r' o h=>.inl ((hlk r' o h).1 ▸ hrel.heap.keys m _ ho)) (fun r' h=>⟨.dead,by rw [h,look_cons];simp⟩)
  rfl rfl rfl (Nat.le_refl _) (fun _ _=>.inl rfl) (fun _ _=>rfl) hR
  (fun b hb'=>by
   rcases hb' with h|h
   ·exact hrel.heap.rlt b h
   ·exact Own_lt (hrel.heap.held m _ ho) (hB b h))
  (fun b hb'=>by
   rcases hb' with h|h
   ·exact .inl h
   ·exact .inr (.inr ⟨m,_,rfl,ho,hB b h⟩))
  (fun r' o h=>by rw [(hlk r' o h).2];trivial) (fun r' o b h hb=>by rw [(hlk r' o h).2] at hb;simp [Own] at hb) (fun r1 r2 o1 o2 b h1 h2 h3 _=>by rw [(hlk r1 o1 h1).2] at h3;simp [Own] at h3)).1.lists (ks:=st.ks) (rows:=st.rows)
 have gen:HeapR C g (fun b=>R b∨B b) (fun r=>mem st.ks r=true) (look ((m,.dead)::st.rows)) w:=gen
 exact ⟨hrel.size,hrel.defers,fun i e hi=>by
  obtain ⟨h2,h3⟩:=hrel.slots i e hi
  exact ⟨fun hp=>by obtain ⟨v,h4,h5⟩:=h2 hp;exact ⟨v,h4,RelV_weaken (fun _ h=>h) hR h5⟩,h3⟩,hrel.gts,gen⟩
theorem storeX_did (hT:TTok P tt) (hrel:Rel C g R st a w) {t:TypeId} {ti:TI} (hl:look tt.1 t=some ti) {x y:AV} {u v:Value} {li:List Nat} {res:Res} {rd:List Nat}
 (h:(evStoreX ti y x).run (look st.rows) li=some (res,rd)) (hc:∀ p∈res.conds,p) (hx:RelV g (fun r=>mem st.ks r=true) R w x u) (hy:RelV g (fun r=>mem st.ks r=true) R w y v) :
 res.av=.junk∧∃ R' w',(Instr.storeAt t u v).run P w=.ok () w'∧Rel C g R' ⟨st.n,st.slots,st.gt,appK res.new st.ks,addRows res.upd st.rows⟩ a w':=by
 unfold evStoreX at h
 split at h
 ·rename_i r sz i j k
  split at h <;> try exact (fX h).elim
  rename_i hne
  have hne:k≠r:=beq_ne hne
  simp only [RQ.run] at h
  split at h <;> try (cases h;done)
  rename_i o ho
  split at h <;> try exact (fX h).elim
  rename_i cs
  simp only [RQ.run] at h
  split at h <;> try (cases h;done)
  rename_i o2 ho2
  split at h <;> try exact (fX h).elim
  rename_i ty xs
  split at h <;> try exact (fX h).elim
  rename_i z hd
  rw [run_bind] at h
  split at h <;> try (cases h;done)
  rename_i r1 rd1 hr1
  have hres:=ret_run h
  rw [hres] at hc ⊢
  have hr2:(evStore ti (.ext (.opt ty (some z))) (.oel r sz i j)).run (look ((k,.dead)::st.rows)) (r::k::li)=some (r1,rd1):=by
   rw [← hr1]
   exact store_quiet (by rw [look_cons,if_neg hne])
  have hrel':=freeze_row hrel ho (fun b=>b=(g k).b) (fun b hb=>hb)
  have hR:∀ b,R b→(R b∨b=(g k).b):=fun b h=>.inl h
  obtain ⟨vs,bt,hh,hcs,_⟩:=hrel.heap.held k _ ho
  obtain ⟨us,ws,e1,hz,hws⟩:=dec_rel hd hcs
  cases hws
  rw [List.append_nil] at e1
  subst e1
  have hv:RelV g (fun r=>mem st.ks r=true) (fun b=>R b∨b=(g k).b) w (.ext (.opt ty (some z))) v:=by
   cases hy with
   | ptr hk =>
     refine .ext (.inr ⟨z,_,rfl,rfl,⟨(g k).b,0,none⟩,vs,?_,rfl,.inr rfl,⟨vs,[],by simp,RelEl_mono hR (fun _ _=>rfl) hz,rfl⟩,cell_box hh⟩)
     simp [Addr.add]
  obtain ⟨w',k1,k2⟩:=store_did (st:=⟨st.n,st.slots,st.gt,st.ks,(k,.dead)::st.rows⟩) hT hrel' hl hr2 hc (RelV_weaken (fun _ h=>h) hR hx) hv
  have hj:r1.av=.junk:=evStore_junk hr1
  refine ⟨hj,fun b=>R b∨b=(g k).b,w',k1,?_⟩
  rw [appU_eq]
  have e:addRows (r1.upd++[(k,.dead)]) st.rows=addRows r1.upd ((k,.dead)::st.rows):=by
   induction r1.upd with
   | nil=>rfl
   | cons y l ih=>simp only [List.cons_append,addRows,ih]
  exact e ▸ k2
 ·obtain ⟨h1,w',h2,h3⟩:=storeD_did hT hrel hl h hc hx hy
  exact ⟨h1,R,w',h2,h3⟩
end
end Go.AM
end
