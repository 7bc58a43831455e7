/- AmOps3. -/
import Derived.Test.YtbepaplaahcnkaaGreatPc04
import Derived.Maps.AppendAt
import Derived.Laws.OwnMore

section
set_option linter.all false
namespace Go.AM
def updG (g:Nat→Gh) (d:Nat) (x:Gh):Nat→Gh:=fun r=>if r=d then x else g r
theorem updG_same (g:Nat→Gh) (d:Nat) (x:Gh):updG g d x d=x:=by simp [updG]
theorem updG_other (g:Nat→Gh) {d r:Nat} (x:Gh) (h:r≠d):updG g d x r=g r:=by simp [updG,h]
def Did (P:Program) (C:Ctx) (st:St) (a:Act) (w:World) (s:Sem Value) (res:Res):Prop :=
 ∃ v w' g' R',s.run P w=.ok v w'∧Rel C g' R' ⟨st.n,st.slots,st.gt,appK res.new st.ks,addRows res.upd st.rows⟩ a w'∧RelV g' (fun r=>mem (appK res.new st.ks) r=true) R' w' res.av v
section
variable {P:Program} {C:Ctx} {g:Nat→Gh} {R:Nat→Prop} {st:St} {a:Act} {w:World} {tt:TT}
theorem Pure.did {s:Sem Value} {res:Res} (hrel:Rel C g R st a w) (h:Pure P g (fun r=>mem st.ks r=true) R w s res):Did P C st a w s res:=by
 obtain ⟨h1,h2,v,h3,h4⟩:=h
 obtain ⟨c,av,upd,new⟩:=res
 dsimp only at h1 h2
 subst h1 h2
 exact ⟨v,w,g,R,h3,hrel,h4⟩
theorem Rel.new1 (hrel:Rel C g R st a w) {d:Nat} {o:AObj} {x:Gh} {w':World} (hf:freshAll st.ks [d]=true)
 (hos:w'.os=w.os) (htape:w'.tape=w.tape) (hout:w'.output=w.output) (hs:w.heap.size≤w'.heap.size) (hblk:∀ b,b < w.heap.size→w'.heap[b]?=w.heap[b]?)
 (hrow:RowH (updG g d x) (fun r=>mem (d::st.ks) r=true) R w' d o) (hown:∀ b,Own (updG g d x) w' d o b→w.heap.size≤b) :
 Rel C (updG g d x) R ⟨st.n,st.slots,st.gt,d::st.ks,(d,o)::st.rows⟩ a w':=by
 have hfr:=freshAll_spec hf
 have hd:mem st.ks d=false∧d < 100000:=hfr d (by simp [mem])
 have hg:∀ r,mem st.ks r=true→updG g d x r=g r:=fun r hr=>updG_other g x (fun e=>by subst e;rw [hd.1] at hr;cases hr)
 have hmem:∀ r,mem [d] r=true↔r=d:=fun r=>by rw [mem_cons];simp [mem,eq_comm]
 have hlook:∀ r o',look [(d,o)] r=some o'→r=d∧o'=o:=fun r o' h=>by
  rw [look_cons] at h
  by_cases e:d=r
  ·simp [e] at h;exact ⟨e.symm,h.symm⟩
  ·simp [e,look] at h
 refine hrel.gen hg (fun r hr=>by rw [mem_cons,hr];simp) (fun _ h=>h) ?_
 have:=hrel.heap.gen (g':=updG g d x) (R':=R) (w':=w') [(d,o)] [d] (fun _=>False) (fun r hr=>?_) (fun r o' h=>.inr ((hmem r).2 (hlook r o' h).1)) (fun _ h=>h.elim) hos htape hout hs (fun b hb=>.inl (hblk b hb)) hg (fun _ h=>h)
  (fun b hb=>Nat.lt_of_lt_of_le (hrel.heap.rlt b hb) hs) (fun _ h=>.inl h) (fun r o' h=>?_) (fun r o' b h hb=>?_) (fun r r' o1 o2 b h1 h2 _ _=>(hlook r o1 h1).1.trans (hlook r' o2 h2).1.symm)
 ·exact ⟨this.1.lists,this.2⟩
 ·rw [(hmem r).1 hr];exact ⟨by rw [hd.1];simp,hd.2⟩
 ·obtain ⟨rfl,rfl⟩:=hlook r o' h
  have e:(fun r'=>mem (r::st.ks) r'=true)=(fun r'=>mem st.ks r'=true∨mem [r] r'=true):=by
   funext r';rw [mem_cons,mem_cons];simp [mem];exact Or.comm
  rw [← e];exact hrow
 ·obtain ⟨rfl,rfl⟩:=hlook r o' h
  have:=hown b hb
  exact ⟨fun hR=>by have:=hrel.heap.rlt b hR;omega,.inl this⟩
theorem RelL_alloc (hrel:Rel C g R st a w) {d:Nat} {x:Gh} {o:Obj} (hf:freshAll st.ks [d]=true) {cs:List AV} {vs:List Value} (h:RelL g (fun r=>mem st.ks r=true) R w cs vs) :
 RelL (updG g d x) (fun r=>mem (d::st.ks) r=true) R (w.alloc o) cs vs:=by
 have hd:mem st.ks d=false∧d < 100000:=freshAll_spec hf d (by simp [mem])
 refine RelL_mono (fun r hr=>updG_other g x (fun e=>by subst e;rw [hd.1] at hr;cases hr)) (fun r hr=>by rw [mem_cons,hr];simp) (fun _ h=>h) (fun ad had=>?_) h
 exact World.cell?_alloc_lt w o ad (hrel.heap.rlt _ had)
theorem ret_run {α:Type} {row:Nat→Option AObj} {x y:α} {l rd:List Nat} (h:(RQ.ret x).run row l=some (y,rd)):y=x:=by
 simp [RQ.run] at h;exact h.1.symm
theorem new_did (hrel:Rel C g R st a w) {d:Nat} {e:TypeId} {cs:List AV} {v:Value} {row:Nat→Option AObj} {li:List Nat} {res:Res} {rd:List Nat}
 (h:(evNew d cs).run row li=some (res,rd)) (hf:freshAll st.ks res.new=true) (hv:RelL g (fun r=>mem st.ks r=true) R w cs v.cells.toList) :
 Did P C st a w (do pure (.pointer (some (← newVar e v)))) res:=by
 unfold evNew at h
 split at h
 ·rename_i hc
  rw [ret_run h] at hf ⊢
  have hR:=RelL_alloc hrel (x:=⟨w.heap.size,undef⟩) (o:=.cells v.cells e) hf hv
  refine ⟨.pointer (some ⟨w.heap.size,0,none⟩),w.alloc (.cells v.cells e),updG g d ⟨w.heap.size,undef⟩,R,rfl,?_,?_⟩
  ·refine hrel.new1 hf rfl rfl rfl (by simp) (fun b hb=>Go.RowKit.Below.heap_alloc w _ b hb) ?_ (fun b hb=>by simp [Own,updG] at hb;omega)
   refine ⟨v.cells.toList,e,?_,hR,cells_one hc hv⟩
   rw [updG_same]
   simpa using heap_alloc_new w (.cells v.cells e)
  ·have:=RelV.ptr (g:=updG g d ⟨w.heap.size,undef⟩) (K:=fun r=>mem (appK [d] st.ks) r=true) (R:=R) (w:=w.alloc (.cells v.cells e)) (r:=d) (j:=0) (by simp [appK,mem_cons])
   rw [updG_same] at this
   exact this
 ·exact (fX h).elim
theorem setRow_heap' (w:World) (g:Nat) (cur cs:Array Value) (t:TypeId) (hg:w.heap[g]?=some (.cells cur t (0,0))):(w.setRow g cs).heap[g]?=some (.cells cs t (0,0)):=setRow_heap w g cur cs t (0,0) hg
theorem Rel.set1 (hrel:Rel C g R st a w) {r:Nat} {o o':AObj} {b:Nat} {cur cs:Array Value} {t:TypeId} (ho:look st.rows r=some o) (hb:Own g w r o b) (hb':∀ b1,Own g (w.setRow b cs) r o' b1→Own g w r o b1)
 (_hg:w.heap[b]?=some (.cells cur t (0,0))) (hrow:RowH g (fun r=>mem st.ks r=true) R (w.setRow b cs) r o') :
 Rel C g R ⟨st.n,st.slots,st.gt,st.ks,(r,o')::st.rows⟩ a (w.setRow b cs):=by
 have hlook:∀ r' o1,look [(r,o')] r'=some o1→r'=r∧o1=o':=fun r' o1 h=>by
  rw [look_cons] at h
  by_cases e:r=r'
  ·simp [e] at h;exact ⟨e.symm,h.symm⟩
  ·simp [e,look] at h
 have hsz:(w.setRow b cs).heap.size=w.heap.size:=by simp
 refine hrel.gen (fun _ _=>rfl) (fun _ h=>h) (fun _ h=>h) ?_
 have:=hrel.heap.gen (g':=g) (R':=R) (w':=w.setRow b cs) [(r,o')] [] (fun r'=>r'=r) (fun r hr=>by simp [mem] at hr) (fun r' o1 h=>.inl ((hlook r' o1 h).1 ▸ hrel.heap.keys r o ho)) (fun r' h=>⟨o',by rw [h,look_cons];simp⟩)
  rfl rfl rfl (by rw [hsz];exact Nat.le_refl _) (fun k _=>?_) (fun _ _=>rfl) (fun _ h=>h)
  (fun b hb=>by rw [hsz];exact hrel.heap.rlt b hb) (fun _ h=>.inl h) (fun r' o1 h=>?_) (fun r' o1 b1 h h1=>?_) (fun r1 r2 o1 o2 b h1 h2 _ _=>(hlook r1 o1 h1).1.trans (hlook r2 o2 h2).1.symm)
 ·have h2:=this.1.lists (ks:=st.ks) (rows:=st.rows)
  exact ⟨h2,this.2⟩
 ·by_cases e:k=b
  ·exact .inr ⟨r,o,rfl,ho,by rw [e];exact hb⟩
  ·exact .inl (setRow_other w b k cs e)
 ·obtain ⟨rfl,rfl⟩:=hlook r' o1 h
  have e:(fun r'=>mem st.ks r'=true∨mem [] r'=true)=(fun r'=>mem st.ks r'=true):=by funext r';simp [mem]
  rw [e];exact hrow
 ·obtain ⟨rfl,rfl⟩:=hlook r' o1 h
  have h1:=hb' b1 h1
  exact ⟨(hrel.heap.own _ _ _ ho h1).1,.inr ⟨_,o,rfl,ho,h1⟩⟩
theorem storeVar_run {t:TypeId} {i:TypeInfo} (hi:P.info? t=some i) {b off:Nat} {e:TypeId} {cur:Array Value} {v:Value} (hb:w.heap[b]?=some (.cells cur e (0,0))) (hsz:v.cells.size=i.size) (hfit:off+v.cells.size≤cur.size)
 (h1:∀ u∈v.cells.toList,u.oneCell'=true) :
 (Instr.storeAt t (.pointer (some ⟨b,off,none⟩)) v).run P w=.ok () (w.setRow b (cur.toList.take off++v.cells.toList++cur.toList.drop (off+v.cells.size)).toArray):=by
 have:=run_storeCells_at P b off e v.cells.toList 0 cur w hb (by simpa using hfit) h1
 simp only [Nat.add_zero,Array.length_toList] at this
 simp [Instr.storeAt,Instr.sureAddr,storeVar,run_size w hi,hsz,this]
theorem store_did (hT:TTok P tt) (hrel:Rel C g R st a w) {t:TypeId} {ti:TI} (hl:look tt.1 t=some ti) {x y:AV} {u v:Value} {li:List Nat} {res:Res} {rd:List Nat}
 (h:(evStore ti y x).run (look st.rows) li=some (res,rd)) (hc:∀ p∈res.conds,p) (hx:RelV g (fun r=>mem st.ks r=true) R w x u) (hy:RelV g (fun r=>mem st.ks r=true) R w y v) :
 ∃ w',(Instr.storeAt t u v).run P w=.ok () w'∧Rel C g R ⟨st.n,st.slots,st.gt,appK res.new st.ks,addRows res.upd st.rows⟩ a w':=by
 obtain ⟨i,z,hi,hsz,hz,hoz,ha,hd,_,_⟩:=hT.info hl
 unfold evStore at h
 split at h
 ·rename_i r j
  cases hx with
  | ptr hk =>
    simp only [RQ.run] at h
    split at h
    ·rename_i o ho
     split at h
     ·rename_i cs
      split at h
      ·rename_i cs' h1 h2 h3
       rw [ret_run h]
       obtain ⟨vs,e,hh,hrl,hone⟩:=hrel.heap.held _ _ ho
       have hcs:=cells_rel hy h2
       obtain ⟨e1,e2⟩:=setL_spec h3
       have hl1:v.cells.size=y.cells.length:=by have:=RelL_len hcs;simpa using this
       have hl2:=RelL_len hrl
       have hsz':v.cells.size=i.size:=by rw [hl1,← lenL_spec,beq_eq h1,hsz]
       refine ⟨_,storeVar_run hi hh hsz' (by simp only [List.size_toArray];omega) (cells_one h2 hcs),?_⟩
       refine hrel.set1 ho rfl (fun _ h=>h) hh ?_
       refine ⟨_,e,setRow_heap' w _ _ _ e hh,?_,?_⟩
       ·rw [e1]
        simp only
        have hkeep:∀ ad:Addr,R ad.block→(w.setRow (g r).b (vs.take j++v.cells.toList++vs.drop (j+v.cells.size)).toArray).cell? ad=w.cell? ad:=fun ad had=>cell_of_heap (setRow_other w _ _ _ (fun e=>(hrel.heap.own r _ (g r).b ho rfl).1 (e ▸ had)))
        have hall:RelL g (fun r=>mem st.ks r=true) R w (cs.take j++(y.cells++cs.drop (j+y.cells.length))) (vs.take j++v.cells.toList++vs.drop (j+v.cells.size)):=by
         rw [List.append_assoc]
         refine RelL_append (RelL_take hrl _) (RelL_append hcs ?_)
         rw [hl1];exact RelL_drop hrl _
        exact RelL_mono (fun _ _=>rfl) (fun _ h=>h) (fun _ h=>h) hkeep hall
       ·intro u hu
        simp only [List.mem_append] at hu
        rcases hu with (hu|hu)|hu
        ·exact hone u (List.mem_of_mem_take hu)
        ·exact cells_one h2 hcs u hu
        ·exact hone u (List.mem_of_mem_drop hu)
      ·exact (fX h).elim
     ·exact (fX h).elim
    ·cases h
 ·rename_i r sz n j
  cases hx with
  | oel hk hg =>
    rename_i b len cap
    simp only [RQ.run] at h
    split at h
    ·rename_i o ho
     split at h
     ·rename_i ty xs
      split at h
      ·rename_i cs' h0 h1 hcells h3
       split at h
       ·rename_i x hdec
        rw [ret_run h] at hc ⊢
        have hlt:n < xs.length:=hc _ (List.mem_singleton.2 rfl)
        obtain ⟨e,vs,hown,hlay,hby⟩:=hrel.heap.held _ _ ho
        rw [hg] at hown
        obtain ⟨pa,pb,pc,evs,hpl,hpb⟩:=lay_get (n:=ty.size) (fun _ _ h=>RelEl_len h) ty.dflt n hlay hlt
        have hbl:=RelEl_len hpb
        obtain ⟨e1,e2⟩:=setL_spec h3
        have hrb:RelL g (fun r=>mem st.ks r=true) R w (encAt ty xs n) pb:=RelEl_enc hpb
        have hcs:=cells_rel hy hcells
        have hl1:v.cells.size=y.cells.length:=by have:=RelL_len hcs;simpa using this
        have hl2:=RelL_len hrb
        have hsz':v.cells.size=i.size:=by rw [hl1,← lenL_spec,beq_eq h1,hsz]
        have hnew:RelL g (fun r=>mem st.ks r=true) R w cs' (pb.take j++(v.cells.toList++pb.drop (j+v.cells.size))):=by
         rw [e1]
         refine RelL_append (RelL_take hrb _) (RelL_append hcs ?_)
         rw [hl1];exact RelL_drop hrb _
        obtain ⟨us,ws,ee,hxe,hws⟩:=dec_rel hdec hnew
        cases hws
        rw [List.append_nil] at ee
        obtain ⟨qa,qb,qc,evs',hql,hqb,hset⟩:=lay_set (p:=RelEl R w ty) (n:=ty.size) (fun _ _ h=>RelEl_len h) x us hxe n hlay hlt
        have hq:qa=pa∧qc=pc:=by
         rw [evs] at evs'
         have h4:=List.append_inj evs' (by rw [hpl,hql])
         have h5:=List.append_inj h4.2 (by rw [hbl,hqb])
         exact ⟨h4.1.symm,h5.2.symm⟩
        obtain ⟨rfl,rfl⟩:=hq
        obtain ⟨hown1,hown2⟩:=hown
        rcases hown2 with ⟨_,hv,hn0⟩|⟨b',cap',cur,hv,hb0,hh,hle,hmx,hcur,htake⟩
        ·omega
        ·injection hv with hv1 hv2 hv3
         injection hv1 with hv1
         injection hv1 with hv1
         subst hv1 hv3
         have hcurl:cur.toList=vs++cur.toList.drop (xs.length * ty.size):=by rw [← htake,List.take_append_drop]
         have hsz0:=beq_eq h0
         have hb1:Own g w r (.seq ty xs) b:=by simp only [Own];rw [hg,blkOf_pos hb0]
         have hjl:j+v.cells.size≤qb.length:=by rw [hl1,hqb,← hbl,hl2];exact e2
         have hqb:qb=pb:=by
          rw [evs] at evs'
          exact (List.append_inj (List.append_inj evs' rfl).2 (by rw [hbl,hqb])).1.symm
         subst hqb
         generalize hrest:cur.toList.drop (xs.length * ty.size)=rest at hcurl
         rw [evs] at hcurl
         have hoff:n * sz+j=qa.length+j:=by rw [hql,hsz0]
         have hcs2:cur.size=(qa++(qb++qc)++rest).length:=by rw [← hcurl];simp
         have hstore:=storeVar_run (v:=v) hi hh hsz' (off:=n * sz+j) (by rw [hcs2,hoff];simp;omega) (cells_one hcells hcs)
         have hfin:cur.toList.take (n * sz+j)++v.cells.toList++cur.toList.drop (n * sz+j+v.cells.size)=(qa++(us++qc))++rest:=by
          rw [hcurl,hoff,← ee]
          simp only [List.append_assoc]
          rw [List.take_length_add_append,show qa.length+j+v.cells.size=qa.length+(j+v.cells.size) by omega,List.drop_length_add_append,List.take_append_of_le_length (by omega),List.drop_append_of_le_length (by omega)]
          simp only [List.append_assoc]
         rw [hfin] at hstore
         refine ⟨_,hstore,hrel.set1 ho hb1 (fun _ h=>h) hh ?_⟩
         have hkeep:∀ ad:Addr,R ad.block→(w.setRow b ((qa++(us++qc))++rest).toArray).cell? ad=w.cell? ad:=fun ad had=>cell_of_heap (setRow_other w _ _ _ (fun e=>(hrel.heap.own r _ b ho hb1).1 (e ▸ had)))
         have hul:=RelEl_len hxe
         refine ⟨e,qa++(us++qc),⟨?_,.inr ⟨b,cap,_,by rw [hg,List.length_set,hv2],hb0,setRow_heap' w _ _ _ e hh,by rw [List.length_set];exact hle,hmx,?_,?_⟩⟩,lay_mono (fun _ _ h=>RelEl_mono (fun _ h=>h) hkeep h) hset,by rw [List.length_set];exact hby⟩
         ·rw [List.length_set,← hown1,evs];simp;omega
         ·rw [← hcur,hcs2];simp;omega
         ·rw [List.length_set,← hown1,evs,List.take_append_of_le_length (by simp;omega),List.take_of_length_le (by simp;omega)]
       ·exact (fX h).elim
      ·exact (fX h).elim
     ·exact (fX h).elim
    ·cases h
 ·exact (fX h).elim
theorem toList_rep (z:Array Value) (n:Nat) (hz:0 < z.size∨n=0):((Array.range (n * z.size)).map fun i=>z[i % z.size]!).toList=(List.replicate n z.toList).flatten:=by
 induction n with
 | zero=>simp
 | succ n ih =>
   have hz':0 < z.size:=by rcases hz with h|h;exact h;omega
   rw [List.replicate_succ',List.flatten_append,← ih (.inl hz')]
   apply List.ext_getElem
   ·simp [Nat.succ_mul]
   ·intro i h1 h2
    simp only [Array.toList_map,Array.toList_range,List.getElem_map,List.getElem_range,List.getElem_append,List.length_map,List.length_range]
    split
    ·rfl
    ·rename_i hlt
     have hi:i < n * z.size+z.size:=by simpa [Nat.succ_mul] using h1
     have:i % z.size=i - n * z.size:=by
      rw [show i=(i - n * z.size)+n * z.size by omega,Nat.add_mul_mod_self_right,Nat.mod_eq_of_lt (by omega)]
      omega
     rw [this]
     simp only [List.flatten_cons,List.flatten_nil,List.append_nil,Array.getElem_toList]
     rw [getElem!_pos z (i - n * z.size) (by omega)]
theorem RelL_rep {K:Nat→Prop} {zs:List AV} {vs:List Value} (h:RelL g K R w zs vs):∀ n,RelL g K R w (repA n zs) (List.replicate n vs).flatten
 | 0=>by simpa [repA] using RelL.nil
 | n+1=>by rw [List.replicate_succ,List.flatten_cons];exact RelL_append h (RelL_rep h n)
theorem decN_rel {K:Nat→Prop} {t:Ty}:∀ {n:Nat} {l:List AV} {xs:List t.El} {vs:List Value},decN t n l=some xs→RelL g K R w l vs→lay (RelEl R w t) xs vs∧xs.length=n
 | 0,[],xs,vs,h,hr=>by cases hr;simp only [decN,Option.some.injEq] at h;subst h;exact ⟨rfl,rfl⟩
 | 0,_::_,xs,vs,h,hr=>by simp [decN] at h
 | n+1,l,xs,vs,h,hr=>by
   simp only [decN] at h
   split at h <;> try (cases h;done)
   rename_i x r h1
   split at h <;> try (cases h;done)
   rename_i ys h2
   cases h
   obtain ⟨us,ws,e,hx,hws⟩:=dec_rel h1 hr
   obtain ⟨h3,h4⟩:=decN_rel h2 hws
   exact ⟨⟨us,ws,e,hx,h3⟩,by simp [h4]⟩
theorem seq_did (hrel:Rel C g R st a w) {d:Nat} {e:TypeId} {t:Ty} {xs:List t.El} {cur:Array Value} {cap:Nat} {vs:List Value} (hf:freshAll st.ks [d]=true)
 (hlay:lay (RelEl R w t) xs vs) (hcap:xs.length≤cap) (hm:cap≤maxLen) (hsz:cur.size=cap * t.size) (htake:cur.toList.take (xs.length * t.size)=vs) (hb:xs.length * t.bytes≤140737488355328) :
 Rel C (updG g d ⟨0,.slice (some ⟨w.heap.size,0,none⟩) xs.length cap⟩) R ⟨st.n,st.slots,st.gt,d::st.ks,(d,.seq t xs)::st.rows⟩ a (w.alloc (.cells cur e)) ∧
 RelV (updG g d ⟨0,.slice (some ⟨w.heap.size,0,none⟩) xs.length cap⟩) (fun r=>mem (d::st.ks) r=true) R (w.alloc (.cells cur e)) (.own d) (.slice (some ⟨w.heap.size,0,none⟩) xs.length cap):=by
 have hkeep:∀ ad:Addr,R ad.block→(w.alloc (.cells cur e)).cell? ad=w.cell? ad:=fun ad had=>World.cell?_alloc_lt w _ ad (hrel.heap.rlt _ had)
 refine ⟨hrel.new1 hf rfl rfl rfl (by simp) (fun b hb=>Go.RowKit.Below.heap_alloc w _ b hb) ?_ (fun b hb=>by simp only [Own,updG_same] at hb;have:=blkOf_own hb;simp [Value.ownBlock] at this;omega),?_⟩
 ·refine ⟨e,vs,ownsSeq_of ⟨lay_length (fun _ _ h=>RelEl_len h) hlay,.inr ⟨w.heap.size,cap,cur,by rw [updG_same],Nat.zero_le _,heap_alloc_new w _,hcap,hm,hsz,htake⟩⟩,lay_mono (fun _ _ h=>RelEl_mono (fun _ h=>h) hkeep h) hlay,hb⟩
 ·have:=RelV.own (g:=updG g d ⟨0,.slice (some ⟨w.heap.size,0,none⟩) xs.length cap⟩) (K:=fun r=>mem (d::st.ks) r=true) (R:=R) (w:=w.alloc (.cells cur e)) (r:=d) (by simp [mem_cons]) (by simp [updG,Value.oneCell'])
  rw [updG_same] at this
  exact this
theorem buildSlice_did (hT:TTok P tt) (hrel:Rel C g R st a w) {t:TypeId} {ti:TI} (hl:look tt.1 t=some ti) {d n:Nat} {get:Operand→AV} {ρ:Operand→Value} {ps:List (Nat × Operand)} {row:Nat→Option AObj} {li:List Nat} {res:Res} {rd:List Nat}
 (h:(evBuildSlice d ti n (ps.map fun p=>(p.1,get p.2))).run row li=some (res,rd)) (hf:freshAll st.ks res.new=true) (hrp:∀ x∈ps.map (·.2),RelV g (fun r=>mem st.ks r=true) R w (get x) (ρ x)) :
 Did P C st a w (Instr.buildSlice t n (ps.map fun p=>(p.1,ρ p.2)).toArray) res:=by
 obtain ⟨i,z,hi,hsz,hz,hoz,ha,hd,_,_⟩:=hT.info hl
 unfold evBuildSlice at h
 split at h <;> try exact (fX h).elim
 rename_i ty esz bytes zs hfs
 rw [hfs] at hd
 obtain ⟨el,ei,ez,ec,hel,hei,_,rfl,rfl,hez,hoez,rfl⟩:=td_slice hd
 split at h <;> try exact (fX h).elim
 rename_i cs hfill h1 h2 h3 h4 h5
 split at h <;> try exact (fX h).elim
 rename_i xs hdec
 rw [ret_run h] at hf ⊢
 have hz0:=ofZero_rel (g:=g) (K:=fun r=>mem st.ks r=true) (R:=R) (w:=w) hoez
 have hzc:=cells_rel hz0 (ofZero_cell hoez)
 have hzl:ez.cells.size=ei.size:=by have:=RelL_len hzc;have h6:=beq_eq h4;rw [lenL_spec] at h6;rw [h6] at this;simpa using this
 have h1':n * ei.size≤16777216:=by simpa using h1
 have h2':n * ty.bytes≤16777216:=by simpa using h2
 have h3':ei.size=ty.size:=beq_eq h3
 have hrep:RelL g (fun r=>mem st.ks r=true) R w (repA n ec.cells) (((Array.range (n * ei.size)).map fun i=>(if n * ei.size=0 then #[] else ez.cells)[i % (if n * ei.size=0 then #[] else ez.cells).size]!).toList):=by
  by_cases h0:n * ei.size=0
  ·simp only [h0,if_true]
   have:(Array.map (fun i=>(#[]:Array Value)[i % (#[]:Array Value).size]!) (Array.range 0)).toList=[]:=by simp
   rw [this]
   rcases Nat.mul_eq_zero.1 h0 with h|h
   ·subst h;exact .nil
   ·have hnil:ec.cells=[]:=by
     have:=beq_eq h4
     rw [h,lenL_spec] at this
     exact List.eq_nil_of_length_eq_zero this
    rw [hnil]
    have:∀ n,repA n ([]:List AV)=[]:=fun n=>by induction n with
     | zero=>rfl
     | succ n ih=>simp [repA,ih]
    rw [this];exact .nil
  ·simp only [h0,if_false]
   have hpos:0 < ez.cells.size:=by rw [hzl];exact Nat.pos_of_ne_zero (fun e=>h0 (by rw [e,Nat.mul_zero]))
   rw [← hzl,toList_rep _ _ (.inl hpos)]
   exact RelL_rep hzc n
 obtain ⟨vs',hfs',hr'⟩:=fill_sound (ρ:=ρ) hfill hrp hrep
 rw [Array.toArray_toList] at hfs'
 obtain ⟨hlay,hxl⟩:=decN_rel hdec hr'
 have hvl:vs'.size=n * ty.size:=by have:=lay_length (fun _ _ h=>RelEl_len h) hlay;rw [hxl] at this;simpa using this
 have hmx:n≤maxLen:=by
  have:n≤16777216:=by simpa using h5
  unfold maxLen;omega
 have hd:=seq_did hrel (e:=el) (cur:=vs') (cap:=n) hf hlay (by rw [hxl];exact Nat.le_refl _) hmx hvl (by rw [hxl,← hvl];exact List.take_of_length_le (by simp)) (by rw [hxl];omega)
 rw [hxl] at hd
 refine ⟨_,_,_,_,?_,hd.1,hd.2⟩
 have hgt:¬ 2 ^ 24 < n * ei.size:=by omega
 by_cases h0:n * ei.size=0
 ·simp only [h0,if_true] at hfs'
  simp [Instr.buildSlice,run_underlying hel,run_size w hei,h0,newRow]
  simp at hfs'
  simp [hfs']
 ·simp only [h0,if_false] at hfs'
  simp [Instr.buildSlice,run_underlying hel,run_size w hei,h0,newRow,hgt,run_zero w hei hez,hfs']
theorem listOf_sound {K:Nat→Prop} {t:Ty} {x:AV} {u:Value} {row:Nat→Option AObj} {li:List Nat} {xs:List t.El} {rd:List Nat}
 (h:(listOf t x).run row li=some (xs,rd)) (hx:RelV g K R w x u) (hrow:∀ r o,row r=some o→RowH g K R w r o) :
 ∃ a cap,u=.slice a xs.length cap∧xs.length≤maxLen∧(a=none→xs=[])∧(∀ ad,a=some ad→∃ vs,lay (RelEl R w t) xs vs∧∀ j u,vs[j]?=some u→w.cell? (ad.add j)=some u):=by
 have sl:∀ (xs:List t.El) (v:Value),Reads R w t.bytes (RelEl R w t) xs v→∃ a cap,v=.slice a xs.length cap∧xs.length≤maxLen∧(a=none→xs=[])∧(∀ ad,a=some ad→∃ vs,lay (RelEl R w t) xs vs∧∀ j u,vs[j]?=some u→w.cell? (ad.add j)=some u):=by
  intro xs v hr
  obtain ⟨a,cap,rfl,h1,h2,_,h4⟩:=hr
  refine ⟨a,cap,rfl,by omega,fun ha=>?_,fun ad ha=>?_⟩
  ·cases xs with
   | nil=>rfl
   | cons y ys=>obtain ⟨ad,_,h5,_⟩:=h4 (by simp);rw [ha] at h5;cases h5
  ·cases xs with
   | nil=>exact ⟨[],rfl,by simp⟩
   | cons y ys =>
     obtain ⟨ad',vs,h5,_,_,h6,h7⟩:=h4 (by simp)
     rw [ha] at h5;cases h5
     exact ⟨vs,h6,h7⟩
 unfold listOf at h
 split at h
 ·split at h <;> try exact (fX h).elim
  rename_i hs _
  rw [castK_eq] at h
  rw [ret_run h]
  cases hx with
  | sl hr=>exact sl _ _ (castL_rel _ _ _ hr)
 ·rw [ret_run h]
  cases hx
  exact sl [] _ (Reads_nil _ _)
 ·simp only [RQ.run] at h
  split at h <;> try (cases h;done)
  rename_i o ho
  split at h <;> try exact (fX h).elim
  split at h <;> try exact (fX h).elim
  rw [castK_eq] at h
  rw [ret_run h]
  rename_i hsame _
  cases hx with
  | own hk _ =>
    obtain ⟨e,vs,hown,hlay,_⟩:=hrow _ _ ho
    have hlay':=castL_lay hsame _ _ hlay
    rcases hown.2 with ⟨a,hv,hn0⟩|⟨b,cap,cur,hv,_,_,hcap,hmx,_⟩
    ·have hv0:vs=[]:=List.eq_nil_of_length_eq_zero (by rw [hown.1,hn0];simp)
     refine ⟨a,0,by rw [hv,castL_len,hn0],by rw [castL_len,hn0];exact Nat.zero_le _,fun _=>List.eq_nil_of_length_eq_zero (by rw [castL_len,hn0]),fun ad _=>⟨vs,hlay',fun j u hu=>by rw [hv0] at hu;simp at hu⟩⟩
    ·exact ⟨some ⟨b,0,none⟩,cap,by rw [hv,castL_len],by rw [castL_len];omega,fun h=>(by cases h),fun ad had=>by cases had;exact ⟨vs,hlay',own_cells hown hv⟩⟩
 ·exact (fX h).elim
theorem run_append_row {t ty e e':TypeId} {i:TypeInfo} {z:Value} (ht:P.underlying t=some (.slice e)) (hi:P.info? e=some i) (hz:i.zero=some z) (hzs:z.cells.size=i.size)
 (v:Value) (n:Nat) (xs:List Value) (hown:w.ownsRow 0 e' i.size v n xs) (a:Option Addr) (m c:Nat) (news:List Value) (hl:news.length=m * i.size) (ha:a=none→m=0)
 (hnews:∀ ad,a=some ad→∀ j u,news[j]?=some u→w.cell? (ad.add j)=some u) (h1:∀ u∈news,u.oneCell'=true) (h63:n+m≤maxLen) (hbytes:(n+m) * i.bytes≤140737488355328) :
 ∃ v' w' e2,(Builtin.append_ #[t,t] ty #[v,.slice a m c]).run P w=.ok v' w'∧w'.ownsRow 0 e2 i.size v' (n+m) (xs++news)∧w.grownBy w' v.ownBlock ∧
  (v'.ownBlock=v.ownBlock∨v'.ownBlock=some w.heap.size):=by
 cases a with
 | none =>
   have hm:=ha rfl
   subst hm
   have hn:news=[]:=List.eq_nil_of_length_eq_zero (by simpa using hl)
   subst hn
   refine ⟨v,w,e',?_,by simpa using hown,⟨rfl,rfl,rfl,Nat.le_refl _,fun _ _ _=>rfl⟩,.inl rfl⟩
   rcases hown.2 with ⟨rfl,rfl⟩|⟨b,cap,cur,rfl,_,_,hnc,_⟩
   ·simp [Builtin.append_,run_underlying ht,sizeOf,typeInfo,hi,Builtin.lenOf,Builtin.firstCells]
   ·simp [Builtin.append_,run_underlying ht,sizeOf,typeInfo,hi,Builtin.lenOf,Builtin.firstCells,hnc,storeCells]
 | some ad =>
   have hnews:=hnews ad rfl
   have hsmall:n+m≤9223372036854775807:=by simp only [maxLen] at h63;omega
   have hlen:(xs++news).length=(n+m) * i.size:=by rw [List.length_append,hown.1,hl,Nat.add_mul]
   have grown:∀ (old:Nat),old < n+m→∀ (row:Option Nat),
    (w.drew.alloc (.cells (xs.toArray++news.toArray++Builtin.zeroCells z.cells (grownCap w (n+m) old e - (n+m))) e)).ownsRow 0 e i.size
     (.slice (some ⟨w.heap.size,0,none⟩) (n+m) (grownCap w (n+m) old e)) (n+m) (xs++news) ∧
    w.grownBy (w.drew.alloc (.cells (xs.toArray++news.toArray++Builtin.zeroCells z.cells (grownCap w (n+m) old e - (n+m))) e)) row:=by
    intro old ho row
    have hge:=grownCap_ge w (n+m) old e
    have hcm:grownCap w (n+m) old e≤maxLen:=grownCap_le_maxLen w (n+m) old e h63
    refine ⟨⟨hlen,.inr ⟨w.heap.size,_,_,rfl,Nat.zero_le _,heap_alloc_new w.drew _,hge,hcm,?_,?_⟩⟩,⟨rfl,rfl,rfl,by simp,fun k hk _=>Go.RowKit.Below.heap_alloc w.drew _ k hk⟩⟩
    ·simp only [Array.size_append,List.size_toArray,size_zeroCells,hzs,hown.1,hl,← Nat.add_mul]
     congr 1
     omega
    ·simp only [Array.toList_append,List.append_assoc]
     rw [← List.append_assoc,← hlen]
     exact List.take_left
   rcases hown.2 with ⟨rfl,rfl⟩|⟨b,cap,cur,rfl,_,hg,hnc,hcm,hcs,htake⟩
   ·have hx:xs=[]:=List.eq_nil_of_length_eq_zero (by simpa using hown.1)
    subst hx
    by_cases hm:m=0
    ·subst hm
     have hn:news=[]:=List.eq_nil_of_length_eq_zero (by simpa using hl)
     subst hn
     refine ⟨.slice none 0 0,w,e,?_,World.ownsRow_nil w 0 e i.size,⟨rfl,rfl,rfl,Nat.le_refl _,fun _ _ _=>rfl⟩,.inl rfl⟩
     simp [Builtin.append_,run_underlying ht,sizeOf,typeInfo,hi,Builtin.lenOf,Builtin.firstCells,loadCells,loadCellsFrom]
    ·have hr:=run_append_nil (P:=P) w t ty e i z ht hi hz ad m c news hl hnews (by omega) (by omega) (by have hb:=hbytes;simp only [Nat.zero_add] at hb;omega)
     have hgr:=grown 0 (by omega) (Value.ownBlock (.slice none 0 0))
     simp only [Nat.zero_add,List.nil_append,Array.empty_append] at hgr ⊢
     exact ⟨_,_,_,hr,hgr.1,hgr.2,.inr rfl⟩
   ·by_cases hroom:n+m≤cap
    ·have hfit:n * i.size+news.length≤cur.size:=by rw [hl,hcs,← Nat.add_mul];exact Nat.mul_le_mul_right _ hroom
     have hf:=run_firstCells_some (P:=P) w i.size m ad m c news hl hnews
     have hst:=run_storeCells_at P b (n * i.size) e' news 0 cur w hg (by simpa using hfit) h1
     simp only [Nat.add_zero] at hst
     have hr:(Builtin.append_ #[t,t] ty #[.slice (some ⟨b,0,none⟩) n cap,.slice (some ad) m c]).run P w =
      .ok (.slice (some ⟨b,0,none⟩) (n+m) cap) (w.setRow b (cur.toList.take (n * i.size)++news++cur.toList.drop (n * i.size+news.length)).toArray):=by
      simp [Builtin.append_,run_underlying ht,sizeOf,typeInfo,hi,Builtin.lenOf,hroom,hf,Addr.add_lit,hst]
     refine ⟨_,_,e',hr,⟨hlen,.inr ⟨b,cap,_,rfl,Nat.zero_le _,setRow_heap w b cur _ e' _ hg,hroom,hcm,?_,?_⟩⟩,⟨rfl,rfl,rfl,by simp,fun k _ hk=>setRow_other w b k _ (fun e=>hk (by simp [Value.ownBlock,e]))⟩,.inl rfl⟩
     ·simp only [List.size_toArray,List.length_append,List.length_take,List.length_drop,Array.length_toList]
      omega
     ·rw [htake,← hlen]
      exact List.take_left
    ·have holds:∀ j u,xs[j]?=some u→w.cell? ((⟨b,0,none⟩:Addr).add j)=some u:=hown.cells (g:=b) rfl
     have hr:=run_append_grow (P:=P) w t ty e i z ht hi hz ⟨b,0,none⟩ n cap xs hown.1 holds ad m c news hl hnews (by omega) (by omega) (growslice_fits (by omega) hbytes)
     have hgr:=grown cap (by omega) (Value.ownBlock (.slice (some ⟨b,0,none⟩) n cap))
     exact ⟨_,_,_,hr,hgr.1,hgr.2,.inr rfl⟩
theorem run_append_any {t ty e e':TypeId} {i:TypeInfo} {z:Value} (ht:P.underlying t=some (.slice e)) (hi:P.info? e=some i) (hz:i.zero=some z) (hzs:z.cells.size=i.size)
 (v:Value) (n:Nat) (xs:List Value) (hown:ownsSeq w e' i.size v n xs) (a:Option Addr) (m c:Nat) (news:List Value) (hl:news.length=m * i.size) (ha:a=none→m=0)
 (hnews:∀ ad,a=some ad→∀ j u,news[j]?=some u→w.cell? (ad.add j)=some u) (h1:∀ u∈news,u.oneCell'=true) (h63:n+m≤maxLen) (hbytes:(n+m) * i.bytes≤140737488355328) :
 ∃ v' w' e2,(Builtin.append_ #[t,t] ty #[v,.slice a m c]).run P w=.ok v' w'∧ownsSeq w' e2 i.size v' (n+m) (xs++news)∧w.grownBy w' (blkOf v) ∧
  (∀ b,blkOf v'=some b→blkOf v=some b∨b=w.heap.size):=by
 have row:w.ownsRow 0 e' i.size v n xs→v.ownBlock=blkOf v→∃ v' w' e2,(Builtin.append_ #[t,t] ty #[v,.slice a m c]).run P w=.ok v' w'∧ownsSeq w' e2 i.size v' (n+m) (xs++news)∧w.grownBy w' (blkOf v) ∧
  (∀ b,blkOf v'=some b→blkOf v=some b∨b=w.heap.size):=by
  intro h2 h3
  obtain ⟨v',w',e2,hr,h4,h5,h6⟩:=run_append_row (P:=P) (ty:=ty) ht hi hz hzs v n xs h2 a m c news hl ha hnews h1 h63 hbytes
  refine ⟨v',w',e2,hr,ownsSeq_of h4,h3 ▸ h5,fun b hb=>?_⟩
  have h7:=blkOf_own hb
  rcases h6 with h6|h6
  ·exact .inl (by rw [← h3,← h6];exact h7)
  ·rw [h6] at h7;exact .inr (by simpa using h7.symm)
 rcases ownsSeq_row hown with ⟨b0,rfl,rfl,rfl⟩|⟨h2,h3⟩
 ·cases b0 with
  | none=>exact row (World.ownsRow_nil w 0 e' i.size) rfl
  | some b0 =>
    by_cases hm:m=0
    ·subst hm
     have hn:news=[]:=List.eq_nil_of_length_eq_zero (by simpa using hl)
     subst hn
     refine ⟨.slice (some b0) 0 0,w,e',?_,ownsSeq_nil w e' i.size (some b0),⟨rfl,rfl,rfl,Nat.le_refl _,fun _ _ _=>rfl⟩,fun b hb=>.inl hb⟩
     cases a with
     | none=>simp [Builtin.append_,run_underlying ht,sizeOf,typeInfo,hi,Builtin.lenOf,Builtin.firstCells,storeCells]
     | some ad=>simp [Builtin.append_,run_underlying ht,sizeOf,typeInfo,hi,Builtin.lenOf,Builtin.firstCells,loadCells,loadCellsFrom,storeCells]
    ·cases a with
     | none=>exact absurd (ha rfl) hm
     | some ad =>
       have hsmall:0+m≤9223372036854775807:=by simp only [maxLen] at h63;omega
       have hr:=run_append_grow (P:=P) w t ty e i z ht hi hz b0 0 0 [] (by simp) (fun j u h=>by simp at h) ad m c news hl (hnews ad rfl) (by omega) (by omega) (growslice_fits (by omega) hbytes)
       have hge:=grownCap_ge w (0+m) 0 e
       have hcm:grownCap w (0+m) 0 e≤maxLen:=grownCap_le_maxLen w (0+m) 0 e h63
       refine ⟨_,_,e,hr,ownsSeq_of ⟨?_,.inr ⟨w.heap.size,_,_,rfl,Nat.zero_le _,heap_alloc_new w.drew _,hge,hcm,?_,?_⟩⟩,⟨rfl,rfl,rfl,by simp,fun k hk _=>Go.RowKit.Below.heap_alloc w.drew _ k hk⟩,fun b hb=>.inr ?_⟩
       ·simp [hl]
       ·simp only [Array.size_append,List.size_toArray,size_zeroCells,hzs,hl,List.length_nil,Nat.zero_add,← Nat.add_mul] at hge ⊢
        congr 1
        omega
       ·simp only [Array.toList_append,List.append_assoc]
        have:(0+m) * i.size=([]++news:List Value).length:=by simp [hl]
        rw [this,← List.append_assoc]
        exact List.take_left
       ·have:=blkOf_own hb
        simpa [Value.ownBlock] using this.symm
 ·exact row h2 h3
theorem own_one {e:TypeId} {size n:Nat} {v:Value} {xs:List Value} (h:ownsSeq w e size v n xs):v.oneCell'=true:=by
 rcases h.2 with ⟨_,rfl,_⟩|⟨b,cap,cur,rfl,_⟩ <;> simp [Value.oneCell']
theorem sliceBound_run {y:Nat} {k:IntKind} {n:Int} {c:BoundsCode} (h0:0≤n) (h1:n≤y):(Instr.sliceBound (.int k n) y c).run P w=.ok n.toNat w:=by
 simp [Instr.sliceBound,asIntOf,h0,h1]
theorem own_head {e:TypeId} {size n m:Nat} {v:Value} {vs:List Value} (h:ownsSeq w e size v n vs) (hm:m≤n):∃ a cap,v=.slice a n cap∧n≤cap∧ownsSeq w e size (.slice a m cap) m (vs.take (m * size))∧blkOf (.slice a m cap)=blkOf v ∧
 ∀ k,a.map (·.add (0 * k))=a:=by
 obtain ⟨hl,h⟩:=h
 have hle:m * size≤n * size:=Nat.mul_le_mul_right _ hm
 rcases h with ⟨b0,rfl,rfl⟩|⟨b,cap,cur,rfl,hb,hh,hnc,hcm,hcs,ht⟩
 ·obtain rfl:m=0:=by omega
  refine ⟨b0,0,rfl,Nat.le_refl _,⟨by simp,.inl ⟨b0,rfl,rfl⟩⟩,rfl,fun k=>by cases b0 <;> simp [Addr.add]⟩
 ·refine ⟨some ⟨b,0,none⟩,cap,rfl,hnc,⟨by rw [List.length_take,hl];omega,.inr ⟨b,cap,cur,rfl,hb,hh,by omega,hcm,hcs,?_⟩⟩,by rw [blkOf_pos hb,blkOf_pos hb],fun k=>by simp [Addr.add]⟩
  rw [← ht,List.take_take,Nat.min_eq_left hle]
theorem lay_take {α:Type} {p:α→List Value→Prop} {size:Nat} (hp:∀ x vs,p x vs→vs.length=size):∀ {m:Nat} {xs:List α} {vs:List Value},lay p xs vs→lay p (xs.take m) (vs.take (m * size))
 | 0,xs,vs,_=>by simp [lay]
 | m+1,[],vs,h=>by have:vs=[]:=h;subst this;simp [lay]
 | m+1,x::xs,vs,⟨a,b,e,h1,h2⟩=>by
   refine ⟨a,b.take (m * size),?_,h1,lay_take hp h2⟩
   rw [e,Nat.succ_mul,Nat.add_comm (m * size),List.take_append,hp _ _ h1]
   rw [List.take_of_length_le (by rw [hp _ _ h1];omega)]
   simp
theorem lay_drop {α:Type} {p:α→List Value→Prop} {size:Nat} (hp:∀ x vs,p x vs→vs.length=size):∀ {m:Nat} {xs:List α} {vs:List Value},lay p xs vs→lay p (xs.drop m) (vs.drop (m * size))
 | 0,xs,vs,h=>by simpa using h
 | m+1,[],vs,h=>by have:vs=[]:=h;subst this;simp [lay]
 | m+1,x::xs,vs,⟨a,b,e,h1,h2⟩=>by
   have:=lay_drop hp (m:=m) h2
   rw [e,Nat.succ_mul,Nat.add_comm (m * size),List.drop_append,hp _ _ h1]
   have e1:a.drop (size+m * size)=[]:=List.drop_of_length_le (by rw [hp _ _ h1];omega)
   rw [e1]
   simpa using this
theorem slice_did (hT:TTok P tt) (hrel:Rel C g R st a w) {t:TypeId} {ti:TI} (hl:look tt.1 t=some ti) {d:Nat} {x:AV} {u:Value} {lo hi:Option Operand} {get:Operand→AV} {ρ:Operand→Value} {li:List Nat} {res:Res} {rd:List Nat}
 (h:(evSlice d ti x (lo.map get) (hi.map get)).run (look st.rows) li=some (res,rd)) (hf:freshAll st.ks res.new=true) (hc:∀ p∈res.conds,p) (hx:RelV g (fun r=>mem st.ks r=true) R w x u)
 (hlo:∀ y∈lo.toList,RelV g (fun r=>mem st.ks r=true) R w (get y) (ρ y)) (hhi:∀ y∈hi.toList,RelV g (fun r=>mem st.ks r=true) R w (get y) (ρ y)) :
 Did P C st a w (Instr.slice t u (lo.map ρ) (hi.map ρ) none) res:=by
 obtain ⟨i,z,hi',hsz,hz,hoz,ha,hd,_,_⟩:=hT.info hl
 unfold evSlice at h
 split at h <;> try exact (fX h).elim
 rename_i ty esz bytes zs hfs
 rw [hfs] at hd
 obtain ⟨el,ei,ez,ec,hel,hei,_,rfl,rfl,hez,hoez,rfl⟩:=td_slice hd
 have bnd:∀ {o:Option Operand} {dflt n:Int} {y:Nat} {c:BoundsCode},boundOf dflt (o.map get)=some n→(∀ y∈o.toList,RelV g (fun r=>mem st.ks r=true) R w (get y) (ρ y))→0≤n→n≤y →
  (match o.map ρ with|some v=>Instr.sliceBound v y c|none=>pure dflt.toNat).run P w=.ok n.toNat w:=by
  intro o dflt n y c hb hr h0 h1
  cases o with
  | none=>simp [boundOf] at hb;subst hb;simp
  | some o =>
    have hv:=hr o (by simp)
    simp only [Option.map_some] at hb ⊢
    generalize get o=av at hb hv
    cases av <;> simp [boundOf] at hb
    subst hb
    generalize ρ o=vo at hv
    cases hv
    exact sliceBound_run h0 h1
 split at h
 ·-- an owned row
  rename_i r
  split at h <;> try exact (fX h).elim
  rename_i k n hlo' hhi'
  simp only [RQ.run] at h
  split at h <;> try (cases h;done)
  rename_i o ho
  split at h <;> try exact (fX h).elim
  rename_i uty xs
  split at h <;> try exact (fX h).elim
  rename_i hes
  rw [ret_run h] at hf hc ⊢
  have h1':ei.size=uty.size:=beq_eq hes
  have hn0:0≤n:=hc _ (by simp)
  have hn1:n≤xs.length:=hc _ (by simp)
  cases lo with
  | some _=>simp at hlo'
  | none =>
  cases hi with
  | none=>simp at hhi'
  | some hio =>
  cases hx with
  | own hk _ =>
    obtain ⟨e',vs,hown,hlay,hby⟩:=hrel.heap.held _ _ ho
    rw [← h1'] at hown
    obtain ⟨sa,cap,hv,hnc,hown2,hblk,hadd⟩:=own_head hown (show n.toNat≤xs.length by omega)
    have hfr:mem st.ks d=false∧d < 100000:=freshAll_spec hf d (by simp [mem])
    obtain ⟨v',hv'⟩:∃ v',v'=Value.slice sa n.toNat cap:=⟨_,rfl⟩
    rw [← hv'] at hown2 hblk
    have hg:∀ r,mem st.ks r=true→updG g d ⟨0,v'⟩ r=g r:=fun r hr=>updG_other g _ (fun e=>by subst e;rw [hfr.1] at hr;cases hr)
    have hmem:∀ r,mem [d] r=true↔r=d:=fun r=>by rw [mem_cons];simp [mem,eq_comm]
    have hlk:∀ r' o,look [(d,AObj.seq uty (xs.take n.toNat)),(r,.dead)] r'=some o→(r'=d∧o=.seq uty (xs.take n.toNat))∨(r'=r∧o=.dead):=fun r' o h=>by
     rw [look_cons] at h
     by_cases e:d=r'
     ·simp [e] at h;exact .inl ⟨e.symm,h.symm⟩
     ·simp [e] at h
      rw [look_cons] at h
      by_cases e2:r=r'
      ·simp [e2] at h;exact .inr ⟨e2.symm,h.symm⟩
      ·simp [e2,look] at h
    have hKe:(fun r=>mem (appK [d] st.ks) r=true)=(fun r=>mem st.ks r=true∨mem [d] r=true):=by
     funext r;rw [mem_appK];simp only [Bool.or_eq_true];exact propext Or.comm
    have hdr:d≠r:=fun e=>by subst e;rw [hfr.1] at hk;cases hk
    refine ⟨v',w,updG g d ⟨0,v'⟩,R,?_,hrel.gen hg (fun r hr=>by rw [mem_appK,hr];simp) (fun _ h=>h) ?_,?_⟩
    ·have hvio:=hhi hio (by simp)
     simp only [Option.map_some,Option.some.injEq] at hhi'
     rw [hhi'] at hvio
     generalize hec:ρ hio=vio at hvio
     cases hvio
     have hb:=sliceBound_run (P:=P) (w:=w) (y:=cap) (k:=k) (c:=.sliceAcap) hn0 (by omega)
     rw [hv,hv']
     simp only [Instr.slice,run_underlying hel,Sem.run_bind,Result.andThen_ok,Instr.sliceBounds,Option.map_none,Option.map_some,hec,Sem.run_pure,if_true,hb,run_size w hei]
     have e0:=hadd ei.size
     simp only [Nat.sub_zero]
     split
     ·rfl
     ·rw [e0]
    ·have := hrel.heap.gen (g':=updG g d ⟨0,v'⟩) (R':=R) (w':=w) [(d,.seq uty (xs.take n.toNat)),(r,.dead)] [d] (fun r'=>r'=r) (fun r hr=>by rw [(hmem r).1 hr];exact ⟨by rw [hfr.1];simp,hfr.2⟩)
      (fun r' o h=>by rcases hlk r' o h with ⟨h6,_⟩|⟨h6,_⟩;exact .inr ((hmem r').2 h6);exact .inl (h6 ▸ hk))
      (fun r' h=>⟨.dead,by rw [h,look_cons,if_neg hdr,look_cons];simp⟩)
      rfl rfl rfl (Nat.le_refl _) (fun b hb=>.inl rfl) hg (fun _ h=>h) (fun b hb=>hrel.heap.rlt b hb) (fun _ h=>.inl h)
      (fun r' o h=>by
       rcases hlk r' o h with ⟨rfl,rfl⟩|⟨_,rfl⟩
       ·refine ⟨e',vs.take (n.toNat * ei.size),?_,?_,?_⟩
        ·rw [updG_same,List.length_take,Nat.min_eq_left (by omega),← h1'];exact hown2
        ·rw [h1'];exact lay_take (fun _ _ h=>RelEl_len h) hlay
        ·rw [List.length_take]
         exact Nat.le_trans (Nat.mul_le_mul_right _ (Nat.min_le_right _ _)) hby
       ·trivial)
      (fun r' o b h hb=>by
       rcases hlk r' o h with ⟨rfl,rfl⟩|⟨_,rfl⟩
       ·simp only [Own,updG_same] at hb
        rw [hblk] at hb
        exact ⟨(hrel.heap.own r _ b ho hb).1,.inr ⟨r,_,rfl,ho,hb⟩⟩
       ·simp [Own] at hb)
      (fun r1 r2 o1 o2 b h6 h7 h8 h9=>by
       rcases hlk r1 o1 h6 with ⟨e1,_⟩|⟨_,rfl⟩
       ·rcases hlk r2 o2 h7 with ⟨e2,_⟩|⟨_,rfl⟩
        ·rw [e1,e2]
        ·simp [Own] at h9
       ·simp [Own] at h8)
     exact ⟨this.1.lists,this.2⟩
    ·have:=RelV.own (g:=updG g d ⟨0,v'⟩) (K:=fun r=>mem (appK [d] st.ks) r=true) (R:=R) (w:=w) (r:=d) (by simp [appK,mem_cons]) (by rw [updG_same];exact own_one hown2)
     rw [updG_same] at this
     exact this
 ·-- a slice that nobody writes
  rename_i uty xs
  split at h <;> try exact (fX h).elim
  rename_i l h' hes hbl hbh
  rw [ret_run h] at hc ⊢
  have h1':ei.size=uty.size:=beq_eq hes
  have hl0:0≤l:=hc _ (by simp)
  have hlh:l≤h':=hc _ (by simp)
  have hhn:h'≤xs.length:=hc _ (by simp)
  cases hx with
  | sl hr =>
    obtain ⟨sa,cap,rfl,hn1,hn2,hn3,hn4⟩:=hr
    have b1:=bnd (y:=cap) (c:=.sliceAcap) hbh hhi (by omega) (by omega)
    have b2:=bnd (y:=h'.toNat) (c:=.sliceB) hbl hlo hl0 (by omega)
    refine Pure.did hrel ⟨rfl,rfl,.slice (if cap=l.toNat then sa else sa.map (·.add (l.toNat * ei.size))) (h'.toNat - l.toNat) (cap - l.toNat),?_,?_⟩
    ·have hdef:hi=none→h'.toNat=xs.length:=fun e=>by subst e;simp [boundOf] at hbh;omega
     have hdef2:lo=none→l.toNat=0:=fun e=>by subst e;simp [boundOf] at hbl;omega
     cases hi with
     | none =>
       have e1:=hdef rfl
       cases lo with
       | none =>
         have e2:=hdef2 rfl
         simp [Instr.slice,run_underlying hel,Instr.sliceBounds,run_size w hei,e1,e2]
       | some y =>
         simp only [Option.map_some] at b2
         rw [e1] at b2
         simp [Instr.slice,run_underlying hel,Instr.sliceBounds,run_size w hei,e1,b2]
     | some z =>
       simp only [Option.map_some] at b1
       cases lo with
       | none =>
         have e2:=hdef2 rfl
         simp [Instr.slice,run_underlying hel,Instr.sliceBounds,run_size w hei,e2,b1]
       | some y =>
         simp only [Option.map_some] at b2
         simp [Instr.slice,run_underlying hel,Instr.sliceBounds,run_size w hei,b1,b2]
    ·have hlen:((xs.take h'.toNat).drop l.toNat).length=h'.toNat - l.toNat:=by rw [List.length_drop,List.length_take];omega
     refine .sl ⟨_,cap - l.toNat,by rw [hlen],by omega,by omega,by omega,fun hp=>?_⟩
     rw [hlen] at hp
     obtain ⟨ad,vs,rfl,hspot,hRb,hlay,hcell⟩:=hn4 (by omega)
     refine ⟨ad.add (l.toNat * ei.size),(vs.take (h'.toNat * uty.size)).drop (l.toNat * uty.size),?_,?_,?_,?_,?_⟩
     ·rw [if_neg (by omega)];rfl
     ·rw [add_none hspot]
     ·rw [add_none hspot];exact hRb
     ·exact lay_drop (fun _ _ h=>RelEl_len h) (lay_take (fun _ _ h=>RelEl_len h) hlay)
     ·intro j u hu
      rw [add_add',h1']
      refine hcell _ u ?_
      rw [List.getElem?_drop] at hu
      rw [List.getElem?_take] at hu
      split at hu
      ·exact hu
      ·cases hu
 ·-- nil
  split at h <;> try exact (fX h).elim
  rename_i l h' hbl hbh
  rw [ret_run h] at hc ⊢
  have hl0:l=0:=hc _ (by simp)
  have hh0:h'=0:=hc _ (by simp)
  subst hl0 hh0
  cases hx
  have b1:=bnd (y:=0) (c:=.sliceAcap) hbh hhi (by omega) (by omega)
  have b2:=bnd (y:=0) (c:=.sliceB) hbl hlo (by omega) (by omega)
  refine Pure.did hrel ⟨rfl,rfl,.slice none 0 0,?_,.nilsl⟩
  cases hi with
  | none =>
    cases lo with
    | none=>simp [Instr.slice,run_underlying hel,Instr.sliceBounds,run_size w hei]
    | some y =>
      simp only [Option.map_some] at b2
      simp at b2
      simp [Instr.slice,run_underlying hel,Instr.sliceBounds,run_size w hei,b2]
  | some z =>
    simp only [Option.map_some] at b1
    simp at b1
    cases lo with
    | none=>simp [Instr.slice,run_underlying hel,Instr.sliceBounds,run_size w hei,b1]
    | some y =>
      simp only [Option.map_some] at b2
      simp at b2
      simp [Instr.slice,run_underlying hel,Instr.sliceBounds,run_size w hei,b1,b2]
 ·exact (fX h).elim
theorem sliceAt_did (hT:TTok P tt) (hrel:Rel C g R st a w) {t:TypeId} {ti:TI} (hl:look tt.1 t=some ti) {d:Nat} {x:AV} {u:Value} {lo hi:Option Operand} {get:Operand→AV} {ρ:Operand→Value} {li:List Nat} {res:Res} {rd:List Nat}
 (h:(evSlice d ti x (lo.map get) (hi.map get)).run (look st.rows) li=some (res,rd)) (hf:freshAll st.ks res.new=true) (hc:∀ p∈res.conds,p) (hx:RelV g (fun r=>mem st.ks r=true) R w x u)
 (hlo:∀ y∈lo.toList,RelV g (fun r=>mem st.ks r=true) R w (get y) (ρ y)) (hhi:∀ y∈hi.toList,RelV g (fun r=>mem st.ks r=true) R w (get y) (ρ y)) :
 Did P C st a w (Instr.sliceAt t u (lo.map ρ) (hi.map ρ) none) res:=by
 obtain ⟨v,w',g',R',h1,h2,h3⟩:=slice_did hT hrel hl h hf hc hx hlo hhi
 refine ⟨v,w',g',R',?_,h2,h3⟩
 obtain ⟨i,z,hi',hsz,hz,hoz,ha,hd,_,_⟩:=hT.info hl
 unfold evSlice at h
 split at h <;> try exact (fX h).elim
 rename_i ty esz bytes zs hfs
 rw [hfs] at hd
 obtain ⟨el,ei,ez,ec,hel,hei,_,rfl,rfl,hez,hoez,rfl⟩:=td_slice hd
 rw [← h1]
 simp [Instr.sliceAt,run_underlying hel]
theorem append_did (hT:TTok P tt) (hrel:Rel C g R st a w) {t ty':TypeId} {ti:TI} (hl:look tt.1 t=some ti) {d:Nat} {s x:AV} {u v:Value} {li:List Nat} {res:Res} {rd:List Nat}
 (h:(evAppend d ti s x).run (look st.rows) li=some (res,rd)) (hf:freshAll st.ks res.new=true) (hc:∀ p∈res.conds,p) (hs:RelV g (fun r=>mem st.ks r=true) R w s u) (hx:RelV g (fun r=>mem st.ks r=true) R w x v) :
 Did P C st a w (Builtin.append_ #[t,t] ty' #[u,v]) res:=by
 obtain ⟨i,z,hi,hsz,hz,hoz,ha,hd,_,_⟩:=hT.info hl
 unfold evAppend at h
 split at h <;> try exact (fX h).elim
 rename_i ty esz bytes zs hfs
 rw [hfs] at hd
 obtain ⟨el,ei,ez,ec,hel,hei,_,rfl,rfl,hez,hoez,rfl⟩:=td_slice hd
 split at h <;> try exact (fX h).elim
 rename_i h1 h2 h3 h4 h5
 have h1':ei.size=ty.size:=beq_eq h1
 have h2':ty.bytes≤ei.bytes:=by simpa using h2
 have h4':1≤ei.bytes:=by simpa using h4
 rw [run_bind] at h
 split at h <;> try (cases h;done)
 rename_i ys l' hys
 obtain ⟨sa,sc,rfl,hyl,hnone,hsome⟩:=listOf_sound hys hx hrel.heap.held
 have hzc:ez.cells.size=ei.size:=by
  have hz0:=ofZero_rel (g:=g) (K:=fun r=>mem st.ks r=true) (R:=R) (w:=w) hoez
  have hzc:=RelL_len (cells_rel hz0 (ofZero_cell hoez))
  have h6:=beq_eq h5
  rw [lenL_spec] at h6
  rw [h6] at hzc
  simpa using hzc
 obtain ⟨news,hlay,hncell⟩:∃ news,lay (RelEl R w ty) ys news∧∀ ad,sa=some ad→∀ j u,news[j]?=some u→w.cell? (ad.add j)=some u:=by
  cases sa with
  | none=>rw [hnone rfl];exact ⟨[],rfl,fun _ h=>by cases h⟩
  | some ad=>obtain ⟨vs,h6,h7⟩:=hsome ad rfl;exact ⟨vs,h6,fun ad' e=>by cases e;exact h7⟩
 have hnl:news.length=ys.length * ei.size:=by rw [h1'];exact lay_length (fun _ _ h=>RelEl_len h) hlay
 have hone:∀ u∈news,u.oneCell'=true:=lay_all (fun _ _ h=>RelEl_one h) hlay
 have fin:∀ (upd0:List (Nat × AObj)) (T:Nat→Prop) (xs:List ty.El) (vs:List Value) (e':TypeId) (u:Value),ownsSeq w e' ei.size u xs.length vs→lay (RelEl R w ty) xs vs→(xs.length+ys.length) * ei.bytes≤140737488355328→freshAll st.ks [d]=true →
  (∀ r o,look upd0 r=some o→o=.dead∧mem st.ks r=true)→(∀ r,T r→∃ o,look upd0 r=some o)→(∀ b,blkOf u=some b→∃ r o,T r∧look st.rows r=some o∧Own g w r o b) →
  ∃ v' w' g' R',(Builtin.append_ #[t,t] ty' #[u,.slice sa ys.length sc]).run P w=.ok v' w'∧Rel C g' R' ⟨st.n,st.slots,st.gt,appK [d] st.ks,addRows ((d,.seq ty (xs++ys))::upd0) st.rows⟩ a w'∧RelV g' (fun r=>mem (appK [d] st.ks) r=true) R' w' (.own d) v':=by
  intro upd0 T xs vs e' u hown hxl hby hf hdead hT2 hblk
  have hmx:xs.length+ys.length≤maxLen:=by
   have:(xs.length+ys.length) * 1≤(xs.length+ys.length) * ei.bytes:=Nat.mul_le_mul_left _ h4'
   unfold maxLen;omega
  obtain ⟨v',w',e2,hrun,hown',hgr,hat⟩:=run_append_any (P:=P) (w:=w) (ty:=ty') hel hei hez hzc u xs.length vs hown sa ys.length sc news hnl (fun h=>by rw [hnone h];rfl) hncell hone hmx hby
  have hfr:mem st.ks d=false∧d < 100000:=freshAll_spec hf d (by simp [mem])
  have hg:∀ r,mem st.ks r=true→updG g d ⟨0,v'⟩ r=g r:=fun r hr=>updG_other g _ (fun e=>by subst e;rw [hfr.1] at hr;cases hr)
  have hmem:∀ r,mem [d] r=true↔r=d:=fun r=>by rw [mem_cons];simp [mem,eq_comm]
  have hlk:∀ r o,look ((d,AObj.seq ty (xs++ys))::upd0) r=some o→(r=d∧o=.seq ty (xs++ys))∨(r≠d∧look upd0 r=some o):=fun r o h=>by
   rw [look_cons] at h
   by_cases e:d=r
   ·simp [e] at h;exact .inl ⟨e.symm,h.symm⟩
   ·simp [e] at h;exact .inr ⟨Ne.symm e,h⟩
  have hKe:(fun r=>mem (appK [d] st.ks) r=true)=(fun r=>mem st.ks r=true∨mem [d] r=true):=by
   funext r;rw [mem_appK];simp only [Bool.or_eq_true];exact propext Or.comm
  have hb1:∀ b,R b→w'.heap[b]?=w.heap[b]?:=fun b hb=>hgr.block b (hrel.heap.rlt b hb) (fun e=>by
   obtain ⟨r,o,_,h6,h7⟩:=hblk b e.symm
   exact (hrel.heap.own r o b h6 h7).1 hb)
  have hcell:∀ ad:Addr,R ad.block→w'.cell? ad=w.cell? ad:=fun ad h=>cell_of_heap (hb1 _ h)
  refine ⟨v',w',updG g d ⟨0,v'⟩,R,hrun,hrel.gen hg (fun r hr=>by rw [mem_appK,hr];simp) (fun _ h=>h) ?_,?_⟩
  ·have := hrel.heap.gen (g':=updG g d ⟨0,v'⟩) (R':=R) (w':=w') ((d,.seq ty (xs++ys))::upd0) [d] T (fun r hr=>by rw [(hmem r).1 hr];exact ⟨by rw [hfr.1];simp,hfr.2⟩)
    (fun r o h=>by rcases hlk r o h with ⟨h6,_⟩|⟨_,h6⟩;exact .inr ((hmem r).2 h6);exact .inl (hdead r o h6).2)
    (fun r h=>by obtain ⟨o,ho⟩:=hT2 r h;rw [look_cons];by_cases e:d=r;exact ⟨_,by simp [e];rfl⟩;exact ⟨o,by simp [e];exact ho⟩)
    hgr.os hgr.tape hgr.output hgr.size
    (fun b hb=>by
     by_cases e:some b=blkOf u
     ·exact .inr (hblk b e.symm)
     ·exact .inl (hgr.block b hb e))
    hg (fun _ h=>h) (fun b hb=>Nat.lt_of_lt_of_le (hrel.heap.rlt b hb) hgr.size) (fun _ h=>.inl h)
    (fun r o h=>by
     rcases hlk r o h with ⟨rfl,rfl⟩|⟨_,h6⟩
     ·refine ⟨e2,vs++news,?_,lay_append (lay_mono (fun _ _ h=>RelEl_mono (fun _ h=>h) hcell h) hxl) (lay_mono (fun _ _ h=>RelEl_mono (fun _ h=>h) hcell h) hlay),?_⟩
      ·rw [updG_same,List.length_append,← h1'];exact hown'
      ·rw [List.length_append];exact Nat.le_trans (Nat.mul_le_mul_left _ h2') hby
     ·rw [(hdead r o h6).1];trivial)
    (fun r o b h hb=>by
     rcases hlk r o h with ⟨rfl,rfl⟩|⟨_,h6⟩
     ·simp only [Own,updG_same] at hb
      rcases hat b hb with h7|h7
      ·have hb:=h7
       obtain ⟨r',o',h8,h9,h10⟩:=hblk b hb
       exact ⟨(hrel.heap.own r' o' b h9 h10).1,.inr ⟨r',o',h8,h9,h10⟩⟩
      ·subst h7
       exact ⟨fun h=>by have:=hrel.heap.rlt _ h;omega,.inl (Nat.le_refl _)⟩
     ·rw [(hdead r o h6).1] at hb;simp [Own] at hb)
    (fun r1 r2 o1 o2 b h6 h7 h8 h9=>by
     rcases hlk r1 o1 h6 with ⟨e1,_⟩|⟨_,h10⟩
     ·rcases hlk r2 o2 h7 with ⟨e2,_⟩|⟨_,h11⟩
      ·rw [e1,e2]
      ·rw [(hdead r2 o2 h11).1] at h9;simp [Own] at h9
     ·rw [(hdead r1 o1 h10).1] at h8;simp [Own] at h8)
   exact ⟨this.1.lists,this.2⟩
  ·have:=RelV.own (g:=updG g d ⟨0,v'⟩) (K:=fun r=>mem (appK [d] st.ks) r=true) (R:=R) (w:=w') (r:=d) (by simp [appK,mem_cons]) (by rw [updG_same];exact own_one hown')
   rw [updG_same] at this
   exact this
 split at h
 ·rw [ret_run h] at hf hc ⊢
  cases hs
  have hby:=hc _ (List.mem_singleton.2 rfl)
  exact fin [] (fun _=>False) [] [] el (.slice none 0 0) (ownsSeq_nil w el ei.size none) rfl (by simpa using hby) hf (fun r o h=>by simp [look] at h) (fun _ h=>h.elim) (fun b h=>by simp [blkOf] at h)
 ·rename_i r
  simp only [RQ.run] at h
  split at h <;> try (cases h;done)
  rename_i o ho
  split at h <;> try exact (fX h).elim
  split at h <;> try exact (fX h).elim
  rename_i uty xs _ hsame _
  rw [castK_eq] at h
  rw [ret_run h] at hf hc ⊢
  subst hsame
  have hby:=hc _ (List.mem_singleton.2 rfl)
  cases hs with
  | own hk _ =>
    obtain ⟨e',vs,hown,hlay',_⟩:=hrel.heap.held _ _ ho
    rw [← h1'] at hown
    exact fin [(r,.dead)] (fun r'=>r'=r) xs vs e' (g r).v hown hlay' hby hf (fun r' o h=>by
     rw [look_cons] at h
     by_cases e:r=r'
     ·simp [e] at h;exact ⟨h.symm,e ▸ hk⟩
     ·simp [e,look] at h) (fun r' h=>⟨.dead,by rw [h,look_cons];simp⟩) (fun b hb=>⟨r,_,rfl,ho,hb⟩)
 ·exact (fX h).elim
end
end Go.AM
end
