/- AmOps4. -/
import Derived.Test.YtbepaplaahcnkaaGreatPc06
import Derived.Laws.Entries
import Derived.Laws.BytesArg
import Derived.Laws.BytesString

section
set_option linter.all false
namespace Go.AM
section
variable {P:Program} {g:Nat→Gh} {K R:Nat→Prop} {w:World} {tt:TT}
theorem getI_get {α:Type} {xs:List α} {d:α} {i:Nat} (h:i < xs.length):xs[i]?=some (getI xs d i):=by
 simp [getI,List.getD,List.getElem?_eq_getElem h]
theorem loadX_sound (hT:TTok P tt) {t:TypeId} {ti:TI} (hl:look tt.1 t=some ti) {e:Ext} {u:Value} {row:Nat→Option AObj} {li:List Nat} {res:Res} {rd:List Nat}
 (h:(evLoadX ti e).run row li=some (res,rd)) (hc:∀ p∈res.conds,p) (hx:RelX R w e u):Pure P g K R w (Instr.loadAt t u) res:=by
 obtain ⟨i,z,hi,hsz,_,_,ha,_⟩:=hT.info hl
 have hag:=isAgg_run hT hl w
 unfold evLoadX at h
 split at h <;> try exact (fX h).elim
 rename_i ty xss j
 obtain ⟨b,vs,rfl,hb,hr,hcell⟩:=hx
 split at h
 ·rename_i hagg
  rw [ret_run h] at hc ⊢
  have h0:j=0:=hc _ (by simp)
  have h1:xss.length=ti.size:=hc _ (by simp)
  subst h0
  refine ⟨rfl,rfl,.agg vs.toArray,?_,.ext ⟨vs,rfl,hr⟩⟩
  have hload:=run_loadCells_list (P:=P) w ⟨b,0,none⟩ vs (fun k u hk=>by rw [add_none rfl];simpa using hcell k u hk)
  have hlen:vs.length=i.size:=by rw [hr.1,h1,hsz]
  rw [hlen] at hload
  simp [Instr.loadAt,Instr.sureAddr,loadVar,hag,hagg,run_size w hi,hload]
 ·rename_i hagg
  rw [ret_run h] at hc ⊢
  have h0:j < xss.length:=hc _ (by simp)
  have hj:j < vs.length:=by rw [hr.1];exact h0
  refine ⟨rfl,rfl,vs[j],?_,.sl (hr.2 j _ _ (List.getElem?_eq_getElem hj) (getI_get h0))⟩
  simp [Instr.loadAt,Instr.sureAddr,loadVar,hag,hagg,hcell j _ (List.getElem?_eq_getElem hj)]
theorem fieldX_sound (hT:TTok P tt) {t:TypeId} {ti:TI} (hl:look tt.1 t=some ti) {n:Nat} {x:AV} {u:Value} {row:Nat→Option AObj} {li:List Nat} {res:Res} {rd:List Nat}
 (h:(evFieldX ti n x).run row li=some (res,rd)) (hx:RelV g K R w x u):Pure P g K R w (Instr.fieldAt t u n) res:=by
 unfold evFieldX at h
 split at h
 ·rename_i ty xss j
  obtain ⟨i,z,hi,hsz,hz,hoz,ha,hd,_,_⟩:=hT.info hl
  split at h <;> try exact (fX h).elim
  rename_i fs hfs
  rw [hfs] at hd
  obtain ⟨f,hf,rfl,hinfo⟩:=td_struct hd
  split at h <;> try exact (fX h).elim
  rename_i off sz hn
  rw [nth_spec,List.getElem?_map] at hn
  cases hfn:f.toList[n]? with
  | none=>rw [hfn] at hn;cases hn
  | some fd =>
    rw [hfn] at hn
    simp only [Option.map_some,Option.some.injEq,Prod.mk.injEq] at hn
    obtain ⟨rfl,rfl⟩:=hn
    obtain ⟨fi,hfi⟩:=hinfo fd (List.mem_of_getElem? hfn)
    have hfn':f[n]?=some fd:=by simpa using hfn
    split at h <;> try exact (fX h).elim
    rename_i hz0
    have hne:=beq_ne hz0
    rw [ret_run h]
    cases hx with
    | ext hx =>
      obtain ⟨b,vs,rfl,hb,hr,hcell⟩:=hx
      rw [cellsOf_info hfi] at hne
      refine ⟨rfl,rfl,.pointer (some ⟨b,j+fd.offset,none⟩),?_,.ext ⟨b,vs,rfl,hb,hr,hcell⟩⟩
      simp [Instr.fieldAt,run_underlying hf,hfn',Instr.sureAddr,fieldPlace,run_size w hfi,hne,Addr.add_lit]
 ·exact field_sound hT hl h hx
theorem indexAddrX_sound (hT:TTok P tt) {t:TypeId} {ti:TI} (hl:look tt.1 t=some ti) {k:IntKind} {n:Int} {x:AV} {u:Value} {row:Nat→Option AObj} {li:List Nat} {res:Res} {rd:List Nat}
 (h:(evIndexAddrX ti x n).run row li=some (res,rd)) (hc:∀ p∈res.conds,p) (hx:RelV g K R w x u) (hrow:∀ r o,row r=some o→RowH g K R w r o):Pure P g K R w (Instr.indexAt t u (.int k n)) res:=by
 unfold evIndexAddrX at h
 split at h
 ·obtain ⟨i,z,hi,hsz,hz,hoz,ha,hd,_,_⟩:=hT.info hl
  split at h <;> try exact (fX h).elim
  rename_i len esz ag hfs
  rw [hfs] at hd
  obtain ⟨el,ei,hel,rfl,hei,_⟩:=td_arr hd
  rw [cellsOf_info hei] at h
  rw [ret_run h] at hc ⊢
  have h0:0≤n:=hc _ (by simp)
  have h1:=hc (n < (len:Int)) (by simp)
  cases hx with
  | ext hx =>
    obtain ⟨b,vs,rfl,hb,hr,hcell⟩:=hx
    refine ⟨rfl,rfl,.pointer (some ⟨b,_+n.toNat * ei.size,none⟩),?_,.ext ⟨b,vs,rfl,hb,hr,hcell⟩⟩
    simp [Instr.indexAt,asIntOf,run_underlying hel,Instr.sureAddr,h0,h1,run_size w hei,Addr.add_lit]
 ·exact indexAddr_sound hT hl h hc (plain_rel hx) hrow
theorem indexX_sound (hT:TTok P tt) {t:TypeId} {ti:TI} (hl:look tt.1 t=some ti) {k:IntKind} {n:Int} {x:AV} {u:Value} {row:Nat→Option AObj} {li:List Nat} {res:Res} {rd:List Nat}
 (h:(evIndexX ti x n).run row li=some (res,rd)) (hc:∀ p∈res.conds,p) (hx:RelV g K R w x u):Pure P g K R w (Instr.index t u (.int k n)) res:=by
 unfold evIndexX at h
 split at h
 ·cases hx with
  | agg hx=>exact index_sound hT hl h hc hx
 ·rename_i s0
  obtain ⟨i,z,hi,hsz,hz,hoz,ha,hd,_,_⟩:=hT.info hl
  split at h <;> try exact (fX h).elim
  rename_i hfs
  rw [hfs] at hd
  have hu:=td_str hd
  rw [ret_run h] at hc ⊢
  have h0:0≤n:=hc _ (by simp)
  have h1:=hc (n < (s0.size:Int)) (List.mem_cons_of_mem _ (List.mem_singleton.2 rfl))
  cases hx with
  | str hs =>
    have h2:n.toNat < s0.size:=by omega
    refine ⟨rfl,rfl,_,?_,.int ?_⟩
    ·simp only [Instr.index,asIntOf,Sem.run_bind,run_underlying hu,Result.andThen_ok,Sem.run_pure,h0,if_true,ByteArray.getElem?_lt' _ _ h2]
     congr 2
     simp [List.getD,Array.getElem?_toList,ByteArray.getElem_eq_getElem_data,Array.getElem?_eq_getElem (show n.toNat < s0.data.size from h2)]
    ·exact wrap_of_range ⟨by have:IntKind.u8.min=0:=by decide
                             omega, by have:IntKind.u8.max=255:=by decide
                                       have:=UInt8.toNat_lt (List.getD s0.data.toList n.toNat 0)
                                       omega⟩
 ·obtain ⟨i,z,hi,hsz,hz,hoz,ha,hd,_,_⟩:=hT.info hl
  split at h <;> try exact (fX h).elim
  rename_i len esz hfs
  rw [hfs] at hd
  obtain ⟨el,ei,hel,he,hei,hag,d,hd'⟩:=td_arr hd
  split at h <;> try exact (fX h).elim
  rename_i h1'
  have hone:=beq_eq h1'
  have hsz':ei.size=1:=by rw [← hone,he];simp [Program.cellsOf,hei]
  rw [ret_run h] at hc ⊢
  have h0:0≤n:=hc _ (by simp)
  have h1:=hc (n < (len:Int)) (by simp)
  cases hx with
  | ext hx =>
    obtain ⟨vs,rfl,hr⟩:=hx
    have h2:=hc (n < (vs.length:Int)) (by rw [hr.1];simp)
    have hlt:n.toNat < vs.length:=by omega
    refine ⟨rfl,rfl,vs[n.toNat],?_,.sl (hr.2 _ _ _ (List.getElem?_eq_getElem hlt) (getI_get (by rw [← hr.1];exact hlt)))⟩
    have hp:=run_part (P:=P) w hd' hei vs [vs[n.toNat]] (vs.drop (n.toNat * 1+1)) (n.toNat * 1) (by rw [Nat.mul_one,List.drop_eq_getElem_cons hlt];rfl) (by simp [hsz']) (fun _=>rfl)
    simp only [Instr.index,asIntOf,Sem.run_bind,run_underlying hel,Result.andThen_ok,Sem.run_pure,h0,h1,and_self,if_true,run_size w hei,hsz']
    rw [hp]
    simp [mkVal,← hag]
 ·exact (fX h).elim
theorem run_equalIn_slice (d:Nat) {t e:TypeId} (h:P.underlying t=some (.slice e)) (a:Option Addr) (n c:Nat):(Op.equalIn (d+1) t (.slice a n c) (.slice none 0 0)).run P w=.ok a.isNone w:=by
 cases a <;> simp [Op.equalIn,run_underlying h]
theorem binX_sound {strict:Bool} (hT:TTok P tt) {op:BinOp} {t:TypeId} {x y:AV} {u v:Value} {xo yo:Operand} {row:Nat→Option AObj} {li:List Nat} {res:Res} {rd:List Nat}
 (h:(evBinX strict (look tt.1 t) op x y).run row li=some (res,rd)) (hc:∀ p∈res.conds,p) (hx:RelV g K R w x u) (hy:RelV g K R w y v) :
 Pure P g K R w (do eqGuard op t xo yo u v;binOp op t u v) res:=by
 have cmp:∀ {e:Bool},(evCmp op e).run row li=some (res,rd)→(eqGuard op t xo yo u v).run P w=.ok () w→((∀ k n,u≠.int k n)∧(∀ k n,u≠.float k n)∧(∀ k n m,u≠.complex k n m)∧(∀ s,u≠.string s)) →
  (Op.equal t u v).run P w=.ok e w→Pure P g K R w (do eqGuard op t xo yo u v;binOp op t u v) res:=by
  intro e h hgd hn he
  obtain ⟨g1,g2⟩:=binOp_gen (P:=P) (w:=w) op t u v e hn he
  unfold evCmp at h
  split at h
  ·rw [b2_run h];exact ⟨rfl,rfl,_,by simp only [Sem.run_bind,hgd,Result.andThen_ok];exact g1 rfl,.bool⟩
  ·rw [b2_run h];exact ⟨rfl,rfl,_,by simp only [Sem.run_bind,hgd,Result.andThen_ok];exact g2 rfl,.bool⟩
  ·exact (fX h).elim
 unfold evBinX at h
 split at h
 ·split at h <;> try exact (fX h).elim
  rename_i hl
  obtain ⟨_,_,_,_,_,_,_,hd,_⟩:=hT.info hl
  obtain ⟨e,hu⟩:=td_ptr hd
  cases hx with
  | ext hx =>
    obtain ⟨b,vs,rfl,_⟩:=hx
    cases hy
    refine cmp h (by unfold eqGuard;simp) (by simp) ?_
    exact run_equalIn_ptrnil 9999 hu _
 ·split at h <;> try exact (fX h).elim
  rename_i hl
  obtain ⟨_,_,_,_,_,_,_,hd,_⟩:=hT.info hl
  obtain ⟨el,_,_,_,hu,_⟩:=td_slice hd
  cases hx with
  | ext hx =>
    obtain ⟨_,a,n,c,rfl⟩:=hx
    cases hy
    refine cmp h (by unfold eqGuard;simp) (by simp) ?_
    exact run_equalIn_slice 9999 hu (some a) n c
 ·split at h <;> try exact (fX h).elim
  rename_i hl
  obtain ⟨_,_,_,_,_,_,_,hd,_⟩:=hT.info hl
  obtain ⟨el,_,_,_,hu,_⟩:=td_slice hd
  cases hx with
  | ext hx =>
    obtain ⟨c,rfl,_⟩:=hx
    cases hy
    refine cmp h (by unfold eqGuard;simp) (by simp) ?_
    exact run_equalIn_slice 9999 hu none 0 c
 ·split at h <;> try exact (fX h).elim
  rename_i hl
  obtain ⟨_,_,_,_,_,_,_,hd,_⟩:=hT.info hl
  obtain ⟨el,_,_,_,hu,_⟩:=td_slice hd
  cases hx
  cases hy
  refine cmp h (by unfold eqGuard;simp) (by simp) ?_
  exact run_equalIn_slice 9999 hu none 0 0
 ·split at h <;> try exact (fX h).elim
  rename_i hl
  obtain ⟨_,_,_,_,_,_,_,hd,_⟩:=hT.info hl
  obtain ⟨e,hu⟩:=td_ptr hd
  cases hx with
  | ext hx =>
    cases hy
    rcases hx with ⟨rfl,e2⟩|⟨x,v,rfl,e2,ad,vs,e3,_⟩
    ·obtain rfl:u=.pointer none:=by simpa using e2
     refine cmp h (by unfold eqGuard;simp) (by simp) ?_
     exact run_equalIn_nilnil 9999 hu
    ·obtain rfl:u=v:=by simpa using e2
     subst e3
     refine cmp h (by unfold eqGuard;simp) (by simp) ?_
     exact run_equalIn_ptrnil 9999 hu _
 ·split at h <;> try exact (fX h).elim
  rename_i hl
  obtain ⟨_,_,_,_,_,_,_,hd,_⟩:=hT.info hl
  obtain ⟨kt,et,_,_,_,hu,_⟩:=td_map hd
  cases hx with
  | ext hx =>
    cases hy with
    | ext hy =>
      obtain ⟨o,rfl,rfl⟩:=hx
      obtain rfl:v=.map none:=hy
      refine cmp h (by unfold eqGuard;simp) (by simp) ?_
      have:∀ n,(Op.equalIn (n+1) t (.map o) (.map none)).run P w=.ok o.isNone w:=fun n=>by cases o <;> simp [Op.equalIn,run_underlying hu]
      exact this 9999
 ·exact evBin_sound hT h hc hx hy
theorem tyOf_int {e:TypeId} {k:IntKind} {n:Nat} (h:tyOf P n e=some (.int k)) (hag:isAggOf P e=false):P.underlying e=some (.int k):=by
 cases n with
 | zero=>simp [tyOf] at h
 | succ n =>
   unfold tyOf at h
   split at h
   ·rename_i k hu;cases h;exact hu
   ·cases h
   ·cases h
   ·cases hq:tyOf P n _ <;> rw [hq] at h <;> cases h
   ·cases hq:tyOf P n _ <;> rw [hq] at h <;> cases h
   ·split at h
    ·split at h <;> cases h
    ·split at h <;> cases h
    ·cases h
    ·cases h
   ·rename_i fs hu;simp [isAggOf,hu] at hag
   ·rename_i hu;simp [isAggOf,hu] at hag
   ·cases h
theorem bytes_rel {e:TypeId} {xs:List Int} {vs:List Value} {R:Nat→Prop} {w0:World} (h:lay (RelEl R w0 (.int .u8)) xs vs):vs=xs.map (Value.int .u8)∧∀ x∈xs,0≤x∧x < 256:=by
 induction xs generalizing vs with
 | nil=>exact ⟨h,fun x hx=>by simp at hx⟩
 | cons x xs ih =>
   obtain ⟨a,b,rfl,⟨rfl,hw⟩,h2⟩:=h
   obtain ⟨rfl,h3⟩:=ih h2
   have hr:=wrap_range hw
   have e0:IntKind.u8.min=0:=by decide
   have e1:IntKind.u8.max=255:=by decide
   refine ⟨rfl,fun y hy=>?_⟩
   rcases List.mem_cons.1 hy with rfl|hy
   ·omega
   ·exact h3 y hy
theorem conv_sound (hT:TTok P tt) {s t:TypeId} {si ti:TI} (hs:look tt.1 s=some si) (hl:look tt.1 t=some ti) {x:AV} {u:Value} {row:Nat→Option AObj} {li:List Nat} {res:Res} {rd:List Nat}
 (h:(evConv si ti x).run row li=some (res,rd)) (hx:RelV g K R w x u) (hrow:∀ r o,row r=some o→RowH g K R w r o):Pure P g K R w (convert s t u) res:=by
 obtain ⟨i,z,hi,hsz,hz,hoz,ha,hd,_,_⟩:=hT.info hl
 obtain ⟨_,_,_,_,_,_,_,hds,_,d,hd'⟩:=hT.info hs
 unfold evConv at h
 split at h <;> try exact (fX h).elim
 ·rename_i k k' n hk
  rw [hk] at hd
  have hu:=td_int hd
  rw [b2_run h]
  cases hx
  have hik:P.intKind t=k:=by simp [Program.intKind,hu]
  refine ⟨rfl,rfl,.int k (k.wrap n),?_,.int (wrap_wrap _ _)⟩
  have:=run_convert_int (P:=P) w s t k' n (by rw [hd'];rfl) (by rw [hik];exact hu)
  rw [hik] at this
  exact this
 ·rename_i r hk
  rw [hk] at hd
  have hu:=td_str hd
  split at h <;> try exact (fX h).elim
  rename_i ty e b zs hsd
  split at h <;> try exact (fX h).elim
  rename_i e8 _
  obtain ⟨rfl⟩:=e8
  rw [hsd] at hds
  obtain ⟨el,hel,hty,hag⟩:=td_slice_int hds
  have he8:=tyOf_int hty hag
  simp only [RQ.run] at h
  split at h <;> try (cases h;done)
  rename_i o ho
  split at h <;> try exact (fX h).elim
  rename_i u' xs
  split at h <;> try exact (fX h).elim
  rename_i hu8 _
  subst hu8
  have h:RQ.run row (b2 [] (.str (bytesS xs))) _=some (res,rd):=h
  rw [b2_run h]
  obtain ⟨e',vs,how,hlay,hbd⟩:=hrow r _ ho
  obtain ⟨rfl,hb⟩:=bytes_rel (e:=e') hlay
  cases hx with
  | own hk1 h1 =>
  have hsize:(bytesS xs).size=xs.length:=strOfNums_size xs
  refine ⟨rfl,rfl,.string (bytesS xs),?_,.str ?_⟩
  ·rcases how.2 with ⟨ad,hv,hn⟩|⟨g0,cap,cur,hv,h0,hh,hle,hc2,hcs,htk⟩
   ·rw [hv]
    have hx0:xs=[]:=List.eq_nil_of_length_eq_zero hn
    subst hx0
    cases ad with
    | none=>exact run_convert_bytes_nil w s el hel he8 0 0 t hu
    | some ad =>
      rw [run_convert_bytes_string w s t el _ 0 0 hel he8 hu,run_bytesToString w ad 0 0 [] (run_loadCells_list (P:=P) w ad [] (fun j v hj=>by simp at hj))]
      rfl
   ·rw [hv]
    refine run_convert_bytes_arg w s el hel he8 g0 0 xs.length cap xs rfl (fun i hi=>?_) t hu
    have hcc:=own_cells how hv i (.int .u8 (xs.getD i 0)) (by simp [List.getElem?_eq_getElem hi,List.getD])
    rw [Addr.add_lit] at hcc
    exact hcc
  ·rw [hsize]
   have:xs.length * 1≤140737488355328:=hbd
   unfold maxLen
   omega
end
section
variable {P:Program} {C:Ctx} {g:Nat→Gh} {R:Nat→Prop} {st:St} {a:Act} {w:World} {tt:TT}
theorem hR_w {r:Nat} {o:AObj} {b:Nat} (hrel:Rel C g R st a w) (ho:look st.rows r=some o) (hb:Own g w r o b):¬ R b:=(hrel.heap.own r o b ho hb).1
theorem cells_inj {a b:List Value} {t u:TypeId} (h:some (Obj.cells a.toArray t (0,0))=some (Obj.cells b.toArray u (0,0))):a=b:=by
 have:=congrArg (fun o=>match o with|some (Obj.cells c _ _)=>c.toList|_=>[]) h
 simpa using this
theorem take_did (hT:TTok P tt) (hrel:Rel C g R st a w) {t:TypeId} {ti:TI} (hl:look tt.1 t=some ti) {d r j:Nat} {o:AObj} {u:Value} (ho:look st.rows r=some o) {row:Nat→Option AObj} {li:List Nat} {res:Res} {rd:List Nat}
 (h:(evTake d ti r j o).run row li=some (res,rd)) (hf:freshAll st.ks res.new=true) (hc:∀ p∈res.conds,p) (hx:RelV g (fun r=>mem st.ks r=true) R w (.ptr r j) u) :
 Did P C st a w (Instr.loadAt t u) res:=by
 have hag:=isAgg_run hT hl w
 unfold evTake at h
 split at h <;> try exact (fX h).elim
 rename_i ty xss
 split at h <;> try exact (fX h).elim
 rename_i hagg
 rw [ret_run h] at hf hc ⊢
 have hj:j < xss.length:=hc _ (by simp)
 cases hx with
 | ptr hk =>
 obtain ⟨vs,cty,hh,ha⟩:=hrel.heap.held _ _ ho
 have hjv:j < vs.length:=by rw [ha.len];exact hj
 obtain ⟨v,hv⟩:∃ v,vs[j]?=some v:=⟨_,List.getElem?_eq_getElem hjv⟩
 have hel:=ha.el j v _ hv (getI_get (d:=[]) hj) (by simp)
 have hfr:mem st.ks d=false∧d < 100000:=freshAll_spec hf d (by simp [mem])
 have hg:∀ r,mem st.ks r=true→updG g d ⟨0,v⟩ r=g r:=fun r hr=>updG_other g _ (fun e=>by subst e;rw [hfr.1] at hr;cases hr)
 have hmem:∀ r,mem [d] r=true↔r=d:=fun r=>by rw [mem_cons];simp [mem,eq_comm]
 have hdr:d≠r:=fun e=>by subst e;rw [hfr.1] at hk;cases hk
 have hgr:=hg r hk
 have hlk:∀ r' o,look [(d,AObj.seq ty (getI xss [] j)),(r,.arr ty xss (some j))] r'=some o→(r'=d∧o=.seq ty (getI xss [] j))∨(r'=r∧o=.arr ty xss (some j)):=fun r' o h=>by
  rw [look_cons] at h
  by_cases e:d=r'
  ·simp [e] at h;exact .inl ⟨e.symm,h.symm⟩
  ·simp [e] at h
   rw [look_cons] at h
   by_cases e2:r=r'
   ·simp [e2] at h;exact .inr ⟨e2.symm,h.symm⟩
   ·simp [e2,look] at h
 have hcell:w.cell? ⟨(g r).b,j,none⟩=some v:=by
  have:=cell_box hh j v hv
  rw [add_none rfl] at this
  simpa using this
 have hown:∀ b,blkOf v=some b→Own g w r (.arr ty xss none) b:=fun b hb=>.inr ⟨vs,cty,j,v,hh,hv,by simp,hb⟩
 have harr:∀ b,Own (updG g d ⟨0,v⟩) w r (.arr ty xss (some j)) b→Own g w r (.arr ty xss none) b∧blkOf v≠some b:=fun b hb=>by
  rcases hb with rfl|⟨vs',cty',i,v',hh',hv',hi,hb⟩
  ·rw [hgr];exact ⟨.inl rfl,ha.off j v hv (by simp)⟩
  ·rw [hgr] at hh'
   obtain rfl:=cells_inj (hh.symm.trans hh')
   refine ⟨.inr ⟨vs,cty,i,v',hh,hv',by simp,hb⟩,fun h2=>hi ?_⟩
   rw [ha.sep j i v v' b hv hv' (by simp) (by simp) h2 hb]
 have hone:v.oneCell'=true:=ha.one v (List.mem_of_getElem? hv)
 refine ⟨v,w,updG g d ⟨0,v⟩,R,?_,hrel.gen hg (fun r hr=>by rw [mem_appK,hr];simp) (fun _ h=>h) ?_,?_⟩
 ·simp [Instr.loadAt,Instr.sureAddr,loadVar,hag,hagg,hcell]
 ·have := hrel.heap.gen (g':=updG g d ⟨0,v⟩) (R':=R) (w':=w) [(d,.seq ty (getI xss [] j)),(r,.arr ty xss (some j))] [d] (fun r'=>r'=r) (fun r hr=>by rw [(hmem r).1 hr];exact ⟨by rw [hfr.1];simp,hfr.2⟩)
   (fun r' o h=>by rcases hlk r' o h with ⟨h6,_⟩|⟨h6,_⟩;exact .inr ((hmem r').2 h6);exact .inl (h6 ▸ hk))
   (fun r' h=>⟨.arr ty xss (some j),by rw [h,look_cons,if_neg hdr,look_cons];simp⟩)
   rfl rfl rfl (Nat.le_refl _) (fun b hb=>.inl rfl) hg (fun _ h=>h) (fun b hb=>hrel.heap.rlt b hb) (fun _ h=>.inl h)
   (fun r' o h=>by
    rcases hlk r' o h with ⟨rfl,rfl⟩|⟨rfl,rfl⟩
    ·show ElemR _ _ _ _ _
     rw [updG_same];exact hel
    ·exact ⟨vs,cty,by rw [hgr];exact hh,⟨ha.len,ha.one,fun i v xs h1 h2 _=>ha.el i v xs h1 h2 (by simp),fun i v h1 _=>by rw [hgr];exact ha.off i v h1 (by simp),fun i j v u c h1 h2 _ _=>ha.sep i j v u c h1 h2 (by simp) (by simp)⟩⟩)
   (fun r' o b h hb=>by
    rcases hlk r' o h with ⟨rfl,rfl⟩|⟨rfl,rfl⟩
    ·simp only [Own,updG_same] at hb
     exact ⟨hR_w hrel ho (hown b hb),.inr ⟨_,_,rfl,ho,hown b hb⟩⟩
    ·exact ⟨hR_w hrel ho (harr b hb).1,.inr ⟨_,_,rfl,ho,(harr b hb).1⟩⟩)
   (fun r1 r2 o1 o2 b h6 h7 h8 h9=>by
    rcases hlk r1 o1 h6 with ⟨rfl,rfl⟩|⟨rfl,rfl⟩
    ·rcases hlk r2 o2 h7 with ⟨rfl,rfl⟩|⟨rfl,rfl⟩
     ·rfl
     ·simp only [Own,updG_same] at h8
      exact absurd h8 (harr b h9).2
    ·rcases hlk r2 o2 h7 with ⟨rfl,rfl⟩|⟨rfl,rfl⟩
     ·simp only [Own,updG_same] at h9
      exact absurd h9 (harr b h8).2
     ·rfl)
  exact ⟨this.1.lists,this.2⟩
 ·have:=RelV.own (g:=updG g d ⟨0,v⟩) (K:=fun r=>mem (appK [d] st.ks) r=true) (R:=R) (w:=w) (r:=d) (by simp [appK,mem_cons]) (by rw [updG_same];exact hone)
  rw [updG_same] at this
  exact this
theorem loadD_did (hT:TTok P tt) (hrel:Rel C g R st a w) {t:TypeId} {ti:TI} (hl:look tt.1 t=some ti) {d:Nat} {x:AV} {u:Value} {li:List Nat} {res:Res} {rd:List Nat}
 (h:(evLoadD d ti x).run (look st.rows) li=some (res,rd)) (hf:freshAll st.ks res.new=true) (hc:∀ p∈res.conds,p) (hx:RelV g (fun r=>mem st.ks r=true) R w x u):Did P C st a w (Instr.loadAt t u) res:=by
 unfold evLoadD at h
 split at h
 ·cases hx with
  | ext hx=>exact Pure.did hrel (loadX_sound hT hl h hc hx)
 ·simp only [RQ.run] at h
  split at h <;> try (cases h;done)
  rename_i o ho
  split at h
  ·exact take_did hT hrel hl ho h hf hc hx
  ·exact Pure.did hrel (evLoad_sound hT hl h hc hx hrel.heap.held)
 ·exact Pure.did hrel (evLoad_sound hT hl h hc hx hrel.heap.held)
theorem set_take_drop {α:Type} {l:List α} {j:Nat} {v:α} (h:j < l.length):l.take j++[v]++l.drop (j+1)=l.set j v:=by
 rw [List.set_eq_take_append_cons_drop,if_pos h];simp
theorem put_did (hT:TTok P tt) (hrel:Rel C g R st a w) {t:TypeId} {ti:TI} (hl:look tt.1 t=some ti) {r j:Nat} {o:AObj} {y:AV} {u v:Value} (ho:look st.rows r=some o) {li:List Nat} {res:Res} {rd:List Nat}
 (h:(evPut ti y r j o).run (look st.rows) li=some (res,rd)) (hc:∀ p∈res.conds,p) (hx:RelV g (fun r=>mem st.ks r=true) R w (.ptr r j) u) (hy:RelV g (fun r=>mem st.ks r=true) R w y v) :
 res.av=.junk∧∃ w',(Instr.storeAt t u v).run P w=.ok () w'∧Rel C g R ⟨st.n,st.slots,st.gt,appK res.new st.ks,addRows res.upd st.rows⟩ a w':=by
 obtain ⟨i,z,hi,hsz,hz,hoz,ha0,hd,_,_⟩:=hT.info hl
 unfold evPut at h
 split at h <;> try exact (fX h).elim
 rename_i ty xss hole
 split at h <;> try exact (fX h).elim
 rename_i m hagg hs1
 simp only [RQ.run] at h
 split at h <;> try (cases h;done)
 rename_i o2 ho2
 split at h <;> try exact (fX h).elim
 rename_i uty ys
 split at h <;> try exact (fX h).elim
 rename_i hsame _
 rw [castK_eq] at h
 subst hsame
 rw [ret_run h] at hc ⊢
 have hj:j < xss.length:=hc _ (by simp)
 have hhole:holeIs hole j:=hc _ (by simp)
 have hmr:m≠r:=fun e=>by subst e;rw [ho] at ho2;cases ho2
 cases hx with
 | ptr hk =>
 cases hy with
 | own hkm hone =>
 obtain ⟨vs,cty,hh,ha⟩:=hrel.heap.held _ _ ho
 have hem:ElemR R w uty ys (g m).v:=hrel.heap.held _ _ ho2
 have hjv:j < vs.length:=by rw [ha.len];exact hj
 have hcells:((g m).v).cells=#[(g m).v]:=cells_of_one hone
 have hisz:i.size=1:=by rw [hsz];exact beq_eq hs1
 have hst:=storeVar_run (P:=P) (t:=t) hi (off:=j) (v:=(g m).v) hh (by rw [hcells,hisz];rfl) (by rw [hcells];simp;omega) (by rw [hcells];simp;exact hone)
 have hnew:vs.toArray.toList.take j++(g m).v.cells.toList++vs.toArray.toList.drop (j+(g m).v.cells.size)=vs.set j (g m).v:=by
  rw [hcells];exact set_take_drop hjv
 rw [hnew] at hst
 have hoff:∀ i,hole≠some i∨i=j:=fun i=>by
  cases hole with
  | none=>exact .inl (by simp)
  | some k => by_cases e:i=j
              ·exact .inr e
              ·exact .inl (fun h=>e (by cases h;exact hhole))
 have hownr:Own g w r (.arr uty xss hole) (g r).b:=.inl rfl
 have hmb:∀ b,blkOf (g m).v=some b→b≠(g r).b:=fun b hb e=>hmr (hrel.heap.sep m r _ _ b ho2 ho hb (e ▸ hownr))
 have hkeep:∀ b,b≠(g r).b→(w.setRow (g r).b (vs.set j (g m).v).toArray).heap[b]?=w.heap[b]?:=fun b hb=>setRow_other w _ _ _ hb
 have hkR:∀ ad:Addr,R ad.block→(w.setRow (g r).b (vs.set j (g m).v).toArray).cell? ad=w.cell? ad:=fun ad had=>cell_of_heap (hkeep _ (fun e=>hR_w hrel ho hownr (e ▸ had)))
 have hh':(w.setRow (g r).b (vs.set j (g m).v).toArray).heap[(g r).b]?=some (.cells (vs.set j (g m).v).toArray cty (0,0)):=setRow_heap' w _ _ _ cty hh
 have hat:∀ i v,(vs.set j (g m).v)[i]?=some v→(i=j∧v=(g m).v)∨(i≠j∧vs[i]?=some v):=fun i v h=>by
  by_cases e:j=i
  ·subst e;rw [List.getElem?_set_self hjv] at h;exact .inl ⟨rfl,by simpa using h.symm⟩
  ·rw [List.getElem?_set_ne e] at h;exact .inr ⟨Ne.symm e,h⟩
 have hnh:∀ i,i≠j→hole≠some i:=fun i hi=>(hoff i).resolve_right hi
 have holdown:∀ i v b,i≠j→vs[i]?=some v→blkOf v=some b→Own g w r (.arr uty xss hole) b:=fun i v b hi hv hb=>.inr ⟨vs,cty,i,v,hh,hv,hnh i hi,hb⟩
 have hlk:∀ r' o,look [(r,AObj.arr uty (xss.set j ys) none),(m,.dead)] r'=some o→(r'=r∧o=.arr uty (xss.set j ys) none)∨(r'=m∧o=.dead):=fun r' o h=>by
  rw [look_cons] at h
  by_cases e:r=r'
  ·simp [e] at h;exact .inl ⟨e.symm,h.symm⟩
  ·simp [e] at h
   rw [look_cons] at h
   by_cases e2:m=r'
   ·simp [e2] at h;exact .inr ⟨e2.symm,h.symm⟩
   ·simp [e2,look] at h
 have hownN:∀ b,Own g (w.setRow (g r).b (vs.set j (g m).v).toArray) r (.arr uty (xss.set j ys) none) b→Own g w r (.arr uty xss hole) b∨Own g w m (.seq uty ys) b:=fun b hb=>by
  rcases hb with rfl|⟨vs',cty',i,v',h1,h2,_,hb⟩
  ·exact .inl (.inl rfl)
  ·rw [hh'] at h1
   obtain rfl:=cells_inj h1
   rcases hat i v' h2 with ⟨rfl,rfl⟩|⟨hi,h3⟩
   ·exact .inr hb
   ·exact .inl (holdown i v' b hi h3 hb)
 have hszw:(w.setRow (g r).b (vs.set j (g m).v).toArray).heap.size=w.heap.size:=by simp
 have hKe:(fun r'=>mem st.ks r'=true∨mem [] r'=true)=(fun r'=>mem st.ks r'=true):=by funext r';simp [mem]
 refine ⟨rfl,_,hst,?_⟩
 refine hrel.gen (fun _ _=>rfl) (fun _ h=>h) (fun _ h=>h) ?_
 have := hrel.heap.gen (g':=g) (R':=R) (w':=w.setRow (g r).b (vs.set j (g m).v).toArray) [(r,.arr uty (xss.set j ys) none),(m,.dead)] [] (fun r'=>r'=r∨r'=m) (fun r hr=>by simp [mem] at hr)
  (fun r' o1 h=>.inl (by rcases hlk r' o1 h with ⟨rfl,_⟩|⟨rfl,_⟩;exact hk;exact hkm))
  (fun r' h=>by
   rcases h with rfl|rfl
   ·exact ⟨_,by rw [look_cons];simp;rfl⟩
   ·exact ⟨.dead,by rw [look_cons,if_neg (Ne.symm hmr),look_cons];simp⟩)
  rfl rfl rfl (by rw [hszw];exact Nat.le_refl _) (fun b _=>by
   by_cases e:b=(g r).b
   ·exact .inr ⟨r,_,.inl rfl,ho,e ▸ hownr⟩
   ·exact .inl (hkeep b e)) (fun _ _=>rfl) (fun _ h=>h)
  (fun b hb=>by rw [hszw];exact hrel.heap.rlt b hb) (fun _ h=>.inl h)
  (fun r' o1 h=>by
   rw [hKe]
   rcases hlk r' o1 h with ⟨rfl,rfl⟩|⟨rfl,rfl⟩
   ·refine ⟨_,cty,hh',⟨by simp [ha.len],fun v hv=>?_,fun i v xs h1 h2 _=>?_,fun i v h1 _=>?_,fun i k v u c h1 h2 _ _ h3 h4=>?_⟩⟩
    ·rcases List.mem_or_eq_of_mem_set hv with hv|rfl
     ·exact ha.one v hv
     ·exact hone
    ·rcases hat i v h1 with ⟨rfl,rfl⟩|⟨hi,h3⟩
     ·rw [List.getElem?_set_self hj] at h2
      obtain rfl:ys=xs:=by simpa using h2
      exact ElemR_mono (fun _ h=>h) hkR (fun b hb=>hkeep b (hmb b hb)) hem
     ·rw [List.getElem?_set_ne (Ne.symm hi)] at h2
      exact ElemR_mono (fun _ h=>h) hkR (fun b hb=>hkeep b (fun e=>ha.off i v h3 (hnh i hi) (e ▸ hb))) (ha.el i v xs h3 h2 (hnh i hi))
    ·rcases hat i v h1 with ⟨rfl,rfl⟩|⟨hi,h3⟩
     ·exact fun h=>hmb _ h rfl
     ·exact ha.off i v h3 (hnh i hi)
    ·rcases hat i v h1 with ⟨rfl,rfl⟩|⟨hi,h5⟩
     ·rcases hat k u h2 with ⟨rfl,rfl⟩|⟨hk',h6⟩
      ·rfl
      ·exact absurd (hrel.heap.sep m _ _ _ c ho2 ho h3 (holdown k u c hk' h6 h4)) hmr
     ·rcases hat k u h2 with ⟨rfl,rfl⟩|⟨hk',h6⟩
      ·exact absurd (hrel.heap.sep m _ _ _ c ho2 ho h4 (holdown i v c hi h5 h3)) hmr
      ·exact ha.sep i k v u c h5 h6 (hnh i hi) (hnh k hk') h3 h4
   ·trivial)
  (fun r' o1 b h hb=>by
   rcases hlk r' o1 h with ⟨rfl,rfl⟩|⟨rfl,rfl⟩
   ·rcases hownN b hb with h1|h1
    ·exact ⟨hR_w hrel ho h1,.inr ⟨_,_,.inl rfl,ho,h1⟩⟩
    ·exact ⟨hR_w hrel ho2 h1,.inr ⟨_,_,.inr rfl,ho2,h1⟩⟩
   ·simp [Own] at hb)
  (fun r1 r2 o1 o2 b h6 h7 h8 h9=>by
   rcases hlk r1 o1 h6 with ⟨rfl,rfl⟩|⟨rfl,rfl⟩
   ·rcases hlk r2 o2 h7 with ⟨rfl,rfl⟩|⟨rfl,rfl⟩
    ·rfl
    ·simp [Own] at h9
   ·simp [Own] at h8)
 exact ⟨this.1.lists,this.2⟩
theorem evStore_junk {ti:TI} {x y:AV} {row:Nat→Option AObj} {li:List Nat} {res:Res} {rd:List Nat} (h:(evStore ti y x).run row li=some (res,rd)):res.av=.junk:=by
 unfold evStore at h
 split at h <;> try exact (fX h).elim
 ·simp only [RQ.run] at h
  split at h <;> try (cases h;done)
  split at h <;> try exact (fX h).elim
  split at h <;> try exact (fX h).elim
  rw [ret_run h]
 ·simp only [RQ.run] at h
  split at h <;> try (cases h;done)
  split at h <;> try exact (fX h).elim
  split at h <;> try exact (fX h).elim
  split at h <;> try exact (fX h).elim
  rw [ret_run h]
theorem storeD_did (hT:TTok P tt) (hrel:Rel C g R st a w) {t:TypeId} {ti:TI} (hl:look tt.1 t=some ti) {x y:AV} {u v:Value} {li:List Nat} {res:Res} {rd:List Nat}
 (h:(evStoreD ti y x).run (look st.rows) li=some (res,rd)) (hc:∀ p∈res.conds,p) (hx:RelV g (fun r=>mem st.ks r=true) R w x u) (hy:RelV g (fun r=>mem st.ks r=true) R w y v) :
 res.av=.junk∧∃ w',(Instr.storeAt t u v).run P w=.ok () w'∧Rel C g R ⟨st.n,st.slots,st.gt,appK res.new st.ks,addRows res.upd st.rows⟩ a w':=by
 unfold evStoreD at h
 split at h
 ·simp only [RQ.run] at h
  split at h <;> try (cases h;done)
  rename_i o ho
  split at h
  ·exact put_did hT hrel hl ho h hc hx hy
  ·exact ⟨evStore_junk h,store_did hT hrel hl h hc hx hy⟩
 ·exact ⟨evStore_junk h,store_did hT hrel hl h hc hx hy⟩
theorem part_did (hT:TTok P tt) (hrel:Rel C g R st a w) {t:TypeId} {ti:TI} (hl:look tt.1 t=some ti) {r esz:Nat} {k:IntKind} {l:Int} {uty:Ty} {xs:List uty.El} {u:Value} {ty:Ty} {bytes:Nat} {z:List AV} (hfs:ti.d=.slice ty esz bytes z)
 (ho:look st.rows r=some (.seq uty xs)) (hes:esz=uty.size) (h0:0≤l) (h1:l < xs.length) (hx:RelV g (fun r=>mem st.ks r=true) R w (.own r) u) :
 Pure P g (fun r=>mem st.ks r=true) R w (Instr.slice t u (some (.int k l)) none none) ⟨[0≤l,l < xs.length],.part r esz l.toNat,[],[]⟩:=by
 obtain ⟨i,z,hi,hsz,hz,hoz,ha,hd,_,_⟩:=hT.info hl
 rw [hfs] at hd
 obtain ⟨el,ei,_,_,hel,hei,_,hesz,_⟩:=td_slice hd
 cases hx with
 | own hk _ =>
   obtain ⟨e,vs,hown,hlay,_⟩:=hrel.heap.held _ _ ho
   rcases hown.2 with ⟨_,_,hn0⟩|⟨b,cap,cur,hv,hc0,_,hnc,hcm,_⟩
   ·omega
   ·have hb:=sliceBound_run (P:=P) (w:=w) (y:=xs.length) (k:=k) (c:=.sliceB) h0 (Int.le_of_lt h1)
    refine ⟨rfl,rfl,.slice (some ⟨b,l.toNat * esz,none⟩) (xs.length - l.toNat) (cap - l.toNat),?_,.part hk hv (by omega)⟩
    rw [hv]
    have hne:¬ cap=l.toNat:=by omega
    simp [Instr.slice,run_underlying hel,Instr.sliceBounds,hb,run_size w hei,hne,Addr.add_lit,hesz]
theorem sliceX_did (hT:TTok P tt) (hrel:Rel C g R st a w) {t:TypeId} {ti:TI} (hl:look tt.1 t=some ti) {d:Nat} {x:AV} {u:Value} {lo hi mx:Option Operand} {get:Operand→AV} {ρ:Operand→Value} {li:List Nat} {res:Res} {rd:List Nat}
 (h:(evSliceX d ti x (lo.map get) (hi.map get) (mx.map get)).run (look st.rows) li=some (res,rd)) (hf:freshAll st.ks res.new=true) (hc:∀ p∈res.conds,p) (hx:RelV g (fun r=>mem st.ks r=true) R w x u)
 (hlo:∀ y∈lo.toList,RelV g (fun r=>mem st.ks r=true) R w (get y) (ρ y)) (hhi:∀ y∈hi.toList,RelV g (fun r=>mem st.ks r=true) R w (get y) (ρ y)) (hmx:∀ y∈mx.toList,RelV g (fun r=>mem st.ks r=true) R w (get y) (ρ y)) :
 Did P C st a w (Instr.sliceAt t u (lo.map ρ) (hi.map ρ) (mx.map ρ)) res:=by
 obtain ⟨i,z,hi',hsz,hz,hoz,ha,hd,_,_⟩:=hT.info hl
 have at':∀ {ty esz bytes zs},ti.d=.slice ty esz bytes zs→∀ x y m,Instr.sliceAt t u x y m=Instr.sliceAt t u x y m∧(Instr.sliceAt t u x y m).run P w=(Instr.slice t u x y m).run P w:=fun hfs x y m=>by
  rw [hfs] at hd
  obtain ⟨el,ei,ez,ec,hel,hei,_⟩:=td_slice hd
  exact ⟨rfl,by simp [Instr.sliceAt,run_underlying hel]⟩
 unfold evSliceX at h
 split at h
 ·rename_i hmx'
  have hm0:mx=none:=by cases mx with
   | none=>rfl
   | some _=>simp at hmx'
  subst hm0
  split at h
  ·rename_i r k l hlo' hhi'
   have hh0:hi=none:=by cases hi with
    | none=>rfl
    | some _=>simp at hhi'
   subst hh0
   cases lo with
   | none=>simp at hlo'
   | some lo =>
     have hvl:=hlo lo (by simp)
     simp only [Option.map_some,Option.some.injEq] at hlo'
     rw [hlo'] at hvl
     split at h <;> try exact (fX h).elim
     rename_i ty esz bytes zs hfs
     simp only [RQ.run] at h
     split at h <;> try (cases h;done)
     rename_i o ho
     split at h <;> try exact (fX h).elim
     rename_i uty xs
     split at h <;> try exact (fX h).elim
     rename_i hes
     rw [ret_run h] at hc ⊢
     have hp:=part_did (k:=k) hT hrel hl hfs ho (beq_eq hes) (hc (0≤l) (by simp)) (hc (l < xs.length) (by simp)) hx
     obtain ⟨v,w',g',R',h1,h2,h3⟩:=Pure.did hrel hp
     refine ⟨v,w',g',R',?_,h2,h3⟩
     rw [(at' hfs _ _ _).2,← h1]
     simp only [Option.map_some,Option.map_none]
     generalize hec:ρ lo=vl at hvl
     cases hvl
     rfl
  ·exact sliceAt_did hT hrel hl h hf hc (plain_rel hx) hlo hhi
 ·rename_i k m hmx'
  cases mx with
  | none=>simp at hmx'
  | some mx =>
  simp only [Option.map_some,Option.some.injEq] at hmx'
  have hvm:=hmx mx (by simp)
  rw [hmx'] at hvm
  split at h <;> try exact (fX h).elim
  rename_i uty xs k' hh hpl hhi'
  cases hi with
  | none=>simp at hhi'
  | some hi =>
  simp only [Option.map_some,Option.some.injEq] at hhi'
  have hvh:=hhi hi (by simp)
  rw [hhi'] at hvh
  split at h <;> try exact (fX h).elim
  rename_i ty esz bytes zs hfs
  split at h <;> try exact (fX h).elim
  rename_i l hes hbl
  rw [ret_run h] at hc ⊢
  have hl0:0≤l:=hc _ (by simp)
  have hlh:l≤hh:=hc _ (by simp)
  have hhn:hh≤xs.length:=hc _ (by simp)
  have hmh:m=hh:=hc _ (by simp)
  subst hmh
  have hfs':=hfs
  rw [hfs] at hd
  obtain ⟨el,ei,ez,ec,hel,hei,_,rfl,rfl,hez,hoez,rfl⟩:=td_slice hd
  have h1':ei.size=uty.size:=beq_eq hes
  have hx':=plain_rel hx
  rw [hpl] at hx'
  cases hx' with
  | sl hr =>
    obtain ⟨sa,cap,rfl,hn1,hn2,hn3,hn4⟩:=hr
    have b0:=sliceBound_run (P:=P) (w:=w) (y:=cap) (k:=k) (c:=.slice3Acap) (n:=m) (by omega) (by omega)
    have b1:=sliceBound_run (P:=P) (w:=w) (y:=m.toNat) (k:=k') (c:=.slice3B) (n:=m) (by omega) (by omega)
    have hlen:((xs.take m.toNat).drop l.toNat).length=m.toNat - l.toNat:=by rw [List.length_drop,List.length_take];omega
    refine Pure.did hrel ⟨rfl,rfl,.slice (if m.toNat=l.toNat then sa else sa.map (·.add (l.toNat * ei.size))) (m.toNat - l.toNat) (m.toNat - l.toNat),?_,?_⟩
    ·rw [(at' hfs' _ _ _).2]
     generalize hem:ρ mx=vm at hvm
     generalize heh:ρ hi=vh at hvh
     cases hvm
     cases hvh
     cases lo with
     | none =>
       simp only [Option.map_none,boundOf,Option.some.injEq] at hbl
       subst hbl
       simp [Instr.slice,run_underlying hel,Instr.sliceBounds,run_size w hei,hem,heh,b0,b1]
     | some lo =>
       have hvl:=hlo lo (by simp)
       simp only [Option.map_some] at hbl
       generalize get lo=av at hbl hvl
       cases av <;> simp [boundOf] at hbl
       subst hbl
       generalize hel':ρ lo=vl at hvl
       cases hvl
       rename_i kk nn _
       have b2:=sliceBound_run (P:=P) (w:=w) (y:=m.toNat) (k:=kk) (c:=.slice3C) (n:=nn) hl0 (by omega)
       simp [Instr.slice,run_underlying hel,Instr.sliceBounds,run_size w hei,hem,heh,hel',b0,b1,b2]
    ·refine .ext ⟨⟨_,m.toNat - l.toNat,by rw [hlen],by omega,by omega,by omega,fun hp=>?_⟩,_,by rw [hlen]⟩
     rw [hlen] at hp
     obtain ⟨ad,vs,rfl,hspot,hRb,hlay,hcell⟩:=hn4 (by omega)
     refine ⟨ad.add (l.toNat * ei.size),(vs.take (m.toNat * uty.size)).drop (l.toNat * uty.size),?_,?_,?_,?_,?_⟩
     ·rw [if_neg (by omega)];rfl
     ·rw [add_none hspot]
     ·rw [add_none hspot];exact hRb
     ·exact lay_drop (fun _ _ h=>RelEl_len h) (lay_take (fun _ _ h=>RelEl_len h) hlay)
     ·intro j u hu
      rw [add_add',h1']
      refine hcell _ u ?_
      rw [List.getElem?_drop] at hu
      rw [List.getElem?_take] at hu
      split at hu
      ·exact hu
      ·cases hu
 ·exact (fX h).elim
theorem appendX_did (hT:TTok P tt) (hrel:Rel C g R st a w) {t ty':TypeId} {ti:TI} (hl:look tt.1 t=some ti) {d:Nat} {s x:AV} {u v:Value} {li:List Nat} {res:Res} {rd:List Nat}
 (h:(evAppendX d ti s x).run (look st.rows) li=some (res,rd)) (hf:freshAll st.ks res.new=true) (hc:∀ p∈res.conds,p) (hs:RelV g (fun r=>mem st.ks r=true) R w s u) (hx:RelV g (fun r=>mem st.ks r=true) R w x v) :
 Did P C st a w (Builtin.append_ #[t,t] ty' #[u,v]) res:=by
 unfold evAppendX at h
 split at h
 ·rename_i uty xs
  obtain ⟨i,z,hi,hsz,hz,hoz,ha,hd,_,_⟩:=hT.info hl
  split at h <;> try exact (fX h).elim
  rename_i ty esz bytes zs hfs
  rw [hfs] at hd
  obtain ⟨el,ei,ez,ec,hel,hei,_,rfl,rfl,hez,hoez,rfl⟩:=td_slice hd
  split at h <;> try exact (fX h).elim
  rename_i h1 h2 h3 h4 h5
  have h1':ei.size=ty.size:=beq_eq h1
  have h2':ty.bytes≤ei.bytes:=by simpa using h2
  have h4':1≤ei.bytes:=by simpa using h4
  rw [run_bind] at h
  split at h <;> try (cases h;done)
  rename_i ys l' hys
  split at h <;> try exact (fX h).elim
  rename_i hsame _
  rw [castK_eq] at h
  subst hsame
  rw [ret_run h] at hf hc ⊢
  have hpos:0 < ys.length:=hc _ (by simp)
  have hby:(xs.length+ys.length) * ei.bytes≤140737488355328:=hc _ (by simp [Ty.castL])
  obtain ⟨sa,sc,rfl,hyl,hnone,hsome⟩:=listOf_sound hys (plain_rel hx) hrel.heap.held
  have hzc:ez.cells.size=ei.size:=by
   have hz0:=ofZero_rel (g:=g) (K:=fun r=>mem st.ks r=true) (R:=R) (w:=w) hoez
   have hzc:=RelL_len (cells_rel hz0 (ofZero_cell hoez))
   have h6:=beq_eq h5
   rw [lenL_spec] at h6
   rw [h6] at hzc
   simpa using hzc
  cases sa with
  | none=>rw [hnone rfl] at hpos;simp at hpos
  | some ad =>
  obtain ⟨news,hlay,hncell⟩:=hsome ad rfl
  have hnl:news.length=ys.length * ei.size:=by rw [h1'];exact lay_length (fun _ _ h=>RelEl_len h) hlay
  cases hs with
  | ext hs =>
  obtain ⟨⟨_,cap0,hcap0,_,_,hxm,hrd⟩,a0,rfl⟩:=hs
  have hmx:xs.length+ys.length≤maxLen:=by
   have:(xs.length+ys.length) * 1≤(xs.length+ys.length) * ei.bytes:=Nat.mul_le_mul_left _ h4'
   unfold maxLen;omega
  have hsmall:xs.length+ys.length≤9223372036854775807:=by simp only [maxLen] at hmx;omega
  injection hcap0 with ea _ _
  obtain ⟨olds,holay,hocell⟩:∃ olds,lay (RelEl R w uty) xs olds∧(∀ ad,a0=some ad→∀ j u,olds[j]?=some u→w.cell? (ad.add j)=some u)∧(a0=none→olds=[]):=by
   rcases Nat.eq_zero_or_pos xs.length with h0|h0
   ·have:xs=[]:=List.eq_nil_of_length_eq_zero h0
    subst this
    exact ⟨[],rfl,fun ad _ j u h=>by simp at h,fun _=>rfl⟩
   ·obtain ⟨ad0,vs,e1,_,_,h6,h7⟩:=hrd h0
    rw [← ea] at e1
    exact ⟨vs,h6,fun ad e=>by rw [e1] at e;cases e;exact h7,fun e=>by rw [e1] at e;cases e⟩
  have hol:olds.length=xs.length * ei.size:=by rw [h1'];exact lay_length (fun _ _ h=>RelEl_len h) holay
  obtain ⟨cap,cur,hrun,hcapge,hcapm,hcur,htake⟩:∃ cap cur,(Builtin.append_ #[t,t] ty' #[.slice a0 xs.length xs.length,.slice (some ad) ys.length sc]).run P w =
   .ok (.slice (some ⟨w.heap.size,0,none⟩) (xs.length+ys.length) cap) (w.drew.alloc (.cells cur el))∧xs.length+ys.length≤cap∧cap≤maxLen∧cur.size=cap * ei.size∧cur.toList.take ((xs.length+ys.length) * ei.size)=olds++news:=by
   have hlen:(olds++news).length=(xs.length+ys.length) * ei.size:=by rw [List.length_append,hol,hnl,Nat.add_mul]
   have hgrow:∀ old,(olds.toArray++news.toArray++Builtin.zeroCells ez.cells (grownCap w (xs.length+ys.length) old el - (xs.length+ys.length))).size=grownCap w (xs.length+ys.length) old el * ei.size ∧
    (olds.toArray++news.toArray++Builtin.zeroCells ez.cells (grownCap w (xs.length+ys.length) old el - (xs.length+ys.length))).toList.take ((xs.length+ys.length) * ei.size)=olds++news:=fun old=>by
    have hge:=grownCap_ge w (xs.length+ys.length) old el
    constructor
    ·simp only [Array.size_append,List.size_toArray,size_zeroCells,hzc,hol,hnl,← Nat.add_mul]
     congr 1
     omega
    ·simp only [Array.toList_append,List.append_assoc]
     rw [← List.append_assoc,← hlen]
     exact List.take_left
   cases a0 with
   | some ad0 =>
     have hr:=run_append_grow (P:=P) w t ty' el ei ez hel hei hez ad0 xs.length xs.length olds hol (hocell.1 ad0 rfl) ad ys.length sc news hnl hncell (by omega) (by omega) (growslice_fits (by omega) hby)
     exact ⟨_,_,hr,grownCap_ge w _ _ el,grownCap_le_maxLen w _ _ el hmx,(hgrow _).1,(hgrow _).2⟩
   | none =>
     have ho0:=hocell.2 rfl
     have hx0:xs.length=0:=by
      rcases Nat.eq_zero_or_pos xs.length with h0|h0
      ·exact h0
      ·obtain ⟨ad0,_,e1,_⟩:=hrd h0
       rw [← ea] at e1;cases e1
     subst ho0
     have hr:=run_append_nil (P:=P) w t ty' el ei ez hel hei hez ad ys.length sc news hnl hncell hpos (by omega) (by have hb:=hby;rw [hx0,Nat.zero_add] at hb;omega)
     have hg0:=hgrow 0
     rw [hx0] at hg0 ⊢
     simp only [Nat.zero_add,List.nil_append,Array.empty_append] at hg0 ⊢
     exact ⟨_,_,hr,grownCap_ge w _ _ el,grownCap_le_maxLen w _ _ el (by omega),hg0.1,hg0.2⟩
  have hw2:=hrel.world (w':=w.drew) rfl rfl rfl (Nat.le_refl _) (fun _ _=>rfl)
  have hlx:∀ x vs,RelEl R w uty x vs→RelEl R w.drew uty x vs:=fun x vs h=>RelEl_mono (w:=w) (w':=w.drew) (fun _ h=>h) (fun _ _=>rfl) h
  have hlay2:lay (RelEl R w.drew uty) (xs++ys) (olds++news):=lay_append (lay_mono hlx holay) (lay_mono hlx hlay)
  have hd2:=seq_did hw2 (d:=d) (e:=el) (cur:=cur) (cap:=cap) (t:=uty) (xs:=xs++ys) hf hlay2 (by rw [List.length_append];exact hcapge) hcapm (by rw [hcur,h1']) (by rw [List.length_append,← h1'];exact htake)
   (by rw [List.length_append];exact Nat.le_trans (Nat.mul_le_mul_left _ h2') hby)
  rw [List.length_append] at hd2
  exact ⟨_,_,_,_,hrun,hd2.1,hd2.2⟩
 ·exact append_did hT hrel hl h hf hc hs (plain_rel hx)
theorem flatten_len {α:Type} (z:List α):∀ n,(List.replicate n z).flatten.length=n * z.length
 | 0=>by simp
 | n+1=>by rw [List.replicate_succ,List.flatten_cons,List.length_append,flatten_len z n,Nat.succ_mul,Nat.add_comm]
theorem lay_rep {α:Type} {p:α→List Value→Prop} {y:α} {vs:List Value} (h:p y vs):∀ n,lay p (List.replicate n y) (List.replicate n vs).flatten
 | 0=>rfl
 | n+1=>⟨vs,_,by rw [List.replicate_succ,List.flatten_cons],h,lay_rep h n⟩
theorem clear_did (hT:TTok P tt) (hrel:Rel C g R st a w) {t ty':TypeId} {ti:TI} (hl:look tt.1 t=some ti) {x:AV} {u:Value} {li:List Nat} {res:Res} {rd:List Nat}
 (h:(evClear ti x).run (look st.rows) li=some (res,rd)) (hc:∀ p∈res.conds,p) (hx:RelV g (fun r=>mem st.ks r=true) R w x u) :
 Did P C st a w (Builtin.clear_ #[t] ty' #[u]) res:=by
 obtain ⟨i,z,hi,hsz,hz,hoz,ha,hd,_,_⟩:=hT.info hl
 unfold evClear at h
 split at h <;> try exact (fX h).elim
 rename_i r sz l
 split at h <;> try exact (fX h).elim
 rename_i ty esz bytes zs hfs
 rw [hfs] at hd
 obtain ⟨el,ei,ez,ec,hel,hei,_,rfl,rfl,hez,hoez,rfl⟩:=td_slice hd
 simp only [RQ.run] at h
 split at h <;> try (cases h;done)
 rename_i o ho
 split at h <;> try exact (fX h).elim
 rename_i uty xs
 split at h <;> try exact (fX h).elim
 rename_i y h1 h2 h3 h4 hdec
 rw [ret_run h] at hc ⊢
 have h1':=beq_eq h1
 have h2':ei.size=uty.size:=beq_eq h2
 have h3':1≤ei.size:=by simpa using h3
 subst h1'
 have hz0:=ofZero_rel (g:=g) (K:=fun r=>mem st.ks r=true) (R:=R) (w:=w) hoez
 have hzr:=cells_rel hz0 (ofZero_cell hoez)
 obtain ⟨us,ws,ezs,hyr,hws⟩:=dec_rel hdec hzr
 cases hws
 rw [List.append_nil] at ezs
 have hzl:us.length=uty.size:=RelEl_len hyr
 cases hx with
 | part hk hg hlt =>
   rename_i b n cap
   obtain ⟨e,vs,hown,hlay,hby⟩:=hrel.heap.held _ _ ho
   rcases hown.2 with ⟨a',hv,hn0⟩|⟨b',cap',cur,hv,hb0,hh,hle,hmx,hcur,htake⟩
   ·rw [hg] at hv;injection hv with _ hv _;omega
   rw [hg] at hv
   injection hv with hv1 hv2 hv3
   injection hv1 with hv1
   injection hv1 with hv1
   subst hv1 hv2 hv3
   have hb1:Own g w r (.seq uty xs) b:=by simp only [Own];rw [hg,blkOf_pos hb0]
   have hvl:vs.length=xs.length * uty.size:=hown.1
   obtain ⟨m,hm⟩:∃ m,xs.length - l=m+1:=⟨xs.length - l - 1,by omega⟩
   have hzz:(Builtin.zeroCells ez.cells (m+1)).toList=(List.replicate (m+1) us).flatten:=by
    have := toList_rep ez.cells (m + 1) (.inl (by have:ez.cells.size=us.length:=by rw [← ezs];simp
                                                  omega))
    rw [ezs] at this
    exact this
   have hzone:∀ v∈(List.replicate (m+1) us).flatten,v.oneCell'=true:=by
    intro v hv
    obtain ⟨q,hq,hvq⟩:=List.mem_flatten.1 hv
    rw [(List.mem_replicate.1 hq).2] at hvq
    exact RelEl_one hyr v hvq
   have hzlen:(List.replicate (m+1) us).flatten.length=(m+1) * uty.size:=by rw [flatten_len,hzl]
   have hxl:l * uty.size+(m+1) * uty.size=xs.length * uty.size:=by rw [← Nat.add_mul];congr 1;omega
   have hcs:xs.length * uty.size≤cur.size:=by rw [hcur];exact Nat.mul_le_mul_right _ hle
   have hst:=run_storeCells_at P b (l * uty.size) e (List.replicate (m+1) us).flatten 0 cur w hh (by rw [hzlen];omega) hzone
   simp only [Nat.add_zero,hzlen] at hst
   have hfin:cur.toList.take (l * uty.size)++(List.replicate (m+1) us).flatten++cur.toList.drop (l * uty.size+(m+1) * uty.size)=(vs.take (l * uty.size)++(List.replicate (m+1) us).flatten)++cur.toList.drop (xs.length * uty.size):=by
    rw [hxl,← htake,List.take_take,Nat.min_eq_left (by omega)]
   rw [hfin] at hst
   have hkeep:∀ ad:Addr,R ad.block→(w.setRow b (vs.take (l * uty.size)++(List.replicate (m+1) us).flatten++cur.toList.drop (xs.length * uty.size)).toArray).cell? ad=w.cell? ad:=fun ad had=>cell_of_heap (setRow_other w _ _ _ (fun e=>(hrel.heap.own r _ b ho hb1).1 (e ▸ had)))
   have hxn:(xs.take l++List.replicate (xs.length - l) y).length=xs.length:=by simp;omega
   have htl:(vs.take (l * uty.size)).length=l * uty.size:=by rw [List.length_take,hvl];omega
   refine ⟨.tuple #[],w.setRow b (vs.take (l * uty.size)++(List.replicate (m+1) us).flatten++cur.toList.drop (xs.length * uty.size)).toArray,g,R,?_,hrel.set1 ho hb1 (fun _ h=>h) hh ?_,.junk⟩
   ·rw [show xs.length - l=m+1 from hm]
    simp only [Builtin.clear_,List.getElem?_toArray,List.getElem?_cons_zero,Sem.run_bind,run_underlying hel,Result.andThen_ok,run_zero w hei hez,hzz,hst,Sem.run_pure]
   ·refine ⟨e,vs.take (l * uty.size)++(List.replicate (m+1) us).flatten,⟨?_,.inr ⟨b,cap,_,by rw [hg,hxn],hb0,setRow_heap' w _ _ _ e hh,by rw [hxn];exact hle,hmx,?_,?_⟩⟩,?_,by rw [hxn];exact hby⟩
    ·rw [hxn,List.length_append,htl,hzlen,hxl]
    ·rw [← hcur];simp [htl,hzlen];omega
    ·rw [hxn,List.take_append_of_le_length (by rw [List.length_append,htl,hzlen,hxl];exact Nat.le_refl _),List.take_of_length_le (by rw [List.length_append,htl,hzlen,hxl];exact Nat.le_refl _)]
    ·rw [hm]
     exact lay_mono (fun _ _ h=>RelEl_mono (fun _ h=>h) hkeep h) (lay_append (lay_take (fun _ _ h=>RelEl_len h) hlay) (lay_rep hyr (m+1)))
end
end Go.AM
end
