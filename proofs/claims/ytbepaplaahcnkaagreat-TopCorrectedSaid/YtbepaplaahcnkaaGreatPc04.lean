/- AmOps2. -/
import Derived.Test.YtbepaplaahcnkaaGreatPc03

section
set_option linter.all false
namespace Go.AM
theorem add_add' (a:Addr) (i j:Nat):(a.add i).add j=a.add (i+j):=by
 unfold Addr.add
 by_cases hi:i=0 <;> by_cases hj:j=0 <;> simp [hi,hj,Nat.add_assoc]
theorem add_none {a:Addr} (h:a.spot=none) (i:Nat):a.add i=⟨a.block,a.off+i,none⟩:=by
 unfold Addr.add
 by_cases hi:i=0
 ·subst hi;cases a;simp at h;simp [h]
 ·simp [hi]
section
variable {P:Program} {g:Nat→Gh} {K R:Nat→Prop} {w:World} {tt:TT}
theorem isAgg_run {t:TypeId} {ti:TI} (hT:TTok P tt) (hl:look tt.1 t=some ti) (w:World):(isAgg t).run P w=.ok ti.agg w:=by
 obtain ⟨i,z,hi,_,_,_,ha,_,_,d,hd⟩:=hT.info hl
 rw [run_isAgg hd,ha]
theorem loadC_sound (hT:TTok P tt) {t:TypeId} {ti:TI} (hl:look tt.1 t=some ti) {cs:List AV} {vs:List Value} {ad:Addr} {j:Nat} {row:Nat→Option AObj} {li:List Nat} {res:Res} {rd:List Nat}
 (h:(loadC ti cs j).run row li=some (res,rd)) (hr:RelL g K R w cs vs) (hc:∀ k u,vs[k]?=some u→w.cell? (ad.add k)=some u) :
 Pure P g K R w (Instr.loadAt t (.pointer (some (ad.add j)))) res:=by
 obtain ⟨i,z,hi,hsz,_,_,ha,_⟩:=hT.info hl
 have hag:=isAgg_run hT hl w
 unfold loadC at h
 split at h
 ·rename_i hagg
  split at h
  ·rename_i l hl'
   rw [b2_run h]
   obtain ⟨e1,e2⟩:=takeL_spec hl'
   rw [dropL_spec] at e1
   have hrel:=RelL_take (RelL_drop hr j) ti.size
   rw [← e1] at hrel
   have hlen:=RelL_len hrel
   refine ⟨rfl,rfl,_,?_,.agg hrel⟩
   have hload:=run_loadCells_list (P:=P) w (ad.add j) ((vs.drop j).take ti.size) (fun k u hk=>by
    rw [add_add']
    refine hc _ _ ?_
    rw [List.getElem?_take] at hk
    split at hk
    ·rwa [List.getElem?_drop] at hk
    ·cases hk)
   rw [hlen,e2] at hload
   simp [Instr.loadAt,Instr.sureAddr,loadVar,hag,hagg,run_size w hi,hsz,hload]
  ·exact (fX h).elim
 ·rename_i hagg
  split at h
  ·rename_i v hv
   rw [b2_run h]
   rw [nth_spec] at hv
   obtain ⟨u,hu1,hu2⟩:=RelL_get hr hv
   refine ⟨rfl,rfl,u,?_,hu2⟩
   simp [Instr.loadAt,Instr.sureAddr,loadVar,hag,hagg,hc _ _ hu1]
  ·exact (fX h).elim
theorem cell_box {b:Nat} {vs:List Value} {t:TypeId} (h:w.heap[b]?=some (.cells vs.toArray t (0,0))):∀ k u,vs[k]?=some u→w.cell? ((⟨b,0,none⟩:Addr).add k)=some u:=by
 intro k u hk
 rw [add_none rfl,cell_of_row w b (0+k) vs.toArray t (0,0) h]
 simpa using hk
theorem lay_at {α:Type} {p:α→List Value→Prop} {n:Nat} (hn:∀ x vs,p x vs→vs.length=n) (d:α) {xs:List α} {vs:List Value} {i:Nat} (h:lay p xs vs) (hi:i < xs.length) {ad:Addr} (hc:∀ k u,vs[k]?=some u→w.cell? (ad.add k)=some u) :
 ∃ b,p (getI xs d i) b∧∀ k u,b[k]?=some u→w.cell? ((ad.add (i * n)).add k)=some u:=by
 obtain ⟨a,b,c,e,hl,hp⟩:=lay_get hn d i h hi
 refine ⟨b,hp,fun k u hk=>?_⟩
 rw [add_add']
 refine hc _ _ ?_
 have hb:k < b.length:=by
  rcases Nat.lt_or_ge k b.length with h'|h'
  ·exact h'
  ·rw [List.getElem?_eq_none h'] at hk;cases hk
 rw [e,← hl,List.getElem?_append_right (by omega),List.getElem?_append_left (by omega)]
 simpa using hk
theorem own_cells {e:TypeId} {size n:Nat} {v:Value} {xs:List Value} {b m cap:Nat} (h:ownsSeq w e size v n xs) (hv:v=.slice (some ⟨b,0,none⟩) m cap):∀ k u,xs[k]?=some u→w.cell? ((⟨b,0,none⟩:Addr).add k)=some u:=by
 subst hv
 rcases ownsSeq_row h with ⟨a,_,_,rfl⟩|⟨h1,_⟩
 ·intro k u hu;simp at hu
 ·exact h1.cells (g:=b) rfl
theorem evLoad_sound (hT:TTok P tt) {t:TypeId} {ti:TI} (hl:look tt.1 t=some ti) {x:AV} {u:Value} {row:Nat→Option AObj} {li:List Nat} {res:Res} {rd:List Nat}
 (h:(evLoad ti x).run row li=some (res,rd)) (hc:∀ p∈res.conds,p) (hx:RelV g K R w x u) (hrow:∀ r o,row r=some o→RowH g K R w r o):Pure P g K R w (Instr.loadAt t u) res:=by
 unfold evLoad at h
 split at h
 ·cases hx with
  | ptr hk =>
    simp only [RQ.run] at h
    split at h
    ·rename_i o ho
     split at h
     ·obtain ⟨vs,ty,hh,hrel,_⟩:=hrow _ _ ho
      have:=loadC_sound (g:=g) (K:=K) hT hl (ad:=⟨(g _).b,0,none⟩) h hrel (cell_box hh)
      rw [add_none rfl] at this
      simpa using this
     ·exact (fX h).elim
    ·cases h
 ·cases hx with
  | el hi hr =>
    obtain ⟨ad,vs,rfl,hs,_,hlay,hcell⟩:=hr
    obtain ⟨b,hp,hb⟩:=lay_at (n:=Ty.size _) (fun _ _ h=>RelEl_len h) (Ty.dflt _) hlay hi hcell
    have:=loadC_sound (g:=g) (K:=K) hT hl h (RelEl_enc hp) hb
    rwa [add_add'] at this
 ·cases hx with
  | oel hk hg =>
    simp only [RQ.run] at h
    split at h
    ·rename_i o ho
     split at h
     ·split at h
      ·rename_i hsz
       obtain ⟨e,vs,hown,hlay,_⟩:=hrow _ _ ho
       unfold withC at h
       rw [run_bind] at h
       split at h
       ·rename_i res' l' h'
        obtain ⟨c,av,up,nw⟩:=res'
        simp only [RQ.run,Option.some.injEq,Prod.mk.injEq] at h
        obtain ⟨rfl,_⟩:=h
        have hi:=hc _ (List.mem_cons_self ..)
        obtain ⟨b,hp,hb⟩:=lay_at (n:=Ty.size _) (fun _ _ h=>RelEl_len h) (Ty.dflt _) hlay hi (own_cells hown hg)
        obtain ⟨h1,h2,v,h3,h4⟩:=loadC_sound (g:=g) (K:=K) hT hl h' (RelEl_enc hp) hb
        rw [add_add',add_none rfl,← beq_eq hsz] at h3
        exact ⟨h1,h2,v,by simpa using h3,h4⟩
       ·cases h
      ·exact (fX h).elim
     ·exact (fX h).elim
    ·cases h
 ·exact (fX h).elim
theorem run_mapM {α β:Type} (f:α→Sem β) (h:α→β) (w:World):∀ (l:List α),(∀ x∈l,(f x).run P w=.ok (h x) w)→(l.mapM f).run P w=.ok (l.map h) w
 | [],_=>by simp
 | x::r,hf=>by
   have h1:=hf x (by simp)
   have h2:=run_mapM f h w r (fun y hy=>hf y (by simp [hy]))
   simp [List.mapM_cons,h1,h2]
theorem run_places (fs:Array Field) (w:World) (h:∀ x∈fs.toList,∃ i,P.info? x.type=some i) :
 (fs.mapM fun f=>(do pure (f.offset,← sizeOf f.type):Sem (Nat × Nat))).run P w=.ok (fs.toList.map fun x=>(x.offset,P.cellsOf x.type)).toArray w:=by
 rw [Array.mapM_eq_mapM_toList]
 have:=run_mapM (P:=P) (fun f:Field=>(do pure (f.offset,← sizeOf f.type):Sem (Nat × Nat))) (fun x=>(x.offset,P.cellsOf x.type)) w fs.toList (fun x hx=>by
  obtain ⟨i,hi⟩:=h x hx
  simp [run_size w hi,cellsOf_info hi])
 simp only [Sem.run_map,this,Result.andThen_ok]
theorem foldl_set:∀ (us:List Value) (off k:Nat) (cs:Array Value),off+k+us.length≤cs.size →
 ((us.zipIdx k).foldl (fun (cs:Array Value) (p:Value × Nat)=>cs.setIfInBounds (off+p.2) p.1) cs).toList=cs.toList.take (off+k)++(us++cs.toList.drop (off+k+us.length))
 | [],off,k,cs,_=>by simp
 | u::us,off,k,cs,h=>by
   simp only [List.zipIdx_cons,List.foldl_cons]
   rw [foldl_set us off (k+1) _ (by simp at h ⊢;omega)]
   simp only [List.length_cons] at h
   have hlt:off+k < cs.toList.length:=by simp;omega
   rw [Array.toList_setIfInBounds]
   have e1:(cs.toList.set (off+k) u).take (off+(k+1))=cs.toList.take (off+k)++[u]:=by
    rw [show off+(k+1)=(off+k)+1 by omega,List.take_succ_eq_append_getElem (by simpa using hlt)]
    simp [List.take_set_of_le]
   have e2:(cs.toList.set (off+k) u).drop (off+(k+1)+us.length)=cs.toList.drop (off+k+(u::us).length):=by
    rw [List.drop_set_of_lt (by omega)]
    simp only [List.length_cons]
    congr 1;omega
   rw [e1,e2]
   simp
theorem fill_sound {place:Nat→Option (Nat × Nat)} {get:Operand→AV} {ρ:Operand→Value}:∀ {ps:List (Nat × Operand)} {cs cs':List AV} {vs:List Value},
 fillA place (ps.map fun p=>(p.1,get p.2)) cs=some cs'→(∀ x∈ps.map (·.2),RelV g K R w (get x) (ρ x))→RelL g K R w cs vs →
  ∃ vs',Instr.fill place vs.toArray (ps.map fun p=>(p.1,ρ p.2))=some vs'∧RelL g K R w cs' vs'.toList
 | [],cs,cs',vs,h,_,hr=>by
   simp only [List.map_nil,fillA,Option.some.injEq] at h
   subst h
   exact ⟨vs.toArray,rfl,by simpa using hr⟩
 | (i,x)::ps,cs,cs',vs,h,hrel,hr=>by
   have hcu:=hrel x (by simp)
   simp only [List.map_cons,fillA] at h
   split at h
   ·rename_i off sz hpl
    split at h
    ·rename_i cs1 hsz hcell hset
     have hcs:=cells_rel hcu hcell
     obtain ⟨e1,e2⟩:=setL_spec hset
     have e3:(ρ x).cells.toList.length=(get x).cells.length:=RelL_len hcs
     have hlen:(ρ x).cells.size=sz:=by rw [← beq_eq hsz,lenL_spec,← e3];simp
     have hvl:=RelL_len hr
     have hsz':=beq_eq hsz
     rw [lenL_spec] at hsz'
     have hfit:off+(ρ x).cells.size≤vs.length:=by rw [hlen,hvl];omega
     have hrel1:RelL g K R w cs1 (((ρ x).cells.zipIdx.foldl (fun (cs:Array Value) (p:Value × Nat)=>cs.setIfInBounds (off+p.2) p.1) vs.toArray)).toList:=by
      rw [← Array.foldl_toList,Array.toList_zipIdx,foldl_set (ρ x).cells.toList off 0 vs.toArray (by simpa using hfit),e1]
      rw [e3]
      exact RelL_append (RelL_take hr _) (RelL_append hcs (RelL_drop hr _))
     obtain ⟨vs',hf,hr'⟩:=fill_sound (ps:=ps) h (fun y hy=>hrel y (by simp at hy ⊢;exact .inr hy)) hrel1
     refine ⟨vs',?_,hr'⟩
     simp only [List.map_cons,Instr.fill,hpl]
     rw [if_neg (by
      simp only [List.size_toArray,Bool.or_eq_true,decide_eq_true_eq,not_or,Decidable.not_not,Nat.not_lt]
      exact ⟨hlen,hfit⟩)]
     simpa using hf
    ·cases h
   ·cases h
theorem ofVal_rel {v:Value} {c:AV} (h:ofVal v=some c):RelV g K R w c v:=by
 unfold ofVal at h
 split at h <;> try (cases h;done)
 ·split at h
  ·rename_i hw;cases h;exact .int hw
  ·cases h
 ·cases h;exact .bool
 ·split at h
  ·cases h;exact .str (by unfold maxLen;omega)
  ·cases h
 all_goals (cases h;first|exact .nilsl|exact .nilptr|exact .nilfn|exact .ext (show RelX R w .nilm (.map none) from rfl))
theorem ofVals_rel:∀ {vs:List Value} {cs:List AV},ofVals vs=some cs→RelL g K R w cs vs
 | [],cs,h=>by cases h;exact .nil
 | v::vs,cs,h=>by
   simp only [ofVals] at h
   split at h
   ·rename_i h1 h2;cases h;exact .cons (ofVal_rel h1) (ofVals_rel h2)
   ·cases h
theorem ofZero_rel {v:Value} {c:AV} (h:ofZero v=some c):RelV g K R w c v:=by
 unfold ofZero at h
 split at h
 ·rename_i cs
  cases ho:ofVals cs.toList with
  | none=>rw [ho] at h;cases h
  | some l=>rw [ho] at h;cases h;have:=RelV.agg (ofVals_rel (g:=g) (K:=K) (R:=R) (w:=w) ho);simpa using this
 ·exact ofVal_rel h
theorem ofVal_cell {v:Value} {c:AV} (h:ofVal v=some c):c.cell=true:=by
 unfold ofVal at h
 split at h <;> try (cases h;done)
 ·split at h
  ·cases h;rfl
  ·cases h
 ·cases h;rfl
 ·split at h
  ·cases h;rfl
  ·cases h
 all_goals (cases h;rfl)
theorem ofVals_cell:∀ {vs:List Value} {cs:List AV},ofVals vs=some cs→allCell cs=true
 | [],cs,h=>by cases h;rfl
 | v::vs,cs,h=>by
   simp only [ofVals] at h
   split at h
   ·rename_i h1 h2;cases h;simp [allCell,ofVal_cell h1,ofVals_cell h2]
   ·cases h
theorem ofZero_cell {v:Value} {c:AV} (h:ofZero v=some c):allCell c.cells=true:=by
 unfold ofZero at h
 split at h
 ·rename_i cs
  cases ho:ofVals cs.toList with
  | none=>rw [ho] at h;cases h
  | some l=>rw [ho] at h;cases h;exact ofVals_cell ho
 ·have:=ofVal_cell h
  cases c <;> first|rfl|(simp [AV.cell] at this;done)|(rename_i e;cases e <;> first|rfl|simp [AV.cell] at this)
theorem build_sound (hT:TTok P tt) {t:TypeId} {ti:TI} (hl:look tt.1 t=some ti) {get:Operand→AV} {ρ:Operand→Value} {ps:List (Nat × Operand)} {row:Nat→Option AObj} {li:List Nat} {res:Res} {rd:List Nat}
 (h:(evBuild ti (ps.map fun p=>(p.1,get p.2))).run row li=some (res,rd)) (hrel:∀ x∈ps.map (·.2),RelV g K R w (get x) (ρ x)) :
 Pure P g K R w (Instr.build t (ps.map fun p=>(p.1,ρ p.2)).toArray) res:=by
 obtain ⟨i,z,hi,hsz,hz,hoz,ha,hd,_,_⟩:=hT.info hl
 have hz0:=ofZero_rel (g:=g) (K:=K) (R:=R) (w:=w) hoz
 have hzc:=cells_rel hz0 (ofZero_cell hoz)
 unfold evBuild at h
 split at h
 ·rename_i fs hfs
  rw [hfs] at hd
  obtain ⟨f,hf,rfl,hinfo⟩:=td_struct hd
  split at h
  ·rename_i cs hfill
   rw [b2_run h]
   obtain ⟨vs',h1,h2⟩:=fill_sound (ρ:=ρ) hfill hrel hzc
   refine ⟨rfl,rfl,.agg vs',?_,by simpa using RelV.agg h2⟩
   have hpl:nth (f.toList.map fun x=>(x.offset,P.cellsOf x.type))=(fun x=>(f.toList.map fun x=>(x.offset,P.cellsOf x.type)).toArray[x]?):=by
    funext x;rw [nth_spec];simp
   rw [hpl] at h1
   simp only [Array.toArray_toList] at h1
   unfold Instr.build
   rw [Sem.run_bind,run_zero w hi hz,Result.andThen_ok,Sem.run_bind,run_underlying hf,Result.andThen_ok]
   show (Sem.run P (do
    let places ← f.mapM fun f=>(do pure (f.offset,← sizeOf f.type):Sem (Nat × Nat))
    let some cells := Instr.fill (places[·]?) z.cells (ps.map fun p => (p.1, ρ p.2)).toArray.toList | stuck "build: no such field, or a part of the wrong size"
    pure (Value.agg cells)) w)=_
   rw [Sem.run_bind,run_places f w hinfo,Result.andThen_ok]
   dsimp only
   rw [h1]
   rfl
  ·exact (fX h).elim
 ·rename_i n esz ag hfs
  rw [hfs] at hd
  obtain ⟨el,i',hel,rfl,hi',_⟩:=td_arr hd
  split at h
  ·rename_i cs hfill
   rw [b2_run h]
   obtain ⟨vs',h1,h2⟩:=fill_sound (ρ:=ρ) hfill hrel hzc
   refine ⟨rfl,rfl,.agg vs',?_,by simpa using RelV.agg h2⟩
   simp only [Array.toArray_toList,cellsOf_info hi'] at h1
   simp [Instr.build,run_zero w hi hz,run_underlying hel,run_size w hi',h1]
  ·exact (fX h).elim
 ·exact (fX h).elim
theorem field_sound (hT:TTok P tt) {t:TypeId} {ti:TI} (hl:look tt.1 t=some ti) {n:Nat} {x:AV} {u:Value} {row:Nat→Option AObj} {li:List Nat} {res:Res} {rd:List Nat}
 (h:(evField ti n x).run row li=some (res,rd)) (hx:RelV g K R w x u):Pure P g K R w (Instr.fieldAt t u n) res:=by
 obtain ⟨i,z,hi,hsz,hz,hoz,ha,hd,_,_⟩:=hT.info hl
 unfold evField at h
 split at h <;> try exact (fX h).elim
 rename_i fs hfs
 rw [hfs] at hd
 obtain ⟨f,hf,rfl,hinfo⟩:=td_struct hd
 split at h <;> try exact (fX h).elim
 rename_i off sz hn
 rw [nth_spec,List.getElem?_map] at hn
 cases hfn:f.toList[n]? with
 | none=>rw [hfn] at hn;cases hn
 | some fd =>
   rw [hfn] at hn
   simp only [Option.map_some,Option.some.injEq,Prod.mk.injEq] at hn
   obtain ⟨rfl,rfl⟩:=hn
   obtain ⟨fi,hfi⟩:=hinfo fd (List.mem_of_getElem? hfn)
   have hfn':f[n]?=some fd:=by simpa using hfn
   have key:∀ (ad:Addr),P.cellsOf fd.type≠0→(Instr.fieldAt t (.pointer (some ad)) n).run P w=.ok (.pointer (some (ad.add fd.offset))) w:=by
    intro ad hne
    rw [cellsOf_info hfi] at hne
    simp [Instr.fieldAt,run_underlying hf,hfn',Instr.sureAddr,fieldPlace,run_size w hfi,hne]
   split at h
   ·rename_i hz0
    have hne:=beq_ne hz0
    cases hx with
    | ptr hk =>
      rw [b2_run h]
      refine ⟨rfl,rfl,_,key _ hne,?_⟩
      rw [Addr.add_lit]
      exact .ptr hk
   ·rename_i hz0
    have hne:=beq_ne hz0
    cases hx with
    | el hi' hr =>
      rw [b2_run h]
      obtain ⟨ad,vs,rfl,hs,hR,hlay,hcell⟩:=hr
      exact ⟨rfl,rfl,_,key _ hne,.el hi' ⟨ad,vs,by rw [add_add',Nat.add_assoc],hs,hR,hlay,hcell⟩⟩
   ·rename_i hz0
    have hne:=beq_ne hz0
    cases hx with
    | oel hk hg =>
      rw [b2_run h]
      refine ⟨rfl,rfl,_,key _ hne,?_⟩
      rw [Addr.add_lit,Nat.add_assoc]
      exact .oel hk hg
   ·exact (fX h).elim
theorem indexAddr_sound (hT:TTok P tt) {t:TypeId} {ti:TI} (hl:look tt.1 t=some ti) {k:IntKind} {n:Int} {x:AV} {u:Value} {row:Nat→Option AObj} {li:List Nat} {res:Res} {rd:List Nat}
 (h:(evIndexAddr ti x n).run row li=some (res,rd)) (hc:∀ p∈res.conds,p) (hx:RelV g K R w x u) (hrow:∀ r o,row r=some o→RowH g K R w r o):Pure P g K R w (Instr.indexAt t u (.int k n)) res:=by
 obtain ⟨i,z,hi,hsz,hz,hoz,ha,hd,_,_⟩:=hT.info hl
 unfold evIndexAddr at h
 split at h
 ·rename_i ty esz bytes zs hfs
  rw [hfs] at hd
  obtain ⟨el,ei,_,_,hel,hei,_,rfl,_⟩:=td_slice hd
  have key:∀ (ad:Addr) (len cap:Nat),0≤n→n < (len:Int)→(Instr.indexAt t (.slice (some ad) len cap) (.int k n)).run P w=.ok (.pointer (some (ad.add (n.toNat * ei.size)))) w:=by
   intro ad len cap h0 h1
   simp [Instr.indexAt,asIntOf,run_underlying hel,h0,h1,run_size w hei]
  split at h
  ·split at h
   ·rename_i hs
    rw [b2_run h] at hc ⊢
    have h0:0≤n:=hc _ (List.mem_cons_self ..)
    have h1:=hc _ (List.mem_cons_of_mem _ (List.mem_singleton.2 rfl))
    cases hx with
    | sl hr =>
      obtain ⟨a,cap,rfl,hle,hm,hb,hr⟩:=hr
      obtain ⟨ad,vs,rfl,hsp,hR,hlay,hcell⟩:=hr (by omega)
      exact ⟨rfl,rfl,_,key ad _ _ h0 h1,.el (by omega) ⟨ad,vs,by rw [beq_eq hs,Nat.add_zero],hsp,hR,hlay,hcell⟩⟩
   ·exact (fX h).elim
  ·simp only [RQ.run] at h
   split at h
   ·rename_i o ho
    split at h
    ·split at h
     ·rename_i hs hq
      rw [b2_run h] at hc ⊢
      have h0:0≤n:=hc _ (List.mem_cons_self ..)
      have h1:=hc _ (List.mem_cons_of_mem _ (List.mem_singleton.2 rfl))
      cases hx with
      | own hk _ =>
        obtain ⟨e,vs,hown,hlay,_⟩:=hrow _ _ ho
        rcases hown.2 with ⟨_,_,hn0⟩|⟨b,cap,cur,hv,_⟩
        ·rw [hn0] at h1;simp at h1;omega
        ·refine ⟨rfl,rfl,_,by rw [hv];exact key _ _ _ h0 h1,?_⟩
         rw [Addr.add_lit]
         have:=RelV.oel (g:=g) (K:=K) (R:=R) (w:=w) (sz:=ei.size) (i:=n.toNat) (j:=0) hk hv
         simpa using this
     ·exact (fX h).elim
    ·exact (fX h).elim
   ·cases h
  ·exact (fX h).elim
 ·rename_i len esz ag hfs
  rw [hfs] at hd
  obtain ⟨el,ei,hel,rfl,hei,_⟩:=td_arr hd
  rw [cellsOf_info hei] at h
  have key:∀ (ad:Addr),0≤n→n < (len:Int)→(Instr.indexAt t (.pointer (some ad)) (.int k n)).run P w=.ok (.pointer (some (ad.add (n.toNat * ei.size)))) w:=by
   intro ad h0 h1
   simp [Instr.indexAt,asIntOf,run_underlying hel,Instr.sureAddr,h0,h1,run_size w hei]
  split at h
  ·rw [b2_run h] at hc ⊢
   have h0:0≤n:=hc _ (List.mem_cons_self ..)
   have h1:=hc _ (List.mem_cons_of_mem _ (List.mem_singleton.2 rfl))
   cases hx with
   | ptr hk =>
     refine ⟨rfl,rfl,_,key _ h0 h1,?_⟩
     rw [Addr.add_lit]
     exact .ptr hk
  ·rw [b2_run h] at hc ⊢
   have h0:0≤n:=hc _ (List.mem_cons_self ..)
   have h1:=hc _ (List.mem_cons_of_mem _ (List.mem_singleton.2 rfl))
   cases hx with
   | el hi' hr =>
     obtain ⟨ad,vs,rfl,hs,hR,hlay,hcell⟩:=hr
     exact ⟨rfl,rfl,_,key _ h0 h1,.el hi' ⟨ad,vs,by rw [add_add',Nat.add_assoc],hs,hR,hlay,hcell⟩⟩
  ·rw [b2_run h] at hc ⊢
   have h0:0≤n:=hc _ (List.mem_cons_self ..)
   have h1:=hc _ (List.mem_cons_of_mem _ (List.mem_singleton.2 rfl))
   cases hx with
   | oel hk hg =>
     refine ⟨rfl,rfl,_,key _ h0 h1,?_⟩
     rw [Addr.add_lit,Nat.add_assoc]
     exact .oel hk hg
  ·exact (fX h).elim
 ·exact (fX h).elim
theorem len_sound {t rt:TypeId} (hT:TTok P tt) {ti:TI} (hl:look tt.1 t=some ti) {x:AV} {u:Value} {row:Nat→Option AObj} {li:List Nat} {res:Res} {rd:List Nat}
 (h:(evLen ti x).run row li=some (res,rd)) (hx:RelV g K R w x u) (hrow:∀ r o,row r=some o→RowH g K R w r o):Pure P g K R w (Builtin.len_ #[t] rt #[u]) res:=by
 obtain ⟨i,z,hi,hsz,hz,hoz,ha,hd,_,_⟩:=hT.info hl
 have big:∀ n:Nat,n≤maxLen→IntKind.i64.wrap (n:Int)=n:=fun n hn=>by
  refine wrap_of_range ?_
  simp only [IntKind.min,IntKind.max,IntKind.signed,IntKind.bits]
  unfold maxLen at hn
  omega
 unfold evLen at h
 split at h
 ·rename_i ty esz bytes zs hfs
  rw [hfs] at hd
  obtain ⟨el,ei,_,_,hel,hei,_,rfl,_⟩:=td_slice hd
  have key:∀ a n c,(Builtin.len_ #[t] rt #[.slice a n c]).run P w=.ok (.int .i64 n) w:=by
   intro a n c
   simp [Builtin.len_,run_underlying hel,goInt]
  split at h
  ·rw [b2_run h]
   cases hx with
   | sl hr =>
     obtain ⟨a,cap,rfl,hle,hm,_⟩:=hr
     exact ⟨rfl,rfl,_,key _ _ _,.int (big _ (by omega))⟩
  ·rw [b2_run h]
   cases hx
   exact ⟨rfl,rfl,_,key _ _ _,.int rfl⟩
  ·simp only [RQ.run] at h
   split at h
   ·rename_i o ho
    split at h
    ·rw [b2_run h]
     cases hx with
     | own hk _ =>
       obtain ⟨e,vs,hown,hlay,_⟩:=hrow _ _ ho
       rcases hown.2 with ⟨_,hv,hn0⟩|⟨b,cap,cur,hv,_,_,hcap,hmx,_⟩
       ·refine ⟨rfl,rfl,_,by rw [hv];exact key _ _ _,?_⟩
        rw [hn0];exact .int rfl
       ·exact ⟨rfl,rfl,_,by rw [hv];exact key _ _ _,.int (big _ (by omega))⟩
    ·exact (fX h).elim
   ·cases h
  ·exact (fX h).elim
 ·rename_i hfs
  rw [hfs] at hd
  have hu:=td_str hd
  split at h
  ·rw [b2_run h]
   cases hx with
   | str hs=>exact ⟨rfl,rfl,_,by simp [Builtin.len_,run_underlying hu,goInt],.int (big _ hs)⟩
  ·exact (fX h).elim
 ·exact (fX h).elim
theorem fieldV_sound (hT:TTok P tt) {t:TypeId} {ti:TI} (hl:look tt.1 t=some ti) {n:Nat} {x:AV} {u:Value} {row:Nat→Option AObj} {li:List Nat} {res:Res} {rd:List Nat}
 (h:(evFieldV ti n x).run row li=some (res,rd)) (hx:RelV g K R w x u):Pure P g K R w (Instr.field t u n) res:=by
 obtain ⟨i,z,hi,hsz,hz,hoz,ha,hd,_,_⟩:=hT.info hl
 unfold evFieldV at h
 split at h <;> try exact (fX h).elim
 rename_i cs
 split at h <;> try exact (fX h).elim
 rename_i fs hfs
 split at h <;> try exact (fX h).elim
 rename_i off sz hn
 split at h <;> try exact (fX h).elim
 rename_i v hs1 hv
 have hs1:=beq_eq hs1
 rw [hfs] at hd
 obtain ⟨f,hf,he,hinfo⟩:=td_struct hd
 rw [he,nth_spec,List.getElem?_map] at hn
 obtain ⟨fd,hfd,hfd2⟩:=Option.map_eq_some_iff.1 hn
 have ho:fd.offset=off:=congrArg Prod.fst hfd2
 have hc1:P.cellsOf fd.type=1:=(congrArg Prod.snd hfd2).trans hs1
 subst ho
 have hmem:=List.mem_of_getElem? hfd
 obtain ⟨ei,hei⟩:=hinfo fd hmem
 obtain ⟨hag,d,hdd⟩:=td_struct1 hd hf fd hmem hc1
 have hes:ei.size=1:=by rw [← hc1];simp [Program.cellsOf,hei]
 rw [b2_run h]
 cases hx with
 | agg hx =>
 rename_i vs
 rw [nth_spec] at hv
 obtain ⟨u,hu1,hu2⟩:=RelL_get hx hv
 have hlt:=(List.getElem?_eq_some_iff.1 hu1).1
 have hu3:=(List.getElem?_eq_some_iff.1 hu1).2
 have hp:=run_part (P:=P) w hdd hei vs [u] (vs.drop (fd.offset+1)) fd.offset (by rw [List.drop_eq_getElem_cons hlt,hu3];rfl) (by simp;omega) (fun _=>rfl)
 refine ⟨rfl,rfl,u,?_,hu2⟩
 rw [Array.getElem?_toList] at hfd
 simp only [Instr.field,Sem.run_bind,run_underlying hf,Result.andThen_ok,hfd,asAgg,Sem.run_pure]
 rw [hp]
 simp [mkVal,hag]
theorem index_sound (hT:TTok P tt) {t:TypeId} {ti:TI} (hl:look tt.1 t=some ti) {k:IntKind} {n:Int} {cs:List AV} {vs:List Value} {row:Nat→Option AObj} {li:List Nat} {res:Res} {rd:List Nat}
 (h:(evIndex ti cs n).run row li=some (res,rd)) (hc:∀ p∈res.conds,p) (hx:RelL g K R w cs vs):Pure P g K R w (Instr.index t (.agg vs.toArray) (.int k n)) res:=by
 obtain ⟨i,z,hi,hsz,hz,hoz,ha,hd,_,_⟩:=hT.info hl
 unfold evIndex at h
 split at h
 ·rename_i len esz hfs
  rw [hfs] at hd
  obtain ⟨el,ei,hel,he,hei,hag,d,hd'⟩:=td_arr hd
  have hsz':ei.size=esz:=by rw [he];simp [Program.cellsOf,hei]
  split at h <;> try exact (fX h).elim
  rename_i l hl'
  rw [b2_run h] at hc ⊢
  have h0:0≤n:=hc _ (List.mem_cons_self ..)
  have h1:=hc _ (List.mem_cons_of_mem _ (List.mem_singleton.2 rfl))
  obtain ⟨e1,e2⟩:=takeL_spec hl'
  rw [dropL_spec] at e1
  have hrel:=RelL_take (RelL_drop hx (n.toNat * esz)) esz
  rw [← e1] at hrel
  have hlen:=RelL_len hrel
  have hp:=run_part (P:=P) w hd' hei vs ((vs.drop (n.toNat * esz)).take esz) ((vs.drop (n.toNat * esz)).drop esz) (n.toNat * esz) (by rw [List.take_append_drop]) (by rw [hlen,e2,hsz']) (fun hf=>by rw [← hag] at hf;cases hf)
  refine ⟨rfl,rfl,_,?_,.agg hrel⟩
  simp only [Instr.index,asIntOf,Sem.run_bind,run_underlying hel,Result.andThen_ok,Sem.run_pure,h0,h1,and_self,if_true,run_size w hei,hsz']
  rw [hp]
  simp [mkVal,← hag]
 ·rename_i len esz hfs
  rw [hfs] at hd
  obtain ⟨el,ei,hel,he,hei,hag,d,hd'⟩:=td_arr hd
  have hsz':ei.size=esz:=by rw [he];simp [Program.cellsOf,hei]
  split at h <;> try exact (fX h).elim
  rename_i v h1' hv
  have hone:=beq_eq h1'
  rw [b2_run h] at hc ⊢
  have h0:0≤n:=hc _ (List.mem_cons_self ..)
  have h1:=hc _ (List.mem_cons_of_mem _ (List.mem_singleton.2 rfl))
  rw [nth_spec] at hv
  obtain ⟨u,hu1,hu2⟩:=RelL_get hx hv
  have hlt:=(List.getElem?_eq_some_iff.1 hu1).1
  have hu3:=(List.getElem?_eq_some_iff.1 hu1).2
  have hp:=run_part (P:=P) w hd' hei vs [u] (vs.drop (n.toNat * esz+1)) (n.toNat * esz) (by rw [List.drop_eq_getElem_cons hlt,hu3];rfl) (by simp;omega) (fun _=>rfl)
  refine ⟨rfl,rfl,_,?_,hu2⟩
  simp only [Instr.index,asIntOf,Sem.run_bind,run_underlying hel,Result.andThen_ok,Sem.run_pure,h0,h1,and_self,if_true,run_size w hei,hsz']
  rw [hp]
  simp [mkVal,← hag]
 ·exact (fX h).elim
end
end Go.AM
end
