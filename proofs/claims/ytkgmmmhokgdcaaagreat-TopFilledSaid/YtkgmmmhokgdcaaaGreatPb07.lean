/- AmOps5. -/
import Derived.Test.YtkgmmmhokgdcaaaGreatPb06

section
set_option linter.all false
namespace Go.AM
section
variable {g:Nat→Gh} {K R:Nat→Prop} {w:World}
theorem valOf_np {t:Ty} {v:Value} (hn:∀ a b,t=.pair a b→False):valOf t [v]=v:=by
  cases t <;> first|rfl|exact (hn _ _ rfl).elim
theorem decV_rel {t:Ty} {x:AV} {y:t.El} {v:Value} (h:decV t x=some y) (hx:RelV g K R w x v):∃ us,RelEl R w t y us∧v=valOf t us:=by
  unfold decV at h
  split at h
  · split at h <;> try (cases h;done)
    rename_i hd
    cases h
    cases hx with
    | agg hx =>
      obtain ⟨us,ws,e,h1,h2⟩:=dec_rel hd hx
      cases h2
      exact ⟨us,h1,by rw [e];simp [valOf]⟩
  · cases h
  · rename_i hn1 hn2
    split at h <;> try (cases h;done)
    rename_i hd
    cases h
    obtain ⟨us,ws,e,h1,h2⟩:=dec_rel hd (.cons hx .nil)
    cases h2
    simp only [List.append_nil] at e
    subst e
    exact ⟨_,h1,(valOf_np hn1).symm⟩
theorem encV_rel:∀ {t:Ty} {y:t.El} {us:List Value},RelEl R w t y us→RelV g K R w (encV t y) (valOf t us)
  | .int _,_,_,h=>by rw [h.1];exact .int h.2
  | .bool,_,_,h=>by rw [show _=_ from h];exact .bool
  | .str,_,_,h=>by rw [h.1];exact .str h.2
  | .unit,_,_,h=>.junk
  | .pair _ _,_,_,h=>.agg (RelEl_enc h)
  | .slice _,_,_,⟨v,e,h⟩=>by rw [e];exact .sl h
  | .fn1 _ _,_,_,h=>by
    have h':=h
    obtain ⟨_,_,_,e,_⟩:=h'
    subst e
    exact .ext h
  | .fn2 _ _,_,_,h=>by
    have h':=h
    obtain ⟨_,_,_,e,_⟩:=h'
    subst e
    exact .ext h
  | .opt _,_,_,h=>by
    have h':=h
    rcases h' with ⟨_,e⟩|⟨_,_,_,e,_⟩
    · subst e
      exact .ext h
    · subst e
      exact .ext h
theorem valOf_one {t:Ty} {u:Value} (h:one t=true):valOf t [u]=u:=by
  cases t <;> first|rfl|(simp [one] at h)
theorem find_int {kk:IntKind} {v:Ty} {x:Int}:∀ {kvs:List (Int × v.El)} {es:List MapEntry} {i:Nat},MapE R w (.int kk) v kvs es →
    (Instr.findNow (.int kk) (.int kk x) es i=some none∧mapFind (.int kk) v x kvs=none∧∀ y,mapSet (.int kk) v x y kvs=kvs++[(x,y)]) ∨
    (∃ (j:Nat) (e:MapEntry) (p:Int × v.El),Instr.findNow (.int kk) (.int kk x) es i=some (some (i+j,e.val))∧es[j]?=some e∧kvs[j]?=some p∧e.key=.int kk x∧p.1=x∧mapFind (.int kk) v x kvs=some p.2∧∀ y,mapSet (.int kk) v x y kvs=kvs.set j (x,y))
  | [],[],i,_=>.inl ⟨rfl,rfl,fun _=>rfl⟩
  | [],_::_,_,h=>h.elim
  | _::_,[],_,h=>h.elim
  | p::kvs,e::es,i,⟨⟨us,h1,h2⟩,⟨vs,h3,h4⟩,h5⟩=>by
    have hk:e.key=.int kk p.1:=by rw [h2,h1.1];rfl
    by_cases hx:x=p.1
    · have hs:Instr.sameNow (.int kk) (.int kk x) e.key=some true:=by rw [hk];simp [Instr.sameNow,hx]
      refine .inr ⟨0,e,p,?_,rfl,rfl,by rw [hk,hx],hx.symm,?_,fun y=>?_⟩
      · simp only [Instr.findNow,hs];rfl
      · simp [mapFind,keyEq,hx]
      · simp [mapSet,keyEq,hx]
    · have hs:Instr.sameNow (.int kk) (.int kk x) e.key=some false:=by rw [hk];simp [Instr.sameNow,hx]
      rcases find_int (x:=x) (i:=i+1) h5 with ⟨h6,h7,h8⟩|⟨j,e',p',h6,h7,h8,h9,h10,h11,h12⟩
      · refine .inl ⟨?_,?_,fun y=>?_⟩
        · simp only [Instr.findNow,hs];exact h6
        · simp [mapFind,keyEq,hx];exact h7
        · simp [mapSet,keyEq,hx];exact h8 y
      · refine .inr ⟨j+1,e',p',?_,by simpa using h7,by simpa using h8,h9,h10,?_,fun y=>?_⟩
        · simp only [Instr.findNow,hs,h6];rw [Nat.add_assoc,Nat.add_comm 1 j]
        · simp [mapFind,keyEq,hx];exact h11
        · simp [mapSet,keyEq,hx];exact h12 y
theorem MapE_get {k v:Ty}:∀ {kvs:List (k.El × v.El)} {es:List MapEntry} {j:Nat} {e:MapEntry} {p:k.El × v.El},MapE R w k v kvs es→es[j]?=some e→kvs[j]?=some p→∃ vs,RelEl R w v p.2 vs∧e.val=valOf v vs
  | _::_,_::_,0,_,_,⟨_,h,_⟩,he,hp=>by simp at he hp;subst he hp;exact h
  | _::_,_::_,j+1,_,_,⟨_,_,h⟩,he,hp=>MapE_get (j:=j) h (by simpa using he) (by simpa using hp)
  | [],_,_,_,_,_,_,hp=>by simp at hp
  | _::_,[],_,_,_,_,he,_=>by simp at he
theorem MapE_app {k v:Ty} {x:k.El} {y:v.El} {e:MapEntry} {us vs:List Value} (h1:RelEl R w k x us) (h2:e.key=valOf k us) (h3:RelEl R w v y vs) (h4:e.val=valOf v vs):∀ {kvs:List (k.El × v.El)} {es:List MapEntry},MapE R w k v kvs es→MapE R w k v (kvs++[(x,y)]) (es++[e])
  | [],[],_=>⟨⟨us,h1,h2⟩,⟨vs,h3,h4⟩,trivial⟩
  | _::_,_::_,⟨a,b,c⟩=>⟨a,b,MapE_app h1 h2 h3 h4 c⟩
  | [],_::_,h=>h.elim
  | _::_,[],h=>h.elim
theorem MapE_set {k v:Ty} {x:k.El} {y:v.El} {e:MapEntry} {us vs:List Value} (h1:RelEl R w k x us) (h2:e.key=valOf k us) (h3:RelEl R w v y vs) (h4:e.val=valOf v vs):∀ {kvs:List (k.El × v.El)} {es:List MapEntry} {j:Nat},MapE R w k v kvs es→MapE R w k v (kvs.set j (x,y)) (es.set j e)
  | [],[],_,h=>h
  | _::_,_::_,0,⟨_,_,c⟩=>⟨⟨us,h1,h2⟩,⟨vs,h3,h4⟩,c⟩
  | _::_,_::_,j+1,⟨a,b,c⟩=>⟨a,b,MapE_set (j:=j) h1 h2 h3 h4 c⟩
  | [],_::_,_,h=>h.elim
  | _::_,[],_,h=>h.elim
theorem castM_eq {β:Type} {a b c d:Ty} (h:a=c) (k:b=d) (l:List (a.El × b.El)) (f:List (c.El × d.El)→β):∃ l':List (c.El × d.El),castM h k l f=f l'∧∀ (g:Nat→Gh) (K R:Nat→Prop) (w:World) (r:Nat),RowH g K R w r (.map a b l)→RowH g K R w r (.map c d l'):=by
  subst h k;exact ⟨l,rfl,fun _ _ _ _ _ h=>h⟩
end
section
variable {P:Program} {C:Ctx} {g:Nat→Gh} {R:Nat→Prop} {st:St} {a:Act} {w:World} {tt:TT}
theorem run_getMap {b:Nat} {es:Array MapEntry} {clock:Nat} (hb:w.heap[b]?=some (.map es clock)):(getObj b).run P w=.ok (.map es clock) w:=by
  simp [getObj,Sem.run,hb]
theorem run_setMap {b:Nat} {es:Array MapEntry} {clock:Nat} (o:Obj) (hb:w.heap[b]?=some (.map es clock)):(setObj b o).run P w=.ok () { w with heap:=w.heap.setIfInBounds b o }:=by
  simp [setObj,Sem.run,hb]
theorem run_key_int {kt:TypeId} {kk:IntKind} (hk:P.underlying kt=some (.int kk)) (e:Bool) (x:Int):(Instr.checkKey e 10000 kt (.int kk x)).run P w=.ok () w:=by
  have:∀ n,(Instr.checkKey e (n+1) kt (.int kk x)).run P w=.ok () w:=fun n=>by simp [Instr.checkKey,run_underlying hk]
  exact this 9999
theorem run_find_int {kt:TypeId} {kk:IntKind} (hk:P.underlying kt=some (.int kk)) {x:Value} {es:List MapEntry} {r:Option (Nat × Value)} (h:Instr.findNow (.int kk) x es 0=some r):(Instr.findKey kt x es).run P w=.ok r w:=by
  simp [Instr.findKey,run_underlying hk,h]
theorem make_did (hT:TTok P tt) (hrel:Rel C g R st a w) {t:TypeId} {ti:TI} (hl:look tt.1 t=some ti) {d:Nat} {li:List Nat} {res:Res} {rd:List Nat} {row:Nat→Option AObj}
    (h:(evMake d ti).run row li=some (res,rd)) (hf:freshAll st.ks res.new=true):Did P C st a w (Instr.makeMap t none) res:=by
  unfold evMake at h
  split at h <;> try exact (fail_run h).elim
  rename_i k v z hd
  rw [ret_run h] at hf ⊢
  refine ⟨.map (some w.heap.size),w.alloc (.map #[] 0),updG g d ⟨0,.map (some w.heap.size)⟩,R,rfl,?_,?_⟩
  · refine hrel.new1 hf rfl rfl rfl (by simp) (fun b hb=>Go.RowKit.Below.heap_alloc w _ b hb) ?_ (fun b hb=>?_)
    · refine ⟨w.heap.size,#[],0,by rw [updG_same],by simpa using heap_alloc_new w (.map #[] 0),⟨?_,by simp,by simp⟩⟩
      simp [MapE]
    · simp only [Own,updG_same] at hb
      cases hb
      exact Nat.le_refl _
  · have:=RelV.own (g:=updG g d ⟨0,.map (some w.heap.size)⟩) (K:=fun r=>mem (appK [d] st.ks) r=true) (R:=R) (w:=w.alloc (.map #[] 0)) (r:=d) (by simp [appK,mem_cons]) (by rw [updG_same];simp [Value.oneCell'])
    rw [updG_same] at this
    exact this
theorem Rel.setO (hrel:Rel C g R st a w) {r:Nat} {o o':AObj} {b:Nat} {ob:Obj} (ho:look st.rows r=some o) (hb:Own g w r o b) (hb':∀ b1,Own g { w with heap:=w.heap.setIfInBounds b ob } r o' b1→Own g w r o b1)
    (hrow:(∀ ad:Addr,R ad.block→({ w with heap:=w.heap.setIfInBounds b ob }:World).cell? ad=w.cell? ad)→RowH g (fun r=>mem st.ks r=true) R { w with heap:=w.heap.setIfInBounds b ob } r o') :
    Rel C g R ⟨st.n,st.slots,st.gt,st.ks,(r,o')::st.rows⟩ a { w with heap:=w.heap.setIfInBounds b ob }:=by
  have hlook:∀ r' o1,look [(r,o')] r'=some o1→r'=r∧o1=o':=fun r' o1 h=>by
    rw [look_cons] at h
    by_cases e:r=r'
    · simp [e] at h;exact ⟨e.symm,h.symm⟩
    · simp [e,look] at h
  have hsz:({ w with heap:=w.heap.setIfInBounds b ob }:World).heap.size=w.heap.size:=by simp
  have hoth:∀ k,k≠b→({ w with heap:=w.heap.setIfInBounds b ob }:World).heap[k]?=w.heap[k]?:=fun k hk=>by simp [Array.getElem?_setIfInBounds,Ne.symm hk]
  have hRb:∀ k,R k→k≠b:=fun k hk e=>(hrel.heap.own r o b ho hb).1 (e ▸ hk)
  have hcell:∀ ad:Addr,R ad.block→({ w with heap:=w.heap.setIfInBounds b ob }:World).cell? ad=w.cell? ad:=fun ad had=>cell_of_heap (hoth _ (hRb _ had))
  refine hrel.gen (fun _ _=>rfl) (fun _ h=>h) (fun _ h=>h) ?_
  have:=hrel.heap.gen (g':=g) (R':=R) (w':={ w with heap:=w.heap.setIfInBounds b ob }) [(r,o')] [] (fun r'=>r'=r) (fun r hr=>by simp [mem] at hr) (fun r' o1 h=>.inl ((hlook r' o1 h).1 ▸ hrel.heap.keys r o ho)) (fun r' h=>⟨o',by rw [h,look_cons];simp⟩)
    rfl rfl rfl (by rw [hsz];exact Nat.le_refl _) (fun k _=>?_) (fun _ _=>rfl) (fun _ h=>h)
    (fun b hb=>by rw [hsz];exact hrel.heap.rlt b hb) (fun _ h=>.inl h) (fun r' o1 h=>?_) (fun r' o1 b1 h h1=>?_) (fun r1 r2 o1 o2 b h1 h2 _ _=>(hlook r1 o1 h1).1.trans (hlook r2 o2 h2).1.symm)
  · have h2:=this.1.lists (ks:=st.ks) (rows:=st.rows)
    exact ⟨h2,this.2⟩
  · by_cases e:k=b
    · exact .inr ⟨r,o,rfl,ho,by rw [e];exact hb⟩
    · exact .inl (hoth k e)
  · obtain ⟨rfl,rfl⟩:=hlook r' o1 h
    have e:(fun r'=>mem st.ks r'=true∨mem [] r'=true)=(fun r'=>mem st.ks r'=true):=by funext r';simp [mem]
    rw [e];exact hrow hcell
  · obtain ⟨rfl,rfl⟩:=hlook r' o1 h
    have h1:=hb' b1 h1
    exact ⟨(hrel.heap.own _ o b1 ho h1).1,.inr ⟨_,o,rfl,ho,h1⟩⟩
theorem keyInt_rel {k:Ty} {K:Nat→Prop} {kk:IntKind} (hk:k=.int kk) {x:AV} {y:k.El} {v:Value} (h:keyInt k k x=some y) (hx:RelV g K R w x v):∃ n:Int,v=.int kk n∧HEq y n∧kk.wrap n=n:=by
  subst hk
  have h:decV (.int kk) x=some y:=h
  obtain ⟨us,h1,h2⟩:=decV_rel h hx
  obtain ⟨h3,h4⟩:us=[.int kk y]∧kk.wrap y=y:=h1
  subst h3
  exact ⟨y,h2,HEq.rfl,h4⟩
theorem RelL_keyless {K':Nat→Prop} {g g':Nat→Gh} {R R':Nat→Prop} {w w':World} {K:Nat→Prop} (hR:∀ b,R b→R' b) (hc:∀ ad:Addr,R ad.block→w'.cell? ad=w.cell? ad) {cs:List AV} {vs:List Value} (hw:withinL (fun _=>false) cs=true) (h:RelL g K R w cs vs):RelL g' K' R' w' cs vs :=
  RelL_mono (fun r h=>by simp at h) (fun r h=>by simp at h) hR hc (RelL_within hw h)
theorem calls_of_spec {f:Nat} {s:Spec} (hs:SpecSound PG f s) {r:Ty} (hr:one r=true) {y:r.El} {args:List AV} {vals:List Value} {out:Out} (hraw:s.raw=false) (ho:s.f args []=some out) (hp:out.pre) (hret:decV r out.ret=some y) {R':Nat→Prop} {w':World} (hlt:∀ b,R' b→b < w'.heap.size)
    (hargs:∀ g,RelL g (locK []) R' w' args vals):Calls PG f vals.toArray w' fun e w''=>∃ u,e=.returned u∧RelEl (fun _=>False) w'' r y [u]∧w'.grownBy w'' none:=by
  refine (hs args [] out ho hp (fun _=>rfl) w' (fun _=>⟨0,undef⟩) R' vals hlt (fun i o h=>by simp at h) (fun i o b h=>by simp at h) (fun i j o o' b h=>by simp at h) (hargs _)).mono ?_
  rintro e w'' ⟨u,g',R'',rfl,hh,_,_,hv,_⟩
  refine ⟨u,rfl,?_,⟨hh.os,hh.tape,hh.output,hh.hsize,fun k hk _=>hh.frame k hk (fun ⟨i,o,h,_⟩=>by simp at h)⟩⟩
  obtain ⟨us,h1,h2⟩:=decV_rel hret hv
  cases r <;> simp [one] at hr
  · obtain ⟨rfl,h3⟩:=h1
    rw [h2];exact ⟨rfl,h3⟩
  · have h1:us=[.bool y]:=h1
    subst h1
    rw [h2];rfl
theorem seeV_rel {S:Nat→Option Spec} (hP:P=PG) (hS:∀ f s,S f=some s→SpecSound P f s∧∀ args w,(callFunc f args).run P w=.ok (.enter f args) w) {K:Nat→Prop} {t:Ty} {y:AV} {v:Value} (hc:∀ p∈(seeV S t y).2,p) (hy:RelV g K R w y v):RelV g K R w (seeV S t y).1 v:=by
  subst hP
  unfold seeV at hc ⊢
  split
  · rename_i a r f
    simp only [List.mem_cons,List.not_mem_nil,or_false,forall_eq_or_imp,forall_eq] at hc
    obtain ⟨h1,h2⟩:=hc
    cases hy with
    | fn hf hd =>
    cases hf
    cases hd
    have hcall:∀ args w,(callFunc f args).run PG w=.ok (.enter f args) w:=by
      have:=(h2 a.dflt).1
      unfold preOf at this
      split at this
      · rename_i s hs;exact (hS f s hs).2
      · exact this.elim
    refine .ext ⟨f,#[],#[],rfl,hcall,fun R' w' hR hcell hlt x us hx=>?_⟩
    obtain ⟨h3,h4⟩:=h2 x
    unfold preOf at h3
    split at h3 <;> try exact h3.elim
    rename_i s hs
    obtain ⟨h5,h6⟩:=h3
    split at h6 <;> try exact h6.elim
    rename_i o ho
    have ha:ansOf S f r [encV a x]=decV r o.ret:=by unfold ansOf;rw [hs];simp only [ho]
    rw [ha] at h4
    obtain ⟨z,hz⟩:=Option.isSome_iff_exists.1 h4
    simp only [ha,hz,Option.getD_some]
    exact calls_of_spec (hS f s hs).1 h1 h5 ho h6 hz hlt (fun g=>.cons (encV_rel hx) .nil)
  · rename_i a r f
    simp only [List.mem_cons,List.not_mem_nil,or_false,forall_eq_or_imp,forall_eq] at hc
    obtain ⟨h1,h2⟩:=hc
    cases hy with
    | fn hf hd =>
    cases hf
    cases hd
    have hcall:∀ args w,(callFunc f args).run PG w=.ok (.enter f args) w:=by
      have:=(h2 a.dflt a.dflt).1
      unfold preOf at this
      split at this
      · rename_i s hs;exact (hS f s hs).2
      · exact this.elim
    refine .ext ⟨f,#[],#[],rfl,hcall,fun R' w' hR hcell hlt x x' us us' hx hx'=>?_⟩
    obtain ⟨h3,h4⟩:=h2 x x'
    unfold preOf at h3
    split at h3 <;> try exact h3.elim
    rename_i s hs
    obtain ⟨h5,h6⟩:=h3
    split at h6 <;> try exact h6.elim
    rename_i o ho
    have ha:ansOf S f r [encV a x,encV a x']=decV r o.ret:=by unfold ansOf;rw [hs];simp only [ho]
    rw [ha] at h4
    obtain ⟨z,hz⟩:=Option.isSome_iff_exists.1 h4
    simp only [ha,hz,Option.getD_some]
    exact calls_of_spec (hS f s hs).1 h1 h5 ho h6 hz hlt (fun g=>.cons (encV_rel hx) (.cons (encV_rel hx') .nil))
  · exact hy
theorem upd_did {S:Nat→Option Spec} (hT:TTok P tt) (hS:∀ f s,S f=some s→SpecSound P f s∧∀ args w,(callFunc f args).run P w=.ok (.enter f args) w) (hrel:Rel C g R st a w) {t:TypeId} {ti:TI} (hl:look tt.1 t=some ti) {m x y:AV} {u vx vy:Value} {li:List Nat} {res:Res} {rd:List Nat}
    (h:(evUpd S ti m x y).run (look st.rows) li=some (res,rd)) (hc:∀ p∈res.conds,p) (hm:RelV g (fun r=>mem st.ks r=true) R w m u) (hx:RelV g (fun r=>mem st.ks r=true) R w x vx) (hy:RelV g (fun r=>mem st.ks r=true) R w y vy) :
    res.av=.junk∧∃ w',(Instr.mapUpdate t u vx vy).run P w=.ok () w'∧Rel C g R ⟨st.n,st.slots,st.gt,appK res.new st.ks,addRows res.upd st.rows⟩ a w':=by
  unfold evUpd at h
  split at h <;> try exact (fail_run h).elim
  rename_i k v z r hd
  simp only [RQ.run] at h
  split at h <;> try (cases h;done)
  rename_i o ho
  split at h <;> try exact (fail_run h).elim
  rename_i k' v' kvs0
  split at h <;> try exact (fail_run h).elim
  rename_i hk' hv' kx vx' _ _ hkx hvy
  obtain ⟨kvs,e1,hrow⟩:=castM_eq hk' hv' kvs0 (fun kvs=>RQ.ret (⟨(seeV S v y).2,AV.junk,[(r,.map k v (mapSet k v kx vx' kvs))],[]⟩:Res))
  rw [e1] at h
  rw [ret_run h] at hc ⊢
  replace hy:=seeV_rel hT.1 hS hc hy
  obtain ⟨i,zz,hi,hsz,hz,hoz,ha,htd,_⟩:=hT.info hl
  rw [hd] at htd
  obtain ⟨kt,et,kk,ei,zv,c,hu,huk,rfl,hty,hei,hez,hoc,rfl⟩:=td_map htd
  obtain ⟨n,rfl,hn,hwn⟩:=keyInt_rel (g:=g) rfl hkx hx
  have hn:kx=n:=eq_of_heq hn
  subst hn
  obtain ⟨us,hv1,rfl⟩:=decV_rel hvy hy
  have hR0:=hrow _ _ _ _ _ (hrel.heap.held r _ ho)
  obtain ⟨b,es,clock,hgr,hb,hM⟩:=hR0
  cases hm with
  | own hkr h1 =>
  rw [hgr]
  have hown:Own g w r (.map k' v' kvs0) b:=hgr
  rcases find_int (x:=kx) (i:=0) hM.rel with ⟨h2,h3,h4⟩|⟨j,e,p,h2,h3,h5,h6,h7,h8,h9⟩
  · refine ⟨rfl,{ w with heap:=w.heap.setIfInBounds b (.map (es.push { key:=.int kk kx,val:=valOf v us,born:=clock }) (clock+1)) },?_,?_⟩
    · simp [Instr.mapUpdate,run_underlying hu,run_getMap hb,run_key_int huk,run_find_int huk h2,run_setMap _ hb]
    · refine hrel.setO ho hown (fun b1 h=>h) fun hcell=>?_
      refine ⟨b,es.push { key:=.int kk kx,val:=valOf v us,born:=clock },clock+1,hgr,by simp [Array.getElem?_setIfInBounds,(Array.getElem?_eq_some_iff.1 hb).1],?_⟩
      rw [h4]
      simp only [Array.toList_push]
      refine ⟨MapE_app (k:=.int kk) (us:=[.int kk kx]) (show RelEl R _ (.int kk) kx [.int kk kx] from ⟨rfl,hwn⟩) rfl (RelEl_mono (fun _ h=>h) hcell hv1) rfl (MapE_mono (fun _ h=>h) hcell hM.rel),fun e he=>?_,?_⟩
      · rcases List.mem_append.1 he with he|he
        · have:=hM.lt e he;omega
        · rw [List.mem_singleton.1 he];exact Nat.lt_succ_self _
      · rw [List.map_append,List.nodup_append]
        refine ⟨hM.nd,by simp,fun x hx y hy=>?_⟩
        obtain ⟨e,he,rfl⟩:=List.mem_map.1 hx
        simp at hy
        subst hy
        have:=hM.lt e he
        omega
  · refine ⟨rfl,{ w with heap:=w.heap.setIfInBounds b (.map (es.modify j fun e=>{ e with key:=.int kk kx,val:=valOf v us }) clock) },?_,?_⟩
    · have h3':es[j]?=some e:=by simpa using h3
      simp only [Nat.zero_add] at h2
      simp [Instr.mapUpdate,run_underlying hu,run_getMap hb,run_key_int huk,run_find_int huk h2,run_setMap _ hb,h3',Instr.keyThatStays,h6,Instr.sameBits]
    · refine hrel.setO ho hown (fun b1 h=>h) fun hcell=>?_
      refine ⟨b,es.modify j fun e=>{ e with key:=.int kk kx,val:=valOf v us },clock,hgr,by simp [Array.getElem?_setIfInBounds,(Array.getElem?_eq_some_iff.1 hb).1],?_⟩
      rw [h9]
      have hlt:j < es.toList.length:=(List.getElem?_eq_some_iff.1 h3).1
      have hm':(es.modify j fun e=>{ e with key:=.int kk kx,val:=valOf v us }).toList=es.toList.set j { e with key:=.int kk kx,val:=valOf v us }:=by
        rw [Array.toList_modify]
        refine List.ext_getElem? fun i=>?_
        rw [List.getElem?_modify,List.getElem?_set]
        by_cases hij:j=i
        · subst hij
          have hlt':j < es.size:=by simpa using hlt
          have hej:es[j]=e:=by
            have:=h3
            rw [Array.getElem?_toList,Array.getElem?_eq_getElem hlt'] at this
            exact Option.some.inj this
          simp [h3,hlt',hej]
        · simp [hij]
      rw [hm']
      refine ⟨MapE_set (k:=.int kk) (us:=[.int kk kx]) (show RelEl R _ (.int kk) kx [.int kk kx] from ⟨rfl,hwn⟩) rfl (RelEl_mono (fun _ h=>h) hcell hv1) rfl (MapE_mono (fun _ h=>h) hcell hM.rel),fun e' he=>?_,?_⟩
      · rcases List.mem_or_eq_of_mem_set he with he|rfl
        · exact hM.lt e' he
        · exact hM.lt e (List.mem_of_getElem? h3)
      · have:(es.toList.set j { e with key:=.int kk kx,val:=valOf v us }).map (·.born)=es.toList.map (·.born):=by
          rw [List.map_set]
          refine List.ext_getElem? fun i=>?_
          rw [List.getElem?_set]
          split
          · rename_i hij
            subst hij
            rw [if_pos (by simpa using hlt),List.getElem?_map,h3]
            rfl
          · rfl
        rw [this]
        exact hM.nd
theorem lookup_sound (hT:TTok P tt) {K:Nat→Prop} {row:Nat→Option AObj} (hrow:∀ r o,row r=some o→RowH g K R w r o) {t:TypeId} {ti:TI} (hl:look tt.1 t=some ti) {ok:Bool} {m x:AV} {u vx:Value} {li:List Nat} {res:Res} {rd:List Nat}
    (h:(evLookup ti ok m x).run row li=some (res,rd)) (hc:∀ p∈res.conds,p) (hm:RelV g K R w m u) (hx:RelV g K R w x vx):Pure P g K R w (Instr.lookup t u vx ok) res:=by
  have okR:∀ (y:AV) (q:Value) (f:Bool),RelV g K R w y q→RelV g K R w (okV ok y f) (if ok then .tuple #[q,.bool f] else q):=fun y q f hq=>by
    clear h hc
    cases ok
    · exact hq
    · exact .tup (.cons hq (.cons .bool .nil))
  unfold evLookup at h
  split at h <;> try exact (fail_run h).elim
  rotate_left
  · rename_i k v z hd
    obtain ⟨i,zz,hi,hsz,hz,hoz,ha,htd,_⟩:=hT.info hl
    rw [hd] at htd
    obtain ⟨kt,et,kk,ei,zv,c,hu,huk,rfl,hty,hei,hez,hoc,rfl⟩:=td_map htd
    split at h <;> try exact (fail_run h).elim
    rename_i kx y hkx hdz
    rw [ret_run h]
    obtain ⟨n,rfl,hn,hwn⟩:=keyInt_rel (g:=g) rfl hkx hx
    have hz0:=ofZero_rel (g:=g) (K:=K) (R:=R) (w:=w) hoc
    obtain ⟨us,h9,h10⟩:=decV_rel hdz hz0
    have hval:RelV g K R w (encV v y) zv:=by rw [h10];exact encV_rel h9
    cases hm with
    | ext hm =>
    have hm:u=.map none:=hm
    subst hm
    refine ⟨rfl,rfl,if ok then .tuple #[zv,.bool false] else zv,?_,okR _ zv false hval⟩
    have hfn:Instr.findNow (.int kk) (.int kk n) [] 0=some none:=rfl
    simp [Instr.lookup,run_underlying hu,run_key_int huk,run_find_int huk hfn,run_zero w hei hez]
    try (cases ok <;> rfl)
  rename_i k v z r hd
  simp only [RQ.run] at h
  split at h <;> try (cases h;done)
  rename_i o ho
  split at h <;> try exact (fail_run h).elim
  rename_i k' v' kvs0
  obtain ⟨i,zz,hi,hsz,hz,hoz,ha,htd,_⟩:=hT.info hl
  rw [hd] at htd
  obtain ⟨kt,et,kk,ei,zv,c,hu,huk,rfl,hty,hei,hez,hoc,rfl⟩:=td_map htd
  split at h <;> try exact (fail_run h).elim
  · rename_i hk' hv' kx y _ _ hkx hdz
    obtain ⟨kvs,e1,hrw⟩:=castM_eq hk' hv' kvs0 (fun kvs=>RQ.ret (⟨[],okV ok (encV v ((mapFind (.int kk) v kx kvs).getD y)) (mapFind (.int kk) v kx kvs).isSome,[],[]⟩:Res))
    rw [e1] at h
    rw [ret_run h]
    obtain ⟨n,rfl,hn,hwn⟩:=keyInt_rel (g:=g) rfl hkx hx
    have hn:kx=n:=eq_of_heq hn
    subst hn
    obtain ⟨b,es,clock,hgr,hb,hM⟩:=hrw _ _ _ _ _ (hrow r _ ho)
    cases hm with
    | own hkr h1 =>
    rw [hgr]
    refine ⟨rfl,rfl,?_⟩
    rcases find_int (x:=kx) (i:=0) hM.rel with ⟨h2,h3,_⟩|⟨j,e,p,h2,h3,h5,h6,h7,h8,_⟩
    · have hz0:=ofZero_rel (g:=g) (K:=K) (R:=R) (w:=w) hoc
      obtain ⟨us,h9,h10⟩:=decV_rel hdz hz0
      have hval:RelV g K R w (encV v y) zv:=by rw [h10];exact encV_rel h9
      refine ⟨if ok then .tuple #[zv,.bool false] else zv,?_,?_⟩
      · simp [Instr.lookup,run_underlying hu,run_getMap hb,run_key_int huk,run_find_int huk h2,run_zero w hei hez]
        try (cases ok <;> rfl)
      · show RelV g K R w (okV ok (encV v ((mapFind (.int kk) v kx kvs).getD y)) (mapFind (.int kk) v kx kvs).isSome) _
        rw [h3];exact okR _ zv false hval
    · obtain ⟨vs,h9,h10⟩:=MapE_get hM.rel h3 h5
      refine ⟨if ok then .tuple #[e.val,.bool true] else e.val,?_,?_⟩
      · simp [Instr.lookup,run_underlying hu,run_getMap hb,run_key_int huk,run_find_int huk h2]
        try (cases ok <;> rfl)
      · show RelV g K R w (okV ok (encV v ((mapFind (.int kk) v kx kvs).getD y)) (mapFind (.int kk) v kx kvs).isSome) _
        rw [h8];exact okR _ e.val true (by rw [h10];exact encV_rel h9)
  · rename_i hk' hv' kx hkk hvv hkx hdz
    obtain ⟨kvs,e1,hrw⟩:=castM_eq hk' hv' kvs0 (fun kvs=>RQ.ret (⟨[(mapFind (.int kk) v kx kvs).isSome=true],okV ok (encV v ((mapFind (.int kk) v kx kvs).getD v.dflt)) true,[],[]⟩:Res))
    rw [e1] at h
    rw [ret_run h] at hc ⊢
    have hs:(mapFind (.int kk) v kx kvs).isSome=true:=hc _ (List.mem_singleton.2 rfl)
    obtain ⟨n,rfl,hn,hwn⟩:=keyInt_rel (g:=g) rfl hkx hx
    have hn:kx=n:=eq_of_heq hn
    subst hn
    obtain ⟨b,es,clock,hgr,hb,hM⟩:=hrw _ _ _ _ _ (hrow r _ ho)
    cases hm with
    | own hkr h1 =>
    rw [hgr]
    refine ⟨rfl,rfl,?_⟩
    rcases find_int (x:=kx) (i:=0) hM.rel with ⟨h2,h3,_⟩|⟨j,e,p,h2,h3,h5,h6,h7,h8,_⟩
    · rw [h3] at hs;cases hs
    · obtain ⟨vs,h9,h10⟩:=MapE_get hM.rel h3 h5
      refine ⟨if ok then .tuple #[e.val,.bool true] else e.val,?_,?_⟩
      · simp [Instr.lookup,run_underlying hu,run_getMap hb,run_key_int huk,run_find_int huk h2]
        try (cases ok <;> rfl)
      · show RelV g K R w (okV ok (encV v ((mapFind (.int kk) v kx kvs).getD v.dflt)) true) _
        rw [h8];exact okR _ e.val true (by rw [h10];exact encV_rel h9)
theorem fn_did (hP:P=PG) (hrel:Rel C g R st a w) {e:Ext} {v:Value} {args:List AV} {vals:List Value} {row:Nat→Option AObj} {li:List Nat} {res:Res} {rd:List Nat}
    (h:(evFn e args).run row li=some (res,rd)) (he:RelX R w e v) (hargs:RelL g (fun r=>mem st.ks r=true) R w args vals) :
    ∃ f first cap,v=.func (.func f) first cap∧(∀ args w,(callFunc f args).run P w=.ok (.enter f args) w)∧CallDid P C st a w f (first++vals.toArray++cap).toList res:=by
  subst hP
  have fin:∀ {r:Ty} {y:r.El} {u:Value} {w':World},one r=true→RelEl (fun _=>False) w' r y [u]→w.grownBy w' none →
      Rel C g R ⟨st.n,st.slots,st.gt,appK [] st.ks,addRows [] st.rows⟩ a w'∧RelV g (fun r=>mem (appK [] st.ks) r=true) R w' (encV r y) u:=fun {r y u w'} h1 h2 h3=>by
    refine ⟨hrel.world h3.os h3.tape h3.output h3.size fun b hb=>h3.block b hb (by simp),?_⟩
    have:=encV_rel (g:=g) (K:=fun r=>mem (appK [] st.ks) r=true) (RelEl_mono (R':=R) (w':=w') (fun _ h=>h.elim) (fun _ h=>h.elim) h2)
    rwa [valOf_one h1] at this
  unfold evFn at h
  split at h <;> try exact (fail_run h).elim
  · rename_i ta tr c x
    split at h <;> try exact (fail_run h).elim
    rename_i y hy ho
    rw [b2_run h]
    cases hargs with
    | cons h1 h2 =>
    cases h2
    obtain ⟨us,h3,rfl⟩:=decV_rel hy h1
    obtain ⟨f,first,cap,e1,h4,h5⟩:=he
    cases e1
    refine ⟨f,first,cap,rfl,h4,?_⟩
    unfold CallDid
    have:=h5 R w (fun _ h=>h) (fun _ _=>rfl) hrel.heap.rlt y us h3
    simp only [Array.toArray_toList]
    exact this.mono fun e w' ⟨u,e1,h6,h7⟩=>⟨u,g,R,e1,fin ho h6 h7⟩
  · rename_i ta tr c x x'
    split at h <;> try exact (fail_run h).elim
    rename_i y y' hy hy' ho
    rw [b2_run h]
    cases hargs with
    | cons h1 h2 =>
    cases h2 with
    | cons h2 h3 =>
    cases h3
    obtain ⟨us,h3,rfl⟩:=decV_rel hy h1
    obtain ⟨us',h3',rfl⟩:=decV_rel hy' h2
    obtain ⟨f,first,cap,e1,h4,h5⟩:=he
    cases e1
    refine ⟨f,first,cap,rfl,h4,?_⟩
    unfold CallDid
    have:=h5 R w (fun _ h=>h) (fun _ _=>rfl) hrel.heap.rlt y y' us us' h3 h3'
    simp only [Array.toArray_toList]
    exact this.mono fun e w' ⟨u,e1,h6,h7⟩=>⟨u,g,R,e1,fin ho h6 h7⟩
end
end Go.AM
end
