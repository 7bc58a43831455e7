/- AmOps5. -/
import Derived.Test.YtmohhhbgcehnpaaGreatPm06
import Derived.WideKeyRuns

section
set_option linter.all false
namespace Go.AM
section
variable {g:Nat→Gh} {K R:Nat→Prop} {w:World}
theorem valOf_np {t:Ty} {v:Value} (hn:∀ a b,t=.pair a b→False):valOf t [v]=v:=by
 cases t <;> first|rfl|exact (hn _ _ rfl).elim
theorem decV_rel {t:Ty} {x:AV} {y:t.El} {v:Value} (h:decV t x=some y) (hx:RelV g K R w x v):∃ us,RelEl R w t y us∧v=valOf t us:=by
 unfold decV at h
 split at h
 ·split at h <;> try (cases h;done)
  rename_i hd
  cases h
  cases hx with
  | agg hx =>
    obtain ⟨us,ws,e,h1,h2⟩:=dec_rel hd hx
    cases h2
    exact ⟨us,h1,by rw [e];simp [valOf]⟩
 ·cases h
 ·rename_i hn1 hn2
  split at h <;> try (cases h;done)
  rename_i hd
  cases h
  obtain ⟨us,ws,e,h1,h2⟩:=dec_rel hd (.cons hx .nil)
  cases h2
  simp only [List.append_nil] at e
  subst e
  exact ⟨_,h1,(valOf_np hn1).symm⟩
theorem encV_rel:∀ {t:Ty} {y:t.El} {us:List Value},RelEl R w t y us→RelV g K R w (encV t y) (valOf t us)
 | .int _,_,_,h=>by rw [h.1];exact .int h.2
 | .bool,_,_,h=>by rw [show _=_ from h];exact .bool
 | .str,_,_,h=>by rw [h.1];exact .str h.2
 | .unit,_,_,h=>.junk
 | .pair _ _,_,_,h=>.agg (RelEl_enc h)
 | .slice _,_,_,⟨v,e,h⟩=>by rw [e];exact .sl h
 | .fn1 _ _,_,_,h=>by
   have h':=h
   obtain ⟨_,_,_,e,_⟩:=h'
   subst e
   exact .ext h
 | .fn2 _ _,_,_,h=>by
   have h':=h
   obtain ⟨_,_,_,e,_⟩:=h'
   subst e
   exact .ext h
 | .opt _,_,_,h=>by
   have h':=h
   rcases h' with ⟨_,e⟩|⟨_,_,_,e,_⟩
   ·subst e
    exact .ext h
   ·subst e
    exact .ext h
theorem valOf_one {t:Ty} {u:Value} (h:one t=true):valOf t [u]=u:=by
 cases t <;> first|rfl|(simp [one] at h)
theorem find_int {kk:IntKind} {v:Ty} {x:Int}:∀ {kvs:List (Int × v.El)} {es:List MapEntry} {i:Nat},MapE R w (.int kk) v kvs es →
 (Instr.findNow (.int kk) (.int kk x) es i=some none∧mapFind (.int kk) v x kvs=none∧∀ y,mapSet (.int kk) v x y kvs=kvs++[(x,y)]) ∨
 (∃ (j:Nat) (e:MapEntry) (p:Int × v.El),Instr.findNow (.int kk) (.int kk x) es i=some (some (i+j,e.val))∧es[j]?=some e∧kvs[j]?=some p∧e.key=.int kk x∧p.1=x∧mapFind (.int kk) v x kvs=some p.2∧∀ y,mapSet (.int kk) v x y kvs=kvs.set j (x,y))
 | [],[],i,_=>.inl ⟨rfl,rfl,fun _=>rfl⟩
 | [],_::_,_,h=>h.elim
 | _::_,[],_,h=>h.elim
 | p::kvs,e::es,i,⟨⟨us,h1,h2⟩,⟨vs,h3,h4⟩,h5⟩=>by
   have hk:e.key=.int kk p.1:=by rw [h2,h1.1];rfl
   by_cases hx:x=p.1
   ·have hs:Instr.sameNow (.int kk) (.int kk x) e.key=some true:=by rw [hk];simp [Instr.sameNow,hx]
    refine .inr ⟨0,e,p,?_,rfl,rfl,by rw [hk,hx],hx.symm,?_,fun y=>?_⟩
    ·simp only [Instr.findNow,hs];rfl
    ·simp [mapFind,keyEq,hx]
    ·simp [mapSet,keyEq,hx]
   ·have hs:Instr.sameNow (.int kk) (.int kk x) e.key=some false:=by rw [hk];simp [Instr.sameNow,hx]
    rcases find_int (x:=x) (i:=i+1) h5 with ⟨h6,h7,h8⟩|⟨j,e',p',h6,h7,h8,h9,h10,h11,h12⟩
    ·refine .inl ⟨?_,?_,fun y=>?_⟩
     ·simp only [Instr.findNow,hs];exact h6
     ·simp [mapFind,keyEq,hx];exact h7
     ·simp [mapSet,keyEq,hx];exact h8 y
    ·refine .inr ⟨j+1,e',p',?_,by simpa using h7,by simpa using h8,h9,h10,?_,fun y=>?_⟩
     ·simp only [Instr.findNow,hs,h6];rw [Nat.add_assoc,Nat.add_comm 1 j]
     ·simp [mapFind,keyEq,hx];exact h11
     ·simp [mapSet,keyEq,hx];exact h12 y
theorem MapE_get {k v:Ty}:∀ {kvs:List (k.El × v.El)} {es:List MapEntry} {j:Nat} {e:MapEntry} {p:k.El × v.El},MapE R w k v kvs es→es[j]?=some e→kvs[j]?=some p→∃ vs,RelEl R w v p.2 vs∧e.val=valOf v vs
 | _::_,_::_,0,_,_,⟨_,h,_⟩,he,hp=>by simp at he hp;subst he hp;exact h
 | _::_,_::_,j+1,_,_,⟨_,_,h⟩,he,hp=>MapE_get (j:=j) h (by simpa using he) (by simpa using hp)
 | [],_,_,_,_,_,_,hp=>by simp at hp
 | _::_,[],_,_,_,_,he,_=>by simp at he
theorem MapE_app {k v:Ty} {x:k.El} {y:v.El} {e:MapEntry} {us vs:List Value} (h1:RelEl R w k x us) (h2:e.key=valOf k us) (h3:RelEl R w v y vs) (h4:e.val=valOf v vs):∀ {kvs:List (k.El × v.El)} {es:List MapEntry},MapE R w k v kvs es→MapE R w k v (kvs++[(x,y)]) (es++[e])
 | [],[],_=>⟨⟨us,h1,h2⟩,⟨vs,h3,h4⟩,trivial⟩
 | _::_,_::_,⟨a,b,c⟩=>⟨a,b,MapE_app h1 h2 h3 h4 c⟩
 | [],_::_,h=>h.elim
 | _::_,[],h=>h.elim
theorem MapE_set {k v:Ty} {x:k.El} {y:v.El} {e:MapEntry} {us vs:List Value} (h1:RelEl R w k x us) (h2:e.key=valOf k us) (h3:RelEl R w v y vs) (h4:e.val=valOf v vs):∀ {kvs:List (k.El × v.El)} {es:List MapEntry} {j:Nat},MapE R w k v kvs es→MapE R w k v (kvs.set j (x,y)) (es.set j e)
 | [],[],_,h=>h
 | _::_,_::_,0,⟨_,_,c⟩=>⟨⟨us,h1,h2⟩,⟨vs,h3,h4⟩,c⟩
 | _::_,_::_,j+1,⟨a,b,c⟩=>⟨a,b,MapE_set (j:=j) h1 h2 h3 h4 c⟩
 | [],_::_,_,h=>h.elim
 | _::_,[],_,h=>h.elim
theorem castM_eq {β:Type} {a b c d:Ty} (h:a=c) (k:b=d) (l:List (a.El × b.El)) (f:List (c.El × d.El)→β):∃ l':List (c.El × d.El),castM h k l f=f l'∧∀ (g:Nat→Gh) (K R:Nat→Prop) (w:World) (r:Nat),RowH g K R w r (.map a b l)→RowH g K R w r (.map c d l'):=by
 subst h k;exact ⟨l,rfl,fun _ _ _ _ _ h=>h⟩
end
section
variable {P:Program} {C:Ctx} {g:Nat→Gh} {R:Nat→Prop} {st:St} {a:Act} {w:World} {tt:TT}
theorem run_getMap {b:Nat} {es:Array MapEntry} {clock:Nat} (hb:w.heap[b]?=some (.map es clock)):(getObj b).run P w=.ok (.map es clock) w:=by
 simp [getObj,Sem.run,hb]
theorem run_setMap {b:Nat} {es:Array MapEntry} {clock:Nat} (o:Obj) (hb:w.heap[b]?=some (.map es clock)):(setObj b o).run P w=.ok () { w with heap:=w.heap.setIfInBounds b o }:=by
 simp [setObj,Sem.run,hb]
theorem run_key_int {kt:TypeId} {kk:IntKind} (hk:P.underlying kt=some (.int kk)) (e:Bool) (x:Int):(Instr.checkKey e 10000 kt (.int kk x)).run P w=.ok () w:=by
 have:∀ n,(Instr.checkKey e (n+1) kt (.int kk x)).run P w=.ok () w:=fun n=>by simp [Instr.checkKey,run_underlying hk]
 exact this 9999
theorem run_find_int {kt:TypeId} {kk:IntKind} (hk:P.underlying kt=some (.int kk)) {x:Value} {es:List MapEntry} {r:Option (Nat × Value)} (h:Instr.findNow (.int kk) x es 0=some r):(Instr.findKey kt x es).run P w=.ok r w:=by
 simp [Instr.findKey,run_underlying hk,h]
theorem keyEq_iff:∀ {t:Ty} {a b:t.El},intsT t=true→(keyEq t a b=true↔a=b)
 | .int _,a,b,_=>by simp [keyEq]
 | .pair s t,a,b,h=>by
   simp only [intsT] at h
   split at h <;> try (cases h;done)
   rename_i hs
   simp only [keyEq,Bool.and_eq_true,keyEq_iff hs,keyEq_iff h]
   exact ⟨fun ⟨h1,h2⟩=>Prod.ext h1 h2,fun e=>by rw [e];exact ⟨rfl,rfl⟩⟩
 | .bool,_,_,h=>by simp [intsT] at h
 | .str,_,_,h=>by simp [intsT] at h
 | .unit,_,_,h=>by simp [intsT] at h
 | .slice _,_,_,h=>by simp [intsT] at h
 | .fn1 _ _,_,_,h=>by simp [intsT] at h
 | .fn2 _ _,_,_,h=>by simp [intsT] at h
 | .opt _,_,_,h=>by simp [intsT] at h
theorem eqTy_keys:∀ {t:Ty} {a b:t.El},intsT t=true→eqTy t a b=some (keyEq t a b)
 | .int _,a,b,_=>rfl
 | .pair s t,a,b,h=>by
   simp only [intsT] at h
   split at h <;> try (cases h;done)
   rename_i hs
   simp only [eqTy,keyEq,eqTy_keys hs,eqTy_keys h]
 | .bool,_,_,h=>by simp [intsT] at h
 | .str,_,_,h=>by simp [intsT] at h
 | .unit,_,_,h=>by simp [intsT] at h
 | .slice _,_,_,h=>by simp [intsT] at h
 | .fn1 _ _,_,_,h=>by simp [intsT] at h
 | .fn2 _ _,_,_,h=>by simp [intsT] at h
 | .opt _,_,_,h=>by simp [intsT] at h
theorem keys_det {R R':Nat→Prop} {w w':World}:∀ {t:Ty} {a:t.El} {us vs:List Value},intsT t=true→RelEl R w t a us→RelEl R' w' t a vs→us=vs
 | .int _,a,_,_,_,h1,h2=>by rw [h1.1,h2.1]
 | .pair s t,a,us,vs,h,⟨u1,u2,eu,h1,h2⟩,⟨v1,v2,ev,h3,h4⟩=>by
   simp only [intsT] at h
   split at h <;> try (cases h;done)
   rename_i hs
   rw [eu,ev,keys_det hs h1 h3,keys_det h h2 h4]
 | .bool,_,_,_,h,_,_=>by simp [intsT] at h
 | .str,_,_,_,h,_,_=>by simp [intsT] at h
 | .unit,_,_,_,h,_,_=>by simp [intsT] at h
 | .slice _,_,_,_,h,_,_=>by simp [intsT] at h
 | .fn1 _ _,_,_,_,h,_,_=>by simp [intsT] at h
 | .fn2 _ _,_,_,_,h,_,_=>by simp [intsT] at h
 | .opt _,_,_,_,h,_,_=>by simp [intsT] at h
theorem keys_move {R R':Nat→Prop} {w w':World}:∀ {t:Ty} {a:t.El} {us:List Value},intsT t=true→RelEl R w t a us→RelEl R' w' t a us
 | .int _,a,_,_,h=>h
 | .pair s t,a,us,h,⟨u1,u2,eu,h1,h2⟩=>by
   simp only [intsT] at h
   split at h <;> try (cases h;done)
   rename_i hs
   exact ⟨u1,u2,eu,keys_move hs h1,keys_move h h2⟩
 | .bool,_,_,h,_=>by simp [intsT] at h
 | .str,_,_,h,_=>by simp [intsT] at h
 | .unit,_,_,h,_=>by simp [intsT] at h
 | .slice _,_,_,h,_=>by simp [intsT] at h
 | .fn1 _ _,_,_,h,_=>by simp [intsT] at h
 | .fn2 _ _,_,_,h,_=>by simp [intsT] at h
 | .opt _,_,_,h,_=>by simp [intsT] at h
theorem keys_ints {R:Nat→Prop} {w:World}:∀ {t:Ty} {a:t.El} {us:List Value},intsT t=true→RelEl R w t a us→∀ u∈us,∃ k n,u=.int k n
 | .int _,a,us,_,h=>fun u hu=>by
   rw [h.1,List.mem_singleton] at hu
   exact ⟨_,_,hu⟩
 | .pair s t,a,us,h,⟨u1,u2,eu,h1,h2⟩=>fun u hu=>by
   simp only [intsT] at h
   split at h <;> try (cases h;done)
   rename_i hs
   rw [eu,List.mem_append] at hu
   rcases hu with hu|hu
   ·exact keys_ints hs h1 u hu
   ·exact keys_ints h h2 u hu
 | .bool,_,_,h,_=>by simp [intsT] at h
 | .str,_,_,h,_=>by simp [intsT] at h
 | .unit,_,_,h,_=>by simp [intsT] at h
 | .slice _,_,_,h,_=>by simp [intsT] at h
 | .fn1 _ _,_,_,h,_=>by simp [intsT] at h
 | .fn2 _ _,_,_,h,_=>by simp [intsT] at h
 | .opt _,_,_,h,_=>by simp [intsT] at h
def Found (k v:Ty) (x:k.El) (us:List Value) (kvs:List (k.El × v.El)) (es:List MapEntry) (i:Nat) (r:Option (Nat × Value)):Prop :=
 (r=none∧mapFind k v x kvs=none∧∀ y,mapSet k v x y kvs=kvs++[(x,y)]) ∨
 ∃ (j:Nat) (e:MapEntry) (p:k.El × v.El),r=some (i+j,e.val)∧es[j]?=some e∧kvs[j]?=some p∧e.key=valOf k us∧mapFind k v x kvs=some p.2∧∀ y,mapSet k v x y kvs=kvs.set j (x,y)
theorem found_not {k v:Ty} {x:k.El} {us:List Value} {p:k.El × v.El} {kvs:List (k.El × v.El)} {e:MapEntry} {es:List MapEntry} {i:Nat} {r:Option (Nat × Value)} (h:keyEq k x p.1=false) (hf:Found k v x us kvs es (i+1) r):Found k v x us (p::kvs) (e::es) i r:=by
 rcases hf with ⟨h1,h2,h3⟩|⟨j,e',p',h1,h2,h3,h4,h5,h6⟩
 ·refine .inl ⟨h1,?_,fun y=>?_⟩
  ·simp [mapFind,h];exact h2
  ·simp [mapSet,h];exact h3 y
 ·refine .inr ⟨j+1,e',p',?_,by simpa using h2,by simpa using h3,h4,?_,fun y=>?_⟩
  ·rw [h1,Nat.add_assoc,Nat.add_comm 1 j]
  ·simp [mapFind,h];exact h5
  ·simp [mapSet,h];exact h6 y
theorem found_yes {k v:Ty} {x:k.El} {us:List Value} {p:k.El × v.El} {kvs:List (k.El × v.El)} {e:MapEntry} {es:List MapEntry} {i:Nat} (h:keyEq k x p.1=true) (hk:e.key=valOf k us):Found k v x us (p::kvs) (e::es) i (some (i,e.val)) :=
 .inr ⟨0,e,p,rfl,rfl,rfl,hk,by simp [mapFind,h],fun y=>by simp [mapSet,h]⟩
structure KeyLaw (P:Program) (kt:TypeId) (k:Ty):Prop where
 ints:intsT k=true
 ck:∀ {R:Nat→Prop} {w0:World} {x:k.El} {us:List Value} (e:Bool) (w:World),RelEl R w0 k x us→(Instr.checkKey e 10000 kt (valOf k us)).run P w=.ok () w
 fd:∀ {R:Nat→Prop} {w0:World} {x:k.El} {us:List Value} {v:Ty} {kvs:List (k.El × v.El)} {es:List MapEntry} (w:World),RelEl R w0 k x us→MapE R w0 k v kvs es→∃ r,(Instr.findKey kt (valOf k us) es).run P w=.ok r w∧Found k v x us kvs es 0 r
 sb:∀ {R:Nat→Prop} {w0:World} {x:k.El} {us:List Value},RelEl R w0 k x us→Instr.sameBits 10000 (valOf k us) (valOf k us)=true
theorem keyLaw_int {kt:TypeId} {kk:IntKind} (hk:P.underlying kt=some (.int kk)):KeyLaw P kt (.int kk) where
 ints:=rfl
 ck:=fun e w h=>by rw [h.1];exact run_key_int hk e _
 fd:=fun {R w0 x us v kvs es} w h hM=>by
  obtain ⟨rfl,_⟩:=h
  rcases find_int (x:=x) (i:=0) hM with ⟨h2,h3,h4⟩|⟨j,e,p,h2,h3,h5,h6,h7,h8,h9⟩
  ·exact ⟨none,run_find_int hk h2,.inl ⟨rfl,h3,h4⟩⟩
  ·exact ⟨some (0+j,e.val),run_find_int hk h2,.inr ⟨j,e,p,rfl,h3,h5,h6,h8,h9⟩⟩
 sb:=fun h=>by rw [h.1];simp [valOf,Instr.sameBits]
theorem part_fields (w:World) {R:Nat→Prop} {w0:World} {n:Nat}:∀ (l:List Field) (ty:Ty) (x:ty.El) (off:Nat) (us cu:List Value),eqOk.eqFs P (eqOk P n) off l=some ty→RelEl R w0 ty x us→cu.drop off=us →
 ∀ f ∈ l, f.name ≠ "_" ∧ ∃ v, (part f.type cu.toArray f.offset).run P w = .ok v w
 | [],_,_,_,_,_,_,_,_=>fun f hf=>by cases hf
 | [f],ty,x,off,us,cu,h,hx,hu=>fun f' hf'=>by
   simp only [eqOk.eqFs] at h
   split at h <;> try (cases h;done)
   rename_i hn
   split at h <;> try (cases h;done)
   rename_i a ha
   split at h <;> try (cases h;done)
   rename_i hs
   cases h
   obtain ⟨td,htd,h1⟩:=eqOk_facts ha
   obtain ⟨i,hi'⟩:=info_of_underlying htd
   rw [cellsOf_info hi'] at hs
   have p1:=run_part w htd hi' cu us [] f.offset (by rw [hn.2,hu];simp) (by rw [RelEl_len hx,hs]) (fun h=>by rw [RelEl_len hx,h1 h])
   rw [List.mem_singleton] at hf'
   subst hf'
   exact ⟨hn.1,_,p1⟩
 | f::f'::r,ty,x,off,us,cu,h,hx,hu=>fun f2 hf2=>by
   simp only [eqOk.eqFs] at h
   split at h <;> try (cases h;done)
   rename_i hn
   split at h <;> try (cases h;done)
   rename_i a b ha hb
   split at h <;> try (cases h;done)
   rename_i hs
   cases h
   obtain ⟨td,htd,h1⟩:=eqOk_facts ha
   obtain ⟨i,hi'⟩:=info_of_underlying htd
   have hs':=hs
   rw [cellsOf_info hi'] at hs
   obtain ⟨u1,u2,eu,hu1,hu2⟩:=hx
   have p1:=run_part w htd hi' cu u1 u2 f.offset (by rw [hn.2,hu,eu]) (by rw [RelEl_len hu1,hs]) (fun h=>by rw [RelEl_len hu1,h1 h])
   rcases List.mem_cons.1 hf2 with rfl|hf2
   ·exact ⟨hn.1,_,p1⟩
   ·exact part_fields w (f'::r) b x.2 (off+P.cellsOf f.type) u2 cu hb hu2 (by rw [← List.drop_drop,hu,eu,← hs',← RelEl_len hu1];simp) f2 hf2
theorem run_ask_keys (w:World) {kt:TypeId} {k:Ty} (hk:eqOk P 20 kt=some k) (hints:intsT k=true) (hv:∀ us,valOf k us=mkVal P kt us) {R:Nat→Prop} {w0:World} {x:k.El} {us:List Value} {v:Ty} (hx:RelEl R w0 k x us):∀ {kvs:List (k.El × v.El)} {es:List MapEntry} (i:Nat),MapE R w0 k v kvs es →
 ∃ r,(Instr.findAsking kt (valOf k us) es i).run P w=.ok r w∧Found k v x us kvs es i r
 | [],[],i,_=>⟨none,by simp [Instr.findAsking],.inl ⟨rfl,rfl,fun _=>rfl⟩⟩
 | [],_::_,_,h=>h.elim
 | _::_,[],_,h=>h.elim
 | p::kvs,e::es,i,⟨⟨vs,h1,h2⟩,⟨vs',h3,h4⟩,h5⟩=>by
   have q:(Op.equal kt (valOf k us) e.key).run P w=.ok (keyEq k x p.1) w:=by
    rw [h2,hv,hv]
    unfold Op.equal Op.maxDepth
    exact run_eqIn w 20 9980 kt k x p.1 us vs _ hk hx h1 (eqTy_keys hints)
   cases hq:keyEq k x p.1
   ·obtain ⟨r,h6,h7⟩:=run_ask_keys w hk hints hv hx (i+1) h5
    refine ⟨r,?_,found_not hq h7⟩
    rw [Instr.findAsking]
    simp only [Sem.run_bind,q,hq,Result.andThen_ok,Bool.false_eq_true,if_false]
    exact h6
   ·refine ⟨some (i,e.val),?_,found_yes hq ?_⟩
    ·rw [Instr.findAsking]
     simp only [Sem.run_bind,q,hq,Result.andThen_ok,if_true,Sem.run_pure]
    ·rw [h2]
     have:=(keyEq_iff hints).1 hq
     rw [← this] at h1
     rw [keys_det hints h1 hx]
theorem keyLaw {kt:TypeId} {k:Ty} (h:keyTy P kt=some k):KeyLaw P kt k:=by
 unfold keyTy at h
 split at h <;> try (cases h;done)
 ·rename_i kk hu
  cases h
  exact keyLaw_int hu
 ·rename_i fs hu
  split at h <;> try (cases h;done)
  rename_i a b he
  split at h <;> try (cases h;done)
  rename_i hc
  cases h
  obtain ⟨hints,hall⟩:=hc
  have hag:isAggOf P kt=true:=by simp [isAggOf,hu]
  have hv:∀ us,valOf (.pair a b) us=mkVal P kt us:=fun us=>by simp [valOf,mkVal,hag]
  have hfi:∀ f∈fs.toList,∃ q,P.underlying f.type=some (.int q):=fun f hf=>by
   have:=List.all_eq_true.1 hall f hf
   split at this
   ·rename_i q hq;exact ⟨q,hq⟩
   ·cases this
  have heq:eqOk.eqFs P (eqOk P 19) 0 fs.toList=some (.pair a b):=by
   unfold eqOk at he
   simp only [hu] at he
   split at he
   ·cases he
   ·exact he
  refine ⟨hints,fun {R w0 x us} e w hx=>?_,fun {R w0 x us v kvs es} w hx hM=>?_,fun {R w0 x us} hx=>?_⟩
  ·show (Instr.checkKey e (9998+1+1) kt (.agg us.toArray)).run P w=.ok () w
   rw [Instr.checkKey]
   simp only [Sem.run_bind,run_underlying hu,Result.andThen_ok]
   rw [← Array.forIn_toList]
   have each:=part_fields (P:=P) w fs.toList _ x 0 us us heq hx (by simp)
   clear heq hall he hx
   generalize fs.toList=L at each hfi
   induction L with
   | nil=>simp
   | cons f L ih =>
     obtain ⟨hn,v',p1⟩:=each f (by simp)
     obtain ⟨q,hq⟩:=hfi f (by simp)
     have c1:(Instr.checkKey e (9998+1) f.type v').run P w=.ok () w:=by rw [Instr.checkKey];simp only [Sem.run_bind,run_underlying hq,Result.andThen_ok,Sem.run_pure]
     simp only [List.forIn_cons,Sem.run_bind,hn,ne_eq,not_false_eq_true,if_true,Result.andThen_ok,p1,c1,Sem.run_pure]
     exact ih (fun y hy=>each y (by simp [hy])) (fun y hy=>hfi y (by simp [hy]))
  ·obtain ⟨r,h1,h2⟩:=run_ask_keys w he hints hv hx 0 hM
   refine ⟨r,?_,h2⟩
   rw [run_findKey_eq w (by simp [hu])]
   exact h1
  ·show Instr.sameBits 10000 (.agg us.toArray) (.agg us.toArray)=true
   have hk:=keys_ints hints hx
   simp only [Instr.sameBits,beq_self_eq_true,Bool.true_and,List.all_eq_true]
   intro p hp
   obtain ⟨u,hu',rfl⟩:∃ u∈us,p=(u,u):=by
    obtain ⟨i,hi,e⟩:=List.getElem_of_mem hp
    rw [List.getElem_zip] at e
    exact ⟨_,List.getElem_mem _,e.symm⟩
   obtain ⟨kk,n,rfl⟩:=hk u hu'
   simp [Instr.sameBits]
theorem make_did (hT:TTok P tt) (hrel:Rel C g R st a w) {t:TypeId} {ti:TI} (hl:look tt.1 t=some ti) {d:Nat} {li:List Nat} {res:Res} {rd:List Nat} {row:Nat→Option AObj}
 (h:(evMake d ti).run row li=some (res,rd)) (hf:freshAll st.ks res.new=true):Did P C st a w (Instr.makeMap t none) res:=by
 unfold evMake at h
 split at h <;> try exact (fail_run h).elim
 rename_i k v z hd
 rw [ret_run h] at hf ⊢
 refine ⟨.map (some w.heap.size),w.alloc (.map #[] 0),updG g d ⟨0,.map (some w.heap.size)⟩,R,rfl,?_,?_⟩
 ·refine hrel.new1 hf rfl rfl rfl (by simp) (fun b hb=>Go.RowKit.Below.heap_alloc w _ b hb) ?_ (fun b hb=>?_)
  ·refine ⟨w.heap.size,#[],0,by rw [updG_same],by simpa using heap_alloc_new w (.map #[] 0),⟨?_,by simp,by simp⟩⟩
   simp [MapE]
  ·simp only [Own,updG_same] at hb
   cases hb
   exact Nat.le_refl _
 ·have:=RelV.own (g:=updG g d ⟨0,.map (some w.heap.size)⟩) (K:=fun r=>mem (appK [d] st.ks) r=true) (R:=R) (w:=w.alloc (.map #[] 0)) (r:=d) (by simp [appK,mem_cons]) (by rw [updG_same];simp [Value.oneCell'])
  rw [updG_same] at this
  exact this
theorem Rel.setO (hrel:Rel C g R st a w) {r:Nat} {o o':AObj} {b:Nat} {ob:Obj} (ho:look st.rows r=some o) (hb:Own g w r o b) (hb':∀ b1,Own g { w with heap:=w.heap.setIfInBounds b ob } r o' b1→Own g w r o b1)
 (hrow:(∀ ad:Addr,R ad.block→({ w with heap:=w.heap.setIfInBounds b ob }:World).cell? ad=w.cell? ad)→RowH g (fun r=>mem st.ks r=true) R { w with heap:=w.heap.setIfInBounds b ob } r o') :
 Rel C g R ⟨st.n,st.slots,st.gt,st.ks,(r,o')::st.rows⟩ a { w with heap:=w.heap.setIfInBounds b ob }:=by
 have hlook:∀ r' o1,look [(r,o')] r'=some o1→r'=r∧o1=o':=fun r' o1 h=>by
  rw [look_cons] at h
  by_cases e:r=r'
  ·simp [e] at h;exact ⟨e.symm,h.symm⟩
  ·simp [e,look] at h
 have hsz:({ w with heap:=w.heap.setIfInBounds b ob }:World).heap.size=w.heap.size:=by simp
 have hoth:∀ k,k≠b→({ w with heap:=w.heap.setIfInBounds b ob }:World).heap[k]?=w.heap[k]?:=fun k hk=>by simp [Array.getElem?_setIfInBounds,Ne.symm hk]
 have hRb:∀ k,R k→k≠b:=fun k hk e=>(hrel.heap.own r o b ho hb).1 (e ▸ hk)
 have hcell:∀ ad:Addr,R ad.block→({ w with heap:=w.heap.setIfInBounds b ob }:World).cell? ad=w.cell? ad:=fun ad had=>cell_of_heap (hoth _ (hRb _ had))
 refine hrel.gen (fun _ _=>rfl) (fun _ h=>h) (fun _ h=>h) ?_
 have:=hrel.heap.gen (g':=g) (R':=R) (w':={ w with heap:=w.heap.setIfInBounds b ob }) [(r,o')] [] (fun r'=>r'=r) (fun r hr=>by simp [mem] at hr) (fun r' o1 h=>.inl ((hlook r' o1 h).1 ▸ hrel.heap.keys r o ho)) (fun r' h=>⟨o',by rw [h,look_cons];simp⟩)
  rfl rfl rfl (by rw [hsz];exact Nat.le_refl _) (fun k _=>?_) (fun _ _=>rfl) (fun _ h=>h)
  (fun b hb=>by rw [hsz];exact hrel.heap.rlt b hb) (fun _ h=>.inl h) (fun r' o1 h=>?_) (fun r' o1 b1 h h1=>?_) (fun r1 r2 o1 o2 b h1 h2 _ _=>(hlook r1 o1 h1).1.trans (hlook r2 o2 h2).1.symm)
 ·have h2:=this.1.lists (ks:=st.ks) (rows:=st.rows)
  exact ⟨h2,this.2⟩
 ·by_cases e:k=b
  ·exact .inr ⟨r,o,rfl,ho,by rw [e];exact hb⟩
  ·exact .inl (hoth k e)
 ·obtain ⟨rfl,rfl⟩:=hlook r' o1 h
  have e:(fun r'=>mem st.ks r'=true∨mem [] r'=true)=(fun r'=>mem st.ks r'=true):=by funext r';simp [mem]
  rw [e];exact hrow hcell
 ·obtain ⟨rfl,rfl⟩:=hlook r' o1 h
  have h1:=hb' b1 h1
  exact ⟨(hrel.heap.own _ o b1 ho h1).1,.inr ⟨_,o,rfl,ho,h1⟩⟩
theorem keyInt_rel {k:Ty} {K:Nat→Prop} {x:AV} {y:k.El} {v:Value} (h:keyInt k k x=some y) (hx:RelV g K R w x v):∃ us,RelEl R w k y us∧v=valOf k us:=by
 unfold keyInt at h
 split at h
 ·exact decV_rel h hx
 ·cases h
theorem calls_of_spec {f:Nat} {s:Spec} (hs:SpecSound PG f s) {r:Ty} (hr:one r=true) {y:r.El} {args:List AV} {vals:List Value} {out:Out} (hraw:s.raw=false) (ho:s.f args []=some out) (hp:out.pre) (hret:decV r out.ret=some y) {R':Nat→Prop} {w':World} (hlt:∀ b,R' b→b < w'.heap.size)
 (hargs:∀ g,RelL g (locK []) R' w' args vals):Calls PG f vals.toArray w' fun e w''=>∃ u,e=.returned u∧RelEl (fun _=>False) w'' r y [u]∧w'.grownBy w'' none:=by
 refine (hs args [] out ho hp (fun _=>rfl) w' (fun _=>⟨0,undef⟩) R' vals hlt (fun i o h=>by simp at h) (fun i o b h=>by simp at h) (fun i j o o' b h=>by simp at h) (hargs _)).mono ?_
 rintro e w'' ⟨u,g',R'',rfl,hh,_,_,hv,_⟩
 refine ⟨u,rfl,?_,⟨hh.os,hh.tape,hh.output,hh.hsize,fun k hk _=>hh.frame k hk (fun ⟨i,o,h,_⟩=>by simp at h)⟩⟩
 obtain ⟨us,h1,h2⟩:=decV_rel hret hv
 cases r <;> simp [one] at hr
 ·obtain ⟨rfl,h3⟩:=h1
  rw [h2];exact ⟨rfl,h3⟩
 ·have h1:us=[.bool y]:=h1
  subst h1
  rw [h2];rfl
theorem seeV_rel {S:Nat→Option Spec} (hP:P=PG) (hS:∀ f s,S f=some s→SpecSound P f s∧∀ args w,(callFunc f args).run P w=.ok (.enter f args) w) {K:Nat→Prop} {t:Ty} {y:AV} {v:Value} (hc:∀ p∈(seeV S t y).2,p) (hy:RelV g K R w y v):RelV g K R w (seeV S t y).1 v:=by
 subst hP
 unfold seeV at hc ⊢
 split
 ·rename_i a r f
  simp only [List.mem_cons,List.not_mem_nil,or_false,forall_eq_or_imp,forall_eq] at hc
  obtain ⟨h1,h2⟩:=hc
  cases hy with
  | fn hf hd =>
  cases hf
  cases hd
  have hcall:∀ args w,(callFunc f args).run PG w=.ok (.enter f args) w:=by
   have:=(h2 a.dflt).1
   unfold preOf at this
   split at this
   ·rename_i s hs;exact (hS f s hs).2
   ·exact this.elim
  refine .ext ⟨f,#[],#[],rfl,hcall,fun R' w' hR hcell hlt x us hx=>?_⟩
  obtain ⟨h3,h4⟩:=h2 x
  unfold preOf at h3
  split at h3 <;> try exact h3.elim
  rename_i s hs
  obtain ⟨h5,h6⟩:=h3
  split at h6 <;> try exact h6.elim
  rename_i o ho
  have ha:ansOf S f r [encV a x]=decV r o.ret:=by unfold ansOf;rw [hs];simp only [ho]
  rw [ha] at h4
  obtain ⟨z,hz⟩:=Option.isSome_iff_exists.1 h4
  simp only [ha,hz,Option.getD_some]
  exact calls_of_spec (hS f s hs).1 h1 h5 ho h6 hz hlt (fun g=>.cons (encV_rel hx) .nil)
 ·rename_i a r f
  simp only [List.mem_cons,List.not_mem_nil,or_false,forall_eq_or_imp,forall_eq] at hc
  obtain ⟨h1,h2⟩:=hc
  cases hy with
  | fn hf hd =>
  cases hf
  cases hd
  have hcall:∀ args w,(callFunc f args).run PG w=.ok (.enter f args) w:=by
   have:=(h2 a.dflt a.dflt).1
   unfold preOf at this
   split at this
   ·rename_i s hs;exact (hS f s hs).2
   ·exact this.elim
  refine .ext ⟨f,#[],#[],rfl,hcall,fun R' w' hR hcell hlt x x' us us' hx hx'=>?_⟩
  obtain ⟨h3,h4⟩:=h2 x x'
  unfold preOf at h3
  split at h3 <;> try exact h3.elim
  rename_i s hs
  obtain ⟨h5,h6⟩:=h3
  split at h6 <;> try exact h6.elim
  rename_i o ho
  have ha:ansOf S f r [encV a x,encV a x']=decV r o.ret:=by unfold ansOf;rw [hs];simp only [ho]
  rw [ha] at h4
  obtain ⟨z,hz⟩:=Option.isSome_iff_exists.1 h4
  simp only [ha,hz,Option.getD_some]
  exact calls_of_spec (hS f s hs).1 h1 h5 ho h6 hz hlt (fun g=>.cons (encV_rel hx) (.cons (encV_rel hx') .nil))
 ·exact hy
theorem upd_did {S:Nat→Option Spec} (hT:TTok P tt) (hS:∀ f s,S f=some s→SpecSound P f s∧∀ args w,(callFunc f args).run P w=.ok (.enter f args) w) (hrel:Rel C g R st a w) {t:TypeId} {ti:TI} (hl:look tt.1 t=some ti) {m x y:AV} {u vx vy:Value} {li:List Nat} {res:Res} {rd:List Nat}
 (h:(evUpd S ti m x y).run (look st.rows) li=some (res,rd)) (hc:∀ p∈res.conds,p) (hm:RelV g (fun r=>mem st.ks r=true) R w m u) (hx:RelV g (fun r=>mem st.ks r=true) R w x vx) (hy:RelV g (fun r=>mem st.ks r=true) R w y vy) :
 res.av=.junk∧∃ w',(Instr.mapUpdate t u vx vy).run P w=.ok () w'∧Rel C g R ⟨st.n,st.slots,st.gt,appK res.new st.ks,addRows res.upd st.rows⟩ a w':=by
 unfold evUpd at h
 split at h <;> try exact (fail_run h).elim
 rename_i k v z r hd
 simp only [RQ.run] at h
 split at h <;> try (cases h;done)
 rename_i o ho
 split at h <;> try exact (fail_run h).elim
 rename_i k' v' kvs0
 split at h <;> try exact (fail_run h).elim
 rename_i hk' hv' kx vx' _ _ hkx hvy
 obtain ⟨kvs,e1,hrow⟩:=castM_eq hk' hv' kvs0 (fun kvs=>RQ.ret (⟨(seeV S v y).2,AV.junk,[(r,.map k v (mapSet k v kx vx' kvs))],[]⟩:Res))
 rw [e1] at h
 rw [ret_run h] at hc ⊢
 replace hy:=seeV_rel hT.1 hS hc hy
 obtain ⟨i,zz,hi,hsz,hz,hoz,ha,htd,_⟩:=hT.info hl
 rw [hd] at htd
 obtain ⟨kt,et,ei,zv,c,hu,huk,hty,hei,hez,hoc,rfl⟩:=td_map htd
 have KL:=keyLaw huk
 obtain ⟨ku,hku,rfl⟩:=keyInt_rel (g:=g) hkx hx
 obtain ⟨us,hv1,rfl⟩:=decV_rel hvy hy
 have hR0:=hrow _ _ _ _ _ (hrel.heap.held r _ ho)
 obtain ⟨b,es,clock,hgr,hb,hM⟩:=hR0
 cases hm with
 | own hkr h1 =>
 rw [hgr]
 have hown:Own g w r (.map k' v' kvs0) b:=hgr
 obtain ⟨fr,h2,hF⟩:=KL.fd w hku hM.rel
 have hck:=KL.ck (R:=R) (w0:=w) false w hku
 have hsb:=KL.sb hku
 rcases hF with ⟨rfl,h3,h4⟩|⟨j,e,p,rfl,h3,h5,h6,h8,h9⟩
 ·refine ⟨rfl,{ w with heap:=w.heap.setIfInBounds b (.map (es.push { key:=valOf k ku,val:=valOf v us,born:=clock }) (clock+1)) },?_,?_⟩
  ·simp [Instr.mapUpdate,run_underlying hu,run_getMap hb,hck,h2,run_setMap _ hb]
  ·refine hrel.setO ho hown (fun b1 h=>h) fun hcell=>?_
   refine ⟨b,es.push { key:=valOf k ku,val:=valOf v us,born:=clock },clock+1,hgr,by simp [Array.getElem?_setIfInBounds,(Array.getElem?_eq_some_iff.1 hb).1],?_⟩
   rw [h4]
   simp only [Array.toList_push]
   refine ⟨MapE_app (us:=ku) (keys_move KL.ints hku) rfl (RelEl_mono (fun _ h=>h) hcell hv1) rfl (MapE_mono (fun _ h=>h) hcell hM.rel),fun e he=>?_,?_⟩
   ·rcases List.mem_append.1 he with he|he
    ·have:=hM.lt e he;omega
    ·rw [List.mem_singleton.1 he];exact Nat.lt_succ_self _
   ·rw [List.map_append,List.nodup_append]
    refine ⟨hM.nd,by simp,fun x hx y hy=>?_⟩
    obtain ⟨e,he,rfl⟩:=List.mem_map.1 hx
    simp at hy
    subst hy
    have:=hM.lt e he
    omega
 ·refine ⟨rfl,{ w with heap:=w.heap.setIfInBounds b (.map (es.modify j fun e=>{ e with key:=valOf k ku,val:=valOf v us }) clock) },?_,?_⟩
  ·have h3':es[j]?=some e:=by simpa using h3
   simp only [Nat.zero_add] at h2
   simp [Instr.mapUpdate,run_underlying hu,run_getMap hb,hck,h2,run_setMap _ hb,h3',Instr.keyThatStays,h6,hsb]
  ·refine hrel.setO ho hown (fun b1 h=>h) fun hcell=>?_
   refine ⟨b,es.modify j fun e=>{ e with key:=valOf k ku,val:=valOf v us },clock,hgr,by simp [Array.getElem?_setIfInBounds,(Array.getElem?_eq_some_iff.1 hb).1],?_⟩
   rw [h9]
   have hlt:j < es.toList.length:=(List.getElem?_eq_some_iff.1 h3).1
   have hm':(es.modify j fun e=>{ e with key:=valOf k ku,val:=valOf v us }).toList=es.toList.set j { e with key:=valOf k ku,val:=valOf v us }:=by
    rw [Array.toList_modify]
    refine List.ext_getElem? fun i=>?_
    rw [List.getElem?_modify,List.getElem?_set]
    by_cases hij:j=i
    ·subst hij
     have hlt':j < es.size:=by simpa using hlt
     have hej:es[j]=e:=by
      have:=h3
      rw [Array.getElem?_toList,Array.getElem?_eq_getElem hlt'] at this
      exact Option.some.inj this
     simp [h3,hlt',hej]
    ·simp [hij]
   rw [hm']
   refine ⟨MapE_set (us:=ku) (keys_move KL.ints hku) rfl (RelEl_mono (fun _ h=>h) hcell hv1) rfl (MapE_mono (fun _ h=>h) hcell hM.rel),fun e' he=>?_,?_⟩
   ·rcases List.mem_or_eq_of_mem_set he with he|rfl
    ·exact hM.lt e' he
    ·exact hM.lt e (List.mem_of_getElem? h3)
   ·have:(es.toList.set j { e with key:=valOf k ku,val:=valOf v us }).map (·.born)=es.toList.map (·.born):=by
     rw [List.map_set]
     refine List.ext_getElem? fun i=>?_
     rw [List.getElem?_set]
     split
     ·rename_i hij
      subst hij
      rw [if_pos (by simpa using hlt),List.getElem?_map,h3]
      rfl
     ·rfl
    rw [this]
    exact hM.nd
theorem lookup_sound (hT:TTok P tt) {K:Nat→Prop} {row:Nat→Option AObj} (hrow:∀ r o,row r=some o→RowH g K R w r o) {t:TypeId} {ti:TI} (hl:look tt.1 t=some ti) {ok:Bool} {m x:AV} {u vx:Value} {li:List Nat} {res:Res} {rd:List Nat}
 (h:(evLookup ti ok m x).run row li=some (res,rd)) (hc:∀ p∈res.conds,p) (hm:RelV g K R w m u) (hx:RelV g K R w x vx):Pure P g K R w (Instr.lookup t u vx ok) res:=by
 have okR:∀ (y:AV) (q:Value) (f:Bool),RelV g K R w y q→RelV g K R w (okV ok y f) (if ok then .tuple #[q,.bool f] else q):=fun y q f hq=>by
  clear h hc
  cases ok
  ·exact hq
  ·exact .tup (.cons hq (.cons .bool .nil))
 unfold evLookup at h
 split at h <;> try exact (fail_run h).elim
 rotate_left
 ·rename_i k v z hd
  obtain ⟨i,zz,hi,hsz,hz,hoz,ha,htd,_⟩:=hT.info hl
  rw [hd] at htd
  obtain ⟨kt,et,ei,zv,c,hu,huk,hty,hei,hez,hoc,rfl⟩:=td_map htd
  split at h <;> try exact (fail_run h).elim
  rename_i kx y hkx hdz
  rw [ret_run h]
  have KL:=keyLaw huk
  obtain ⟨ku,hku,rfl⟩:=keyInt_rel (g:=g) hkx hx
  obtain ⟨fr,h2,hF⟩:=KL.fd (v:=v) (kvs:=[]) (es:=[]) w hku trivial
  have hck:=fun e=>KL.ck (R:=R) (w0:=w) e w hku
  have hfr:fr=none:=by
   rcases hF with ⟨h,_⟩|⟨j,e,p,_,h,_⟩
   ·exact h
   ·simp at h
  subst hfr
  have hz0:=ofZero_rel (g:=g) (K:=K) (R:=R) (w:=w) hoc
  obtain ⟨us,h9,h10⟩:=decV_rel hdz hz0
  have hval:RelV g K R w (encV v y) zv:=by rw [h10];exact encV_rel h9
  cases hm with
  | ext hm =>
  have hm:u=.map none:=hm
  subst hm
  refine ⟨rfl,rfl,if ok then .tuple #[zv,.bool false] else zv,?_,okR _ zv false hval⟩
  simp [Instr.lookup,run_underlying hu,hck,h2,run_zero w hei hez]
  try (cases ok <;> rfl)
 rename_i k v z r hd
 simp only [RQ.run] at h
 split at h <;> try (cases h;done)
 rename_i o ho
 split at h <;> try exact (fail_run h).elim
 rename_i k' v' kvs0
 obtain ⟨i,zz,hi,hsz,hz,hoz,ha,htd,_⟩:=hT.info hl
 rw [hd] at htd
 obtain ⟨kt,et,ei,zv,c,hu,huk,hty,hei,hez,hoc,rfl⟩:=td_map htd
 have KL:=keyLaw huk
 split at h <;> try exact (fail_run h).elim
 ·rename_i hk' hv' kx y _ _ hkx hdz
  obtain ⟨kvs,e1,hrw⟩:=castM_eq hk' hv' kvs0 (fun kvs=>RQ.ret (⟨[],okV ok (encV v ((mapFind k v kx kvs).getD y)) (mapFind k v kx kvs).isSome,[],[]⟩:Res))
  rw [e1] at h
  rw [ret_run h]
  obtain ⟨ku,hku,rfl⟩:=keyInt_rel (g:=g) hkx hx
  obtain ⟨b,es,clock,hgr,hb,hM⟩:=hrw _ _ _ _ _ (hrow r _ ho)
  obtain ⟨fr,h2,hF⟩:=KL.fd w hku hM.rel
  have hck:=fun e=>KL.ck (R:=R) (w0:=w) e w hku
  cases hm with
  | own hkr h1 =>
  rw [hgr]
  refine ⟨rfl,rfl,?_⟩
  rcases hF with ⟨rfl,h3,_⟩|⟨j,e,p,rfl,h3,h5,h6,h8,_⟩
  ·have hz0:=ofZero_rel (g:=g) (K:=K) (R:=R) (w:=w) hoc
   obtain ⟨us,h9,h10⟩:=decV_rel hdz hz0
   have hval:RelV g K R w (encV v y) zv:=by rw [h10];exact encV_rel h9
   refine ⟨if ok then .tuple #[zv,.bool false] else zv,?_,?_⟩
   ·simp [Instr.lookup,run_underlying hu,run_getMap hb,hck,h2,run_zero w hei hez]
    try (cases ok <;> rfl)
   ·show RelV g K R w (okV ok (encV v ((mapFind k v kx kvs).getD y)) (mapFind k v kx kvs).isSome) _
    rw [h3];exact okR _ zv false hval
  ·obtain ⟨vs,h9,h10⟩:=MapE_get hM.rel h3 h5
   refine ⟨if ok then .tuple #[e.val,.bool true] else e.val,?_,?_⟩
   ·simp [Instr.lookup,run_underlying hu,run_getMap hb,hck,h2]
    try (cases ok <;> rfl)
   ·show RelV g K R w (okV ok (encV v ((mapFind k v kx kvs).getD y)) (mapFind k v kx kvs).isSome) _
    rw [h8];exact okR _ e.val true (by rw [h10];exact encV_rel h9)
 ·rename_i hk' hv' kx hkk hvv hkx hdz
  obtain ⟨kvs,e1,hrw⟩:=castM_eq hk' hv' kvs0 (fun kvs=>RQ.ret (⟨[(mapFind k v kx kvs).isSome=true],okV ok (encV v ((mapFind k v kx kvs).getD v.dflt)) true,[],[]⟩:Res))
  rw [e1] at h
  rw [ret_run h] at hc ⊢
  have hs:(mapFind k v kx kvs).isSome=true:=hc _ (List.mem_singleton.2 rfl)
  obtain ⟨ku,hku,rfl⟩:=keyInt_rel (g:=g) hkx hx
  obtain ⟨b,es,clock,hgr,hb,hM⟩:=hrw _ _ _ _ _ (hrow r _ ho)
  obtain ⟨fr,h2,hF⟩:=KL.fd w hku hM.rel
  have hck:=fun e=>KL.ck (R:=R) (w0:=w) e w hku
  cases hm with
  | own hkr h1 =>
  rw [hgr]
  refine ⟨rfl,rfl,?_⟩
  rcases hF with ⟨rfl,h3,_⟩|⟨j,e,p,rfl,h3,h5,h6,h8,_⟩
  ·rw [h3] at hs;cases hs
  ·obtain ⟨vs,h9,h10⟩:=MapE_get hM.rel h3 h5
   refine ⟨if ok then .tuple #[e.val,.bool true] else e.val,?_,?_⟩
   ·simp [Instr.lookup,run_underlying hu,run_getMap hb,hck,h2]
    try (cases ok <;> rfl)
   ·show RelV g K R w (okV ok (encV v ((mapFind k v kx kvs).getD v.dflt)) true) _
    rw [h8];exact okR _ e.val true (by rw [h10];exact encV_rel h9)
theorem fn_did (hP:P=PG) (hrel:Rel C g R st a w) {e:Ext} {v:Value} {args:List AV} {vals:List Value} {row:Nat→Option AObj} {li:List Nat} {res:Res} {rd:List Nat}
 (h:(evFn e args).run row li=some (res,rd)) (he:RelX R w e v) (hargs:RelL g (fun r=>mem st.ks r=true) R w args vals) :
 ∃ f first cap,v=.func (.func f) first cap∧(∀ args w,(callFunc f args).run P w=.ok (.enter f args) w)∧CallDid P C st a w f (first++vals.toArray++cap).toList res:=by
 subst hP
 have fin:∀ {r:Ty} {y:r.El} {u:Value} {w':World},one r=true→RelEl (fun _=>False) w' r y [u]→w.grownBy w' none →
  Rel C g R ⟨st.n,st.slots,st.gt,appK [] st.ks,addRows [] st.rows⟩ a w'∧RelV g (fun r=>mem (appK [] st.ks) r=true) R w' (encV r y) u:=fun {r y u w'} h1 h2 h3=>by
  refine ⟨hrel.world h3.os h3.tape h3.output h3.size fun b hb=>h3.block b hb (by simp),?_⟩
  have:=encV_rel (g:=g) (K:=fun r=>mem (appK [] st.ks) r=true) (RelEl_mono (R':=R) (w':=w') (fun _ h=>h.elim) (fun _ h=>h.elim) h2)
  rwa [valOf_one h1] at this
 unfold evFn at h
 split at h <;> try exact (fail_run h).elim
 ·rename_i ta tr c x
  split at h <;> try exact (fail_run h).elim
  rename_i y hy ho
  rw [b2_run h]
  cases hargs with
  | cons h1 h2 =>
  cases h2
  obtain ⟨us,h3,rfl⟩:=decV_rel hy h1
  obtain ⟨f,first,cap,e1,h4,h5⟩:=he
  cases e1
  refine ⟨f,first,cap,rfl,h4,?_⟩
  unfold CallDid
  have:=h5 R w (fun _ h=>h) (fun _ _=>rfl) hrel.heap.rlt y us h3
  simp only [Array.toArray_toList]
  exact this.mono fun e w' ⟨u,e1,h6,h7⟩=>⟨u,g,R,e1,fin ho h6 h7⟩
 ·rename_i ta tr c x x'
  split at h <;> try exact (fail_run h).elim
  rename_i y y' hy hy' ho
  rw [b2_run h]
  cases hargs with
  | cons h1 h2 =>
  cases h2 with
  | cons h2 h3 =>
  cases h3
  obtain ⟨us,h3,rfl⟩:=decV_rel hy h1
  obtain ⟨us',h3',rfl⟩:=decV_rel hy' h2
  obtain ⟨f,first,cap,e1,h4,h5⟩:=he
  cases e1
  refine ⟨f,first,cap,rfl,h4,?_⟩
  unfold CallDid
  have:=h5 R w (fun _ h=>h) (fun _ _=>rfl) hrel.heap.rlt y y' us us' h3 h3'
  simp only [Array.toArray_toList]
  exact this.mono fun e w' ⟨u,e1,h6,h7⟩=>⟨u,g,R,e1,fin ho h6 h7⟩
end
end Go.AM
end
