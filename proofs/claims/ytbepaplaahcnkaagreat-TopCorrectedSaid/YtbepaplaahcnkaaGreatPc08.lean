/- AmOps5. -/
import Derived.Test.YtbepaplaahcnkaaGreatPc07
import Derived.WideKeyRuns

section
set_option linter.all false
namespace Go.AM
section
variable {g:Nat→Gh} {K R:Nat→Prop} {w:World}
theorem valOf_np {t:Ty} {v:Value} (hn:∀ a b,t=.pair a b→False):valOf t [v]=v:=by
 cases t <;> first|rfl|exact (hn _ _ rfl).elim
theorem decV_rel {t:Ty} {x:AV} {y:t.El} {v:Value} (h:decV t x=some y) (hx:RelV g K R w x v):∃ us,RelEl R w t y us∧v=valOf t us:=by
 unfold decV at h
 split at h
 ·split at h <;> try (cases h;done)
  rename_i hd
  cases h
  cases hx with
  | agg hx =>
    obtain ⟨us,ws,e,h1,h2⟩:=dec_rel hd hx
    cases h2
    exact ⟨us,h1,by rw [e];simp [valOf]⟩
 ·cases h
 ·rename_i hn1 hn2
  split at h <;> try (cases h;done)
  rename_i hd
  cases h
  obtain ⟨us,ws,e,h1,h2⟩:=dec_rel hd (.cons hx .nil)
  cases h2
  simp only [List.append_nil] at e
  subst e
  exact ⟨_,h1,(valOf_np hn1).symm⟩
theorem encV_rel:∀ {t:Ty} {y:t.El} {us:List Value},RelEl R w t y us→RelV g K R w (encV t y) (valOf t us)
 | .int _,_,_,h=>by rw [h.1];exact .int h.2
 | .bool,_,_,h=>by rw [show _=_ from h];exact .bool
 | .str,_,_,h=>by rw [h.1];exact .str h.2
 | .unit,_,_,h=>.junk
 | .pair _ _,_,_,h=>.agg (RelEl_enc h)
 | .slice _,_,_,⟨v,e,h⟩=>by rw [e];exact .sl h
 | .fn1 _ _,_,_,h=>by
   have h':=h
   obtain ⟨_,_,_,e,_⟩:=h'
   subst e
   exact .ext h
 | .fn2 _ _,_,_,h=>by
   have h':=h
   obtain ⟨_,_,_,e,_⟩:=h'
   subst e
   exact .ext h
 | .opt _,_,_,h=>by
   have h':=h
   rcases h' with ⟨_,e⟩|⟨_,_,_,e,_⟩
   ·subst e
    exact .ext h
   ·subst e
    exact .ext h
 | .code,_,_,h=>by rw [show _=_ from h];exact .fn (vs:=[]) (us:=[]) .nil .nil
theorem valOf_one {t:Ty} {u:Value} (h:one t=true):valOf t [u]=u:=by
 cases t <;> first|rfl|(simp [one] at h)
def KeyE (R:Nat→Prop) (w:World) (k:Ty) {α:Type}:List (k.El × α)→List MapEntry→Prop
 | [],[]=>True
 | p::ps,e::es=>(∃ us,RelEl R w k p.1 us∧e.key=valOf k us)∧KeyE R w k ps es
 | _,_=>False
theorem MapE_key {k v:Ty}:∀ {kvs:List (k.El × v.El)} {es:List MapEntry},MapE R w k v kvs es→KeyE R w k kvs es
 | [],[],_=>trivial
 | _::_,_::_,⟨h1,_,h2⟩=>⟨h1,MapE_key h2⟩
 | [],_::_,h=>h.elim
 | _::_,[],h=>h.elim
theorem MapE_len {k v:Ty}:∀ {kvs:List (k.El × v.El)} {es:List MapEntry},MapE R w k v kvs es→es.length=kvs.length
 | [],[],_=>rfl
 | _::_,_::_,⟨_,_,h2⟩=>by simp [MapE_len h2]
 | [],_::_,h=>h.elim
 | _::_,[],h=>h.elim
theorem MMapE_key {k a b:Ty} {hole:Nat→Bool} {bm:Nat}:∀ {i:Nat} {kvss:List (k.El × List (a.El × b.El))} {es:List MapEntry} {ns:List Nat},MMapE R w k a b hole bm i kvss es ns→KeyE R w k kvss es
 | _,[],[],[],_=>trivial
 | _,_::_,_::_,_::_,⟨h1,_,_,_,h2⟩=>⟨h1,MMapE_key h2⟩
 | _,[],_::_,_,h=>h.elim
 | _,_::_,[],_,h=>h.elim
 | _,[],[],_::_,h=>h.elim
 | _,_::_,_::_,[],h=>h.elim
theorem MapE_get {k v:Ty}:∀ {kvs:List (k.El × v.El)} {es:List MapEntry} {j:Nat} {e:MapEntry} {p:k.El × v.El},MapE R w k v kvs es→es[j]?=some e→kvs[j]?=some p→∃ vs,RelEl R w v p.2 vs∧e.val=valOf v vs
 | _::_,_::_,0,_,_,⟨_,h,_⟩,he,hp=>by simp at he hp;subst he hp;exact h
 | _::_,_::_,j+1,_,_,⟨_,_,h⟩,he,hp=>MapE_get (j:=j) h (by simpa using he) (by simpa using hp)
 | [],_,_,_,_,_,_,hp=>by simp at hp
 | _::_,[],_,_,_,_,he,_=>by simp at he
theorem MapE_app {k v:Ty} {x:k.El} {y:v.El} {e:MapEntry} {us vs:List Value} (h1:RelEl R w k x us) (h2:e.key=valOf k us) (h3:RelEl R w v y vs) (h4:e.val=valOf v vs):∀ {kvs:List (k.El × v.El)} {es:List MapEntry},MapE R w k v kvs es→MapE R w k v (kvs++[(x,y)]) (es++[e])
 | [],[],_=>⟨⟨us,h1,h2⟩,⟨vs,h3,h4⟩,trivial⟩
 | _::_,_::_,⟨a,b,c⟩=>⟨a,b,MapE_app h1 h2 h3 h4 c⟩
 | [],_::_,h=>h.elim
 | _::_,[],h=>h.elim
theorem MapE_set {k v:Ty} {x:k.El} {y:v.El} {e:MapEntry} {us vs:List Value} (h1:RelEl R w k x us) (h2:e.key=valOf k us) (h3:RelEl R w v y vs) (h4:e.val=valOf v vs):∀ {kvs:List (k.El × v.El)} {es:List MapEntry} {j:Nat},MapE R w k v kvs es→MapE R w k v (kvs.set j (x,y)) (es.set j e)
 | [],[],_,h=>h
 | _::_,_::_,0,⟨_,_,c⟩=>⟨⟨us,h1,h2⟩,⟨vs,h3,h4⟩,c⟩
 | _::_,_::_,j+1,⟨a,b,c⟩=>⟨a,b,MapE_set (j:=j) h1 h2 h3 h4 c⟩
 | [],_::_,_,h=>h.elim
 | _::_,[],_,h=>h.elim
theorem castM_eq {β:Type} {a b c d:Ty} (h:a=c) (k:b=d) (l:List (a.El × b.El)) (f:List (c.El × d.El)→β):∃ l':List (c.El × d.El),castM h k l f=f l'∧∀ (g:Nat→Gh) (K R:Nat→Prop) (w:World) (r:Nat),RowH g K R w r (.map a b l)→RowH g K R w r (.map c d l'):=by
 subst h k;exact ⟨l,rfl,fun _ _ _ _ _ h=>h⟩
end
section
variable {P:Program} {C:Ctx} {g:Nat→Gh} {R:Nat→Prop} {st:St} {a:Act} {w:World} {tt:TT}
theorem run_getMap {b:Nat} {es:Array MapEntry} {clock:Nat} (hb:w.heap[b]?=some (.map es clock)):(getObj b).run P w=.ok (.map es clock) w:=by
 simp [getObj,Sem.run,hb]
theorem run_setMap {b:Nat} {es:Array MapEntry} {clock:Nat} (o:Obj) (hb:w.heap[b]?=some (.map es clock)):(setObj b o).run P w=.ok () { w with heap:=w.heap.setIfInBounds b o }:=by
 simp [setObj,Sem.run,hb]
theorem run_key_int {kt:TypeId} {kk:IntKind} (hk:P.underlying kt=some (.int kk)) (e:Bool) (x:Int):(Instr.checkKey e 10000 kt (.int kk x)).run P w=.ok () w:=by
 have:∀ n,(Instr.checkKey e (n+1) kt (.int kk x)).run P w=.ok () w:=fun n=>by simp [Instr.checkKey,run_underlying hk]
 exact this 9999
theorem run_find_now {kt:TypeId} {td:TypeDesc} (hk:P.underlying kt=some td) {x:Value} {es:List MapEntry} {r:Option (Nat × Value)} (h:Instr.findNow td x es 0=some r):(Instr.findKey kt x es).run P w=.ok r w:=by
 simp [Instr.findKey,run_underlying hk,h]
theorem keyEq_iff:∀ {t:Ty} {a b:t.El},intsT t=true→(keyEq t a b=true↔a=b)
 | .int _,a,b,_=>by simp [keyEq]
 | .pair s t,a,b,h=>by
   simp only [intsT] at h
   split at h <;> try (cases h;done)
   rename_i hs
   simp only [keyEq,Bool.and_eq_true,keyEq_iff hs,keyEq_iff h]
   exact ⟨fun ⟨h1,h2⟩=>Prod.ext h1 h2,fun e=>by rw [e];exact ⟨rfl,rfl⟩⟩
 | .str,a,b,_=>by simp [keyEq]
 | .bool,_,_,h=>by simp [intsT] at h
 | .code,_,_,h=>by simp [intsT] at h
 | .unit,_,_,h=>by simp [intsT] at h
 | .slice _,_,_,h=>by simp [intsT] at h
 | .fn1 _ _,_,_,h=>by simp [intsT] at h
 | .fn2 _ _,_,_,h=>by simp [intsT] at h
 | .opt _,_,_,h=>by simp [intsT] at h
theorem eqTy_keys:∀ {t:Ty} {a b:t.El},intsT t=true→eqTy t a b=some (keyEq t a b)
 | .int _,a,b,_=>rfl
 | .pair s t,a,b,h=>by
   simp only [intsT] at h
   split at h <;> try (cases h;done)
   rename_i hs
   simp only [eqTy,keyEq,eqTy_keys hs,eqTy_keys h]
 | .str,a,b,_=>rfl
 | .bool,_,_,h=>by simp [intsT] at h
 | .code,_,_,h=>by simp [intsT] at h
 | .unit,_,_,h=>by simp [intsT] at h
 | .slice _,_,_,h=>by simp [intsT] at h
 | .fn1 _ _,_,_,h=>by simp [intsT] at h
 | .fn2 _ _,_,_,h=>by simp [intsT] at h
 | .opt _,_,_,h=>by simp [intsT] at h
theorem keys_det {R R':Nat→Prop} {w w':World}:∀ {t:Ty} {a:t.El} {us vs:List Value},intsT t=true→RelEl R w t a us→RelEl R' w' t a vs→us=vs
 | .int _,a,_,_,_,h1,h2=>by rw [h1.1,h2.1]
 | .pair s t,a,us,vs,h,⟨u1,u2,eu,h1,h2⟩,⟨v1,v2,ev,h3,h4⟩=>by
   simp only [intsT] at h
   split at h <;> try (cases h;done)
   rename_i hs
   rw [eu,ev,keys_det hs h1 h3,keys_det h h2 h4]
 | .str,a,_,_,_,h1,h2=>by rw [h1.1,h2.1]
 | .bool,_,_,_,h,_,_=>by simp [intsT] at h
 | .code,_,_,_,h,_,_=>by simp [intsT] at h
 | .unit,_,_,_,h,_,_=>by simp [intsT] at h
 | .slice _,_,_,_,h,_,_=>by simp [intsT] at h
 | .fn1 _ _,_,_,_,h,_,_=>by simp [intsT] at h
 | .fn2 _ _,_,_,_,h,_,_=>by simp [intsT] at h
 | .opt _,_,_,_,h,_,_=>by simp [intsT] at h
theorem keys_move {R R':Nat→Prop} {w w':World}:∀ {t:Ty} {a:t.El} {us:List Value},intsT t=true→RelEl R w t a us→RelEl R' w' t a us
 | .int _,a,_,_,h=>h
 | .pair s t,a,us,h,⟨u1,u2,eu,h1,h2⟩=>by
   simp only [intsT] at h
   split at h <;> try (cases h;done)
   rename_i hs
   exact ⟨u1,u2,eu,keys_move hs h1,keys_move h h2⟩
 | .str,a,_,_,h=>h
 | .bool,_,_,h,_=>by simp [intsT] at h
 | .code,_,_,h,_=>by simp [intsT] at h
 | .unit,_,_,h,_=>by simp [intsT] at h
 | .slice _,_,_,h,_=>by simp [intsT] at h
 | .fn1 _ _,_,_,h,_=>by simp [intsT] at h
 | .fn2 _ _,_,_,h,_=>by simp [intsT] at h
 | .opt _,_,_,h,_=>by simp [intsT] at h
theorem keys_ints {R:Nat→Prop} {w:World}:∀ {t:Ty} {a:t.El} {us:List Value},intsT t=true→RelEl R w t a us→∀ u∈us,(∃ k n,u=.int k n)∨∃ s,u=.string s
 | .int _,a,us,_,h=>fun u hu=>by
   rw [h.1,List.mem_singleton] at hu
   exact .inl ⟨_,_,hu⟩
 | .str,a,us,_,h=>fun u hu=>by
   rw [h.1,List.mem_singleton] at hu
   exact .inr ⟨_,hu⟩
 | .pair s t,a,us,h,⟨u1,u2,eu,h1,h2⟩=>fun u hu=>by
   simp only [intsT] at h
   split at h <;> try (cases h;done)
   rename_i hs
   rw [eu,List.mem_append] at hu
   rcases hu with hu|hu
   ·exact keys_ints hs h1 u hu
   ·exact keys_ints h h2 u hu
 | .bool,_,_,h,_=>by simp [intsT] at h
 | .code,_,_,h,_=>by simp [intsT] at h
 | .unit,_,_,h,_=>by simp [intsT] at h
 | .slice _,_,_,h,_=>by simp [intsT] at h
 | .fn1 _ _,_,_,h,_=>by simp [intsT] at h
 | .fn2 _ _,_,_,h,_=>by simp [intsT] at h
 | .opt _,_,_,h,_=>by simp [intsT] at h
def Found (k v:Ty) (x:k.El) (us:List Value) (kvs:List (k.El × v.El)) (es:List MapEntry) (i:Nat) (r:Option (Nat × Value)):Prop :=
 (r=none∧mapFind k v x kvs=none) ∨
 ∃ (j:Nat) (e:MapEntry) (p:k.El × v.El),r=some (i+j,e.val)∧es[j]?=some e∧kvs[j]?=some p∧e.key=valOf k us∧mapFind k v x kvs=some p.2∧keyEq k x p.1=true
def FoundI (k:Ty) {α:Type} (x:k.El) (us:List Value) (kvs:List (k.El × α)) (es:List MapEntry) (i:Nat) (r:Option (Nat × Value)):Prop :=
 (r=none∧mmIdx k x kvs=none)∨∃ (j:Nat) (e:MapEntry),r=some (i+j,e.val)∧es[j]?=some e∧e.key=valOf k us∧mmIdx k x kvs=some j
theorem mmIdx_not {k:Ty} {α:Type} {x:k.El} {p:k.El × α} {kvs:List (k.El × α)} (h:keyEq k x p.1=false):mmIdx k x (p::kvs)=(mmIdx k x kvs).map (·+1):=by
 simp only [mmIdx,h,cond_false]
 cases mmIdx k x kvs <;> rfl
theorem mmIdx_yes {k:Ty} {α:Type} {x:k.El} {p:k.El × α} {kvs:List (k.El × α)} (h:keyEq k x p.1=true):mmIdx k x (p::kvs)=some 0:=by
 simp only [mmIdx,h,cond_true]
theorem found_not {k:Ty} {α:Type} {x:k.El} {us:List Value} {p:k.El × α} {kvs:List (k.El × α)} {e:MapEntry} {es:List MapEntry} {i:Nat} {r:Option (Nat × Value)} (h:keyEq k x p.1=false) (hf:FoundI k x us kvs es (i+1) r):FoundI k x us (p::kvs) (e::es) i r:=by
 rcases hf with ⟨h1,h2⟩|⟨j,e',h1,h2,h4,h5⟩
 ·exact .inl ⟨h1,by rw [mmIdx_not h,h2];rfl⟩
 ·exact .inr ⟨j+1,e',by rw [h1,Nat.add_assoc,Nat.add_comm 1 j],by simpa using h2,h4,by rw [mmIdx_not h,h5];rfl⟩
theorem found_yes {k:Ty} {α:Type} {x:k.El} {us:List Value} {p:k.El × α} {kvs:List (k.El × α)} {e:MapEntry} {es:List MapEntry} {i:Nat} (h:keyEq k x p.1=true) (hk:e.key=valOf k us):FoundI k x us (p::kvs) (e::es) i (some (i,e.val)) :=
 .inr ⟨0,e,rfl,rfl,hk,mmIdx_yes h⟩
theorem mmIdx_map {k v:Ty} {x:k.El}:∀ {kvs:List (k.El × v.El)},(mmIdx k x kvs=none∧mapFind k v x kvs=none)∨∃ j p,mmIdx k x kvs=some j∧kvs[j]?=some p∧mapFind k v x kvs=some p.2∧keyEq k x p.1=true
 | []=>.inl ⟨rfl,rfl⟩
 | p::kvs=>by
   cases h:keyEq k x p.1
   ·rcases mmIdx_map (x:=x) (kvs:=kvs) with ⟨h1,h2⟩|⟨j,q,h1,h2,h3,h4⟩
    ·exact .inl ⟨by rw [mmIdx_not h,h1];rfl,by simp [mapFind,h];exact h2⟩
    ·exact .inr ⟨j+1,q,by rw [mmIdx_not h,h1];rfl,by simpa using h2,by simp [mapFind,h];exact h3,h4⟩
   ·exact .inr ⟨0,p,mmIdx_yes h,rfl,by simp [mapFind,h],h⟩
def KeysDiffer (k:Ty) {α:Type} (kvs:List (k.El × α)):Prop:=kvs.Pairwise fun a b=>keyEq k a.1 b.1=false
theorem keyEq_comm {t:Ty} (h:intsT t=true) {a b:t.El} (e:keyEq t a b=false):keyEq t b a=false:=by
 cases h1:keyEq t b a
 ·rfl
 ·rw [(keyEq_iff h).1 h1] at e
  rw [(keyEq_iff h).2 rfl] at e
  cases e
theorem KeysDiffer.perm {k:Ty} {α:Type} (hi:intsT k=true) {l kvs:List (k.El × α)} (hp:l.Perm kvs) (h:KeysDiffer k kvs):KeysDiffer k l :=
 (hp.pairwise_iff (fun {a b} h=>keyEq_comm hi h)).2 h
theorem find_mem {k v:Ty} {x:k.El} {y:v.El}:∀ {kvs:List (k.El × v.El)},mapFind k v x kvs=some y→∃ e∈kvs,keyEq k x e.1=true∧e.2=y
 | [],h=>by simp [mapFind] at h
 | e::l,h=>by
   cases hq:keyEq k x e.1
   ·simp only [mapFind,hq,cond_false] at h
    obtain ⟨e',h1,h2⟩:=find_mem h
    exact ⟨e',List.mem_cons_of_mem _ h1,h2⟩
   ·simp only [mapFind,hq,cond_true,Option.some.injEq] at h
    exact ⟨e,List.mem_cons_self ..,hq,h⟩
theorem find_of {k v:Ty} (hi:intsT k=true) {x:k.El}:∀ {kvs:List (k.El × v.El)} {e:k.El × v.El},KeysDiffer k kvs→e∈kvs→keyEq k x e.1=true→mapFind k v x kvs=some e.2
 | a::l,e,hd,hm,hq=>by
   obtain ⟨h1,h2⟩:=List.pairwise_cons.1 hd
   rcases List.mem_cons.1 hm with rfl|hm
   ·simp [mapFind,hq]
   ·have:keyEq k x a.1=false:=by
     have:=h1 e hm
     rw [(keyEq_iff hi).1 hq]
     exact keyEq_comm hi this
    simp only [mapFind,this,cond_false]
    exact find_of hi h2 hm hq
theorem find_perm {k v:Ty} (hi:intsT k=true) {x:k.El} {l kvs:List (k.El × v.El)} (hp:l.Perm kvs) (hd:KeysDiffer k kvs):mapFind k v x l=mapFind k v x kvs:=by
 have hl:=hd.perm hi hp
 cases h:mapFind k v x kvs with
 | some y =>
   obtain ⟨e,h1,h2,h3⟩:=find_mem h
   rw [find_of hi hl (hp.mem_iff.2 h1) h2,h3]
 | none =>
   cases h2:mapFind k v x l with
   | none=>rfl
   | some y =>
     obtain ⟨e,h3,h4,h5⟩:=find_mem h2
     rw [find_of hi hd (hp.mem_iff.1 h3) h4] at h
     cases h
theorem find_none {k v:Ty} {x:k.El}:∀ {kvs:List (k.El × v.El)},mapFind k v x kvs=none→∀ e∈kvs,keyEq k x e.1=false
 | e::l,h,e',hm=>by
   cases hq:keyEq k x e.1
   ·simp only [mapFind,hq,cond_false] at h
    rcases List.mem_cons.1 hm with rfl|hm
    ·exact hq
    ·exact find_none h e' hm
   ·simp [mapFind,hq] at h
 | [],_,e',hm=>by cases hm
theorem mapIns_perm {k v:Ty} {x:k.El} {y:v.El}:∀ {l:List (k.El × v.El)},(mapIns k v x y l).Perm ((x,y)::l)
 | []=>.refl _
 | e::l=>by
   cases h:keyLt k x e.1
   ·simp only [mapIns,h,cond_false]
    exact (mapIns_perm.cons e).trans (.swap ..)
   ·simp only [mapIns,h,cond_true]
    exact .refl _
theorem mapPut_eq {k v:Ty} (hi:intsT k=true) {x:k.El} {y:v.El}:∀ {l:List (k.El × v.El)},KeysDiffer k l→mapPut k v x y l=l.map fun e=>bif keyEq k x e.1 then (x,y) else e
 | [],_=>rfl
 | e::l,hd=>by
   obtain ⟨h1,h2⟩:=List.pairwise_cons.1 hd
   cases h:keyEq k x e.1
   ·simp only [mapPut,h,cond_false,List.map_cons,mapPut_eq hi h2]
   ·simp only [mapPut,h,cond_true,List.map_cons]
    congr 1
    have:∀ a∈l,(bif keyEq k x a.1 then (x,y) else a)=a:=fun a ha=>by
     rw [(keyEq_iff hi).1 h,h1 a ha];rfl
    exact ((List.map_congr_left (g:=fun a=>a) this).trans (List.map_id' l)).symm
theorem mapPut_set {k v:Ty} {x:k.El} {y:v.El} (hi:intsT k=true):∀ {l:List (k.El × v.El)} {j:Nat} {p:k.El × v.El},KeysDiffer k l→l[j]?=some p→keyEq k x p.1=true→mapPut k v x y l=l.set j (x,y)
 | e::l,0,p,_,hp,hq=>by
   simp at hp
   subst hp
   simp [mapPut,hq]
 | e::l,j+1,p,hd,hp,hq=>by
   obtain ⟨h1,h2⟩:=List.pairwise_cons.1 hd
   have hp:l[j]?=some p:=by simpa using hp
   have:keyEq k x e.1=false:=by
    have:=h1 p (List.mem_of_getElem? hp)
    rw [(keyEq_iff hi).1 hq]
    exact keyEq_comm hi this
   simp only [mapPut,this,cond_false,List.set_cons_succ]
   rw [mapPut_set hi h2 hp hq]
 | [],_,_,_,hp,_=>by simp at hp
theorem mapSet_new {k v:Ty} {x:k.El} {y:v.El} {l kvs:List (k.El × v.El)} (hp:l.Perm kvs) (h:mapFind k v x kvs=none):(l++[(x,y)]).Perm (mapSet k v x y kvs):=by
 unfold mapSet
 rw [h]
 exact (List.perm_append_singleton _ _).trans ((hp.cons _).trans mapIns_perm.symm)
theorem mapSet_old {k v:Ty} (hi:intsT k=true) {x:k.El} {y z:v.El} {l kvs:List (k.El × v.El)} {j:Nat} {p:k.El × v.El} (hp:l.Perm kvs) (hd:KeysDiffer k kvs) (h:mapFind k v x kvs=some z) (hj:l[j]?=some p) (hq:keyEq k x p.1=true):(l.set j (x,y)).Perm (mapSet k v x y kvs):=by
 unfold mapSet
 rw [h]
 dsimp only
 have hl:=hd.perm hi hp
 rw [← mapPut_set hi hl hj hq,mapPut_eq hi hl,mapPut_eq hi hd]
 exact hp.map _
theorem mapSet_dk {k v:Ty} (hi:intsT k=true) {x:k.El} {y:v.El} {kvs:List (k.El × v.El)} (hd:KeysDiffer k kvs):KeysDiffer k (mapSet k v x y kvs):=by
 unfold mapSet
 split
 ·rw [mapPut_eq hi hd]
  refine List.pairwise_map.2 (hd.imp fun {a b} h=>?_)
  cases h1:keyEq k x a.1 <;> cases h2:keyEq k x b.1
  ·exact h
  ·rw [(keyEq_iff hi).1 h2];exact h
  ·rw [(keyEq_iff hi).1 h1];exact h
  ·rw [← (keyEq_iff hi).1 h1,← (keyEq_iff hi).1 h2,(keyEq_iff hi).2 rfl] at h;cases h
 ·rename_i h
  exact KeysDiffer.perm hi mapIns_perm (List.pairwise_cons.2 ⟨fun e he=>find_none h e he,hd⟩)
theorem FoundI.found {k v:Ty} {x:k.El} {us:List Value} {kvs:List (k.El × v.El)} {es:List MapEntry} {i:Nat} {r:Option (Nat × Value)} (h:FoundI k x us kvs es i r):Found k v x us kvs es i r:=by
 rcases mmIdx_map (x:=x) (kvs:=kvs) with ⟨h1,h2⟩|⟨j,q,h1,h2,h3,h4⟩
 ·rcases h with ⟨h5,_⟩|⟨_,_,_,_,_,h5⟩
  ·exact .inl ⟨h5,h2⟩
  ·rw [h1] at h5;cases h5
 ·rcases h with ⟨_,h5⟩|⟨j',e,h5,h6,h7,h8⟩
  ·rw [h1] at h5;cases h5
  ·rw [h1] at h8
   cases h8
   exact .inr ⟨j,e,q,h5,h6,h2,h7,h3,h4⟩
structure KeyLaw (P:Program) (kt:TypeId) (k:Ty):Prop where
 ints:intsT k=true
 ck:∀ {R:Nat→Prop} {w0:World} {x:k.El} {us:List Value} (e:Bool) (w:World),RelEl R w0 k x us→(Instr.checkKey e 10000 kt (valOf k us)).run P w=.ok () w
 fi:∀ {R:Nat→Prop} {w0:World} {x:k.El} {us:List Value} {α:Type} {kvs:List (k.El × α)} {es:List MapEntry} (w:World),RelEl R w0 k x us→KeyE R w0 k kvs es→∃ r,(Instr.findKey kt (valOf k us) es).run P w=.ok r w∧FoundI k x us kvs es 0 r
 sb:∀ {R:Nat→Prop} {w0:World} {x:k.El} {us:List Value},RelEl R w0 k x us→Instr.sameBits 10000 (valOf k us) (valOf k us)=true
theorem KeyLaw.fd {kt:TypeId} {k:Ty} (KL:KeyLaw P kt k) {R:Nat→Prop} {w0:World} {x:k.El} {us:List Value} {v:Ty} {kvs:List (k.El × v.El)} {es:List MapEntry} (w:World) (hx:RelEl R w0 k x us) (hM:MapE R w0 k v kvs es):∃ r,(Instr.findKey kt (valOf k us) es).run P w=.ok r w∧Found k v x us kvs es 0 r :=
 let ⟨r,h1,h2⟩:=KL.fi w hx (MapE_key hM)
 ⟨r,h1,h2.found⟩
theorem find_now {k:Ty} {td:TypeDesc} (hints:intsT k=true) {R:Nat→Prop} {w0:World} {x:k.El} {us:List Value} (hs:∀ y vs,RelEl R w0 k y vs→Instr.sameNow td (valOf k us) (valOf k vs)=some (keyEq k x y)) (hx:RelEl R w0 k x us) {α:Type}:∀ {kvs:List (k.El × α)} {es:List MapEntry} (i:Nat),KeyE R w0 k kvs es →
 ∃ r,Instr.findNow td (valOf k us) es i=some r∧FoundI k x us kvs es i r
 | [],[],i,_=>⟨none,rfl,.inl ⟨rfl,rfl⟩⟩
 | [],_::_,_,h=>h.elim
 | _::_,[],_,h=>h.elim
 | p::kvs,e::es,i,⟨⟨vs,h1,h2⟩,h5⟩=>by
   have q:=hs p.1 vs h1
   rw [← h2] at q
   cases hq:keyEq k x p.1
   ·obtain ⟨r,h6,h7⟩:=find_now hints hs hx (i+1) h5
    refine ⟨r,?_,found_not hq h7⟩
    simp only [Instr.findNow,q,hq]
    exact h6
   ·refine ⟨some (i,e.val),?_,found_yes hq ?_⟩
    ·simp only [Instr.findNow,q,hq]
    ·rw [h2]
     have:=(keyEq_iff hints).1 hq
     rw [← this] at h1
     rw [keys_det hints h1 hx]
theorem bbeq (x y:ByteArray):(x == y)=decide (x=y):=by
 obtain ⟨a⟩:=x
 obtain ⟨b⟩:=y
 show (a == b)=_
 rw [Bool.eq_iff_iff,beq_iff_eq,decide_eq_true_eq]
 exact ⟨fun h=>by rw [h],fun h=>by cases h;rfl⟩
theorem keyLaw_int {kt:TypeId} {kk:IntKind} (hk:P.underlying kt=some (.int kk)):KeyLaw P kt (.int kk) where
 ints:=rfl
 ck:=fun e w h=>by rw [h.1];exact run_key_int hk e _
 fi:=fun {R w0 x us α kvs es} w h hM=>by
  obtain ⟨r,h1,h2⟩:=find_now (k:=.int kk) (td:=.int kk) (x:=x) rfl (fun y vs hy=>by rw [h.1,hy.1];simp [valOf,Instr.sameNow,keyEq];exact Bool.eq_iff_iff.2 (by simp)) h 0 hM
  exact ⟨r,run_find_now hk h1,h2⟩
 sb:=fun h=>by rw [h.1];simp [valOf,Instr.sameBits]
theorem keyLaw_str {kt:TypeId} (hk:P.underlying kt=some .string):KeyLaw P kt .str where
 ints:=rfl
 ck:=fun {R w0 x us} e w h=>by
  have:∀ n,(Instr.checkKey e (n+1) kt (.string x)).run P w=.ok () w:=fun n=>by simp [Instr.checkKey,run_underlying hk]
  rw [h.1]
  exact this 9999
 fi:=fun {R w0 x us α kvs es} w h hM=>by
  obtain ⟨r,h1,h2⟩:=find_now (k:=.str) (td:=.string) (x:=x) rfl (fun y vs hy=>by rw [h.1,hy.1];simp [valOf,Instr.sameNow,keyEq];exact bbeq x y) h 0 hM
  exact ⟨r,run_find_now hk h1,h2⟩
 sb:=fun {R w0 x us} h=>by
  rw [h.1]
  exact (bbeq x x).trans (by simp)
theorem part_fields (w:World) {R:Nat→Prop} {w0:World} {n:Nat}:∀ (l:List Field) (ty:Ty) (x:ty.El) (off:Nat) (us cu:List Value),eqOk.eqFs P (eqOk P n) off l=some ty→RelEl R w0 ty x us→cu.drop off=us →
 ∀ f ∈ l, f.name ≠ "_" ∧ ∃ v, (part f.type cu.toArray f.offset).run P w = .ok v w
 | [],_,_,_,_,_,_,_,_=>fun f hf=>by cases hf
 | [f],ty,x,off,us,cu,h,hx,hu=>fun f' hf'=>by
   simp only [eqOk.eqFs] at h
   split at h <;> try (cases h;done)
   rename_i hn
   split at h <;> try (cases h;done)
   rename_i a ha
   split at h <;> try (cases h;done)
   rename_i hs
   cases h
   obtain ⟨td,htd,h1⟩:=eqOk_facts ha
   obtain ⟨i,hi'⟩:=info_of_underlying htd
   rw [cellsOf_info hi'] at hs
   have p1:=run_part w htd hi' cu us [] f.offset (by rw [hn.2,hu];simp) (by rw [RelEl_len hx,hs]) (fun h=>by rw [RelEl_len hx,h1 h])
   rw [List.mem_singleton] at hf'
   subst hf'
   exact ⟨hn.1,_,p1⟩
 | f::f'::r,ty,x,off,us,cu,h,hx,hu=>fun f2 hf2=>by
   simp only [eqOk.eqFs] at h
   split at h <;> try (cases h;done)
   rename_i hn
   split at h <;> try (cases h;done)
   rename_i a b ha hb
   split at h <;> try (cases h;done)
   rename_i hs
   cases h
   obtain ⟨td,htd,h1⟩:=eqOk_facts ha
   obtain ⟨i,hi'⟩:=info_of_underlying htd
   have hs':=hs
   rw [cellsOf_info hi'] at hs
   obtain ⟨u1,u2,eu,hu1,hu2⟩:=hx
   have p1:=run_part w htd hi' cu u1 u2 f.offset (by rw [hn.2,hu,eu]) (by rw [RelEl_len hu1,hs]) (fun h=>by rw [RelEl_len hu1,h1 h])
   rcases List.mem_cons.1 hf2 with rfl|hf2
   ·exact ⟨hn.1,_,p1⟩
   ·exact part_fields w (f'::r) b x.2 (off+P.cellsOf f.type) u2 cu hb hu2 (by rw [← List.drop_drop,hu,eu,← hs',← RelEl_len hu1];simp) f2 hf2
theorem run_ask_keys (w:World) {kt:TypeId} {k:Ty} (hk:eqOk P 20 kt=some k) (hints:intsT k=true) (hv:∀ us,valOf k us=mkVal P kt us) {R:Nat→Prop} {w0:World} {x:k.El} {us:List Value} {α:Type} (hx:RelEl R w0 k x us):∀ {kvs:List (k.El × α)} {es:List MapEntry} (i:Nat),KeyE R w0 k kvs es →
 ∃ r,(Instr.findAsking kt (valOf k us) es i).run P w=.ok r w∧FoundI k x us kvs es i r
 | [],[],i,_=>⟨none,by simp [Instr.findAsking],.inl ⟨rfl,rfl⟩⟩
 | [],_::_,_,h=>h.elim
 | _::_,[],_,h=>h.elim
 | p::kvs,e::es,i,⟨⟨vs,h1,h2⟩,h5⟩=>by
   have q:(Op.equal kt (valOf k us) e.key).run P w=.ok (keyEq k x p.1) w:=by
    rw [h2,hv,hv]
    unfold Op.equal Op.maxDepth
    exact run_eqIn w 20 9980 kt k x p.1 us vs _ hk hx h1 (eqTy_keys hints)
   cases hq:keyEq k x p.1
   ·obtain ⟨r,h6,h7⟩:=run_ask_keys w hk hints hv hx (i+1) h5
    refine ⟨r,?_,found_not hq h7⟩
    rw [Instr.findAsking]
    simp only [Sem.run_bind,q,hq,Result.andThen_ok,Bool.false_eq_true,if_false]
    exact h6
   ·refine ⟨some (i,e.val),?_,found_yes hq ?_⟩
    ·rw [Instr.findAsking]
     simp only [Sem.run_bind,q,hq,Result.andThen_ok,if_true,Sem.run_pure]
    ·rw [h2]
     have:=(keyEq_iff hints).1 hq
     rw [← this] at h1
     rw [keys_det hints h1 hx]
theorem keyLaw {kt:TypeId} {k:Ty} (h:keyTy P kt=some k):KeyLaw P kt k:=by
 unfold keyTy at h
 split at h <;> try (cases h;done)
 ·rename_i kk hu
  cases h
  exact keyLaw_int hu
 ·rename_i hu
  cases h
  exact keyLaw_str hu
 ·rename_i fs hu
  split at h <;> try (cases h;done)
  rename_i a b he
  split at h <;> try (cases h;done)
  rename_i hc
  cases h
  obtain ⟨hints,hall⟩:=hc
  have hag:isAggOf P kt=true:=by simp [isAggOf,hu]
  have hv:∀ us,valOf (.pair a b) us=mkVal P kt us:=fun us=>by simp [valOf,mkVal,hag]
  have hfi:∀ f∈fs.toList,∃ q,P.underlying f.type=some (.int q):=fun f hf=>by
   have:=List.all_eq_true.1 hall f hf
   split at this
   ·rename_i q hq;exact ⟨q,hq⟩
   ·cases this
  have heq:eqOk.eqFs P (eqOk P 19) 0 fs.toList=some (.pair a b):=by
   unfold eqOk at he
   simp only [hu] at he
   split at he
   ·cases he
   ·exact he
  refine ⟨hints,fun {R w0 x us} e w hx=>?_,fun {R w0 x us α kvs es} w hx hM=>?_,fun {R w0 x us} hx=>?_⟩
  ·show (Instr.checkKey e (9998+1+1) kt (.agg us.toArray)).run P w=.ok () w
   rw [Instr.checkKey]
   simp only [Sem.run_bind,run_underlying hu,Result.andThen_ok]
   rw [← Array.forIn_toList]
   have each:=part_fields (P:=P) w fs.toList _ x 0 us us heq hx (by simp)
   clear heq hall he hx
   generalize fs.toList=L at each hfi
   induction L with
   | nil=>simp
   | cons f L ih =>
     obtain ⟨hn,v',p1⟩:=each f (by simp)
     obtain ⟨q,hq⟩:=hfi f (by simp)
     have c1:(Instr.checkKey e (9998+1) f.type v').run P w=.ok () w:=by rw [Instr.checkKey];simp only [Sem.run_bind,run_underlying hq,Result.andThen_ok,Sem.run_pure]
     simp only [List.forIn_cons,Sem.run_bind,hn,ne_eq,not_false_eq_true,if_true,Result.andThen_ok,p1,c1,Sem.run_pure]
     exact ih (fun y hy=>each y (by simp [hy])) (fun y hy=>hfi y (by simp [hy]))
  ·obtain ⟨r,h1,h2⟩:=run_ask_keys w he hints hv hx 0 hM
   refine ⟨r,?_,h2⟩
   rw [run_findKey_eq w (by simp [hu])]
   exact h1
  ·show Instr.sameBits 10000 (.agg us.toArray) (.agg us.toArray)=true
   have hk:=keys_ints hints hx
   simp only [Instr.sameBits,beq_self_eq_true,Bool.true_and,List.all_eq_true]
   intro p hp
   obtain ⟨u,hu',rfl⟩:∃ u∈us,p=(u,u):=by
    obtain ⟨i,hi,e⟩:=List.getElem_of_mem hp
    rw [List.getElem_zip] at e
    exact ⟨_,List.getElem_mem _,e.symm⟩
   rcases hk u hu' with ⟨kk,n,rfl⟩|⟨s,rfl⟩
   ·simp [Instr.sameBits]
   ·exact (bbeq s s).trans (by simp)
theorem make_did (hT:TTok P tt) (hrel:Rel C g R st a w) {t:TypeId} {ti:TI} (hl:look tt.1 t=some ti) {d:Nat} {li:List Nat} {res:Res} {rd:List Nat} {row:Nat→Option AObj}
 (h:(evMake d ti).run row li=some (res,rd)) (hf:freshAll st.ks res.new=true):Did P C st a w (Instr.makeMap t none) res:=by
 have hv:=RelV.own (g:=updG g d ⟨0,.map (some w.heap.size)⟩) (K:=fun r=>mem (appK [d] st.ks) r=true) (R:=R) (w:=w.alloc (.map #[] 0)) (r:=d) (by simp [appK,mem_cons]) (by rw [updG_same];simp [Value.oneCell'])
 rw [updG_same] at hv
 unfold evMake at h
 split at h <;> try exact (fX h).elim
 ·rename_i k v z hd
  rw [ret_run h] at hf ⊢
  have hki:intsT k=true:=by
   obtain ⟨_,_,_,_,_,_,_,htd,_⟩:=hT.info hl
   rw [hd] at htd
   obtain ⟨kt,et,_,_,_,_,huk,_⟩:=td_map htd
   exact (keyLaw huk).ints
  refine ⟨.map (some w.heap.size),w.alloc (.map #[] 0),updG g d ⟨0,.map (some w.heap.size)⟩,R,rfl,?_,hv⟩
  refine hrel.new1 hf rfl rfl rfl (by simp) (fun b hb=>Go.RowKit.Below.heap_alloc w _ b hb) ?_ (fun b hb=>?_)
  ·refine ⟨w.heap.size,#[],0,by rw [updG_same],by simpa using heap_alloc_new w (.map #[] 0),⟨⟨[],.refl _,?_⟩,by simp,by simp,.nil,hki⟩⟩
   simp [MapE]
  ·simp only [Own,updG_same] at hb
   cases hb
   exact Nat.le_refl _
 ·rename_i k x y hd
  rw [ret_run h] at hf ⊢
  refine ⟨.map (some w.heap.size),w.alloc (.map #[] 0),updG g d ⟨0,.map (some w.heap.size)⟩,R,rfl,?_,hv⟩
  refine hrel.new1 hf rfl rfl rfl (by simp) (fun b hb=>Go.RowKit.Below.heap_alloc w _ b hb) ?_ (fun b hb=>?_)
  ·refine ⟨w.heap.size,#[],0,[],by rw [updG_same],by simpa using heap_alloc_new w (.map #[] 0),⟨?_,by simp,by simp,List.nodup_nil⟩,fun j d h=>by cases h⟩
   simp [MMapE]
  ·simp only [Own,updG_same] at hb
   rcases hb with hb|⟨bm,es,clock,i,h1,h2,_,e,h3,_⟩
   ·cases hb
    exact Nat.le_refl _
   ·cases h1
    rw [show (w.alloc (.map #[] 0)).heap[w.heap.size]?=some (.map #[] 0) by simpa using heap_alloc_new w (.map #[] 0)] at h2
    cases h2
    simp at h3
theorem Rel.two (hrel:Rel C g R st a w) {g':Nat→Gh} {d r:Nat} {o':AObj} {new:List Nat} {w':World} (hdr:d≠r) (hg:∀ r,mem st.ks r=true→g' r=g r) (hnew:∀ r,mem new r=true→¬ mem st.ks r=true∧r < 100000) (hkd:mem st.ks d=true∨mem new d=true) (hkr:mem st.ks r=true)
 (hos:w'.os=w.os) (htape:w'.tape=w.tape) (hout:w'.output=w.output) (hs:w.heap.size≤w'.heap.size)
 (hblk:∀ b,b < w.heap.size→w'.heap[b]?=w.heap[b]?∨∃ q o,(q=d∨q=r)∧look st.rows q=some o∧Own g w q o b)
 (hrow:(∀ ad:Addr,R ad.block→w'.cell? ad=w.cell? ad)→RowH g' (fun r=>mem st.ks r=true∨mem new r=true) R w' d o')
 (hown:∀ b,Own g' w' d o' b→¬ R b∧(w.heap.size≤b∨∃ q o,(q=d∨q=r)∧look st.rows q=some o∧Own g w q o b)) :
 Rel C g' R ⟨st.n,st.slots,st.gt,appK new st.ks,addRows [(d,o'),(r,.dead)] st.rows⟩ a w':=by
 have hlk:∀ r' o1,look [(d,o'),(r,AObj.dead)] r'=some o1→(r'=d∧o1=o')∨(r'=r∧o1=.dead):=fun r' o1 h=>by
  rw [look_cons] at h
  by_cases e:d=r'
  ·simp [e] at h;exact .inl ⟨e.symm,h.symm⟩
  ·simp [e] at h
   rw [look_cons] at h
   by_cases e2:r=r'
   ·simp [e2] at h;exact .inr ⟨e2.symm,h.symm⟩
   ·simp [e2,look] at h
 have hcell:∀ ad:Addr,R ad.block→w'.cell? ad=w.cell? ad:=fun ad h=>cell_of_heap (by
  rcases hblk _ (hrel.heap.rlt _ h) with h1|⟨q,o,_,h1,h2⟩
  ·exact h1
  ·exact absurd h (hrel.heap.own q o _ h1 h2).1)
 refine hrel.gen hg (fun r hr=>by rw [mem_appK,hr];simp) (fun _ h=>h) ?_
 have:=hrel.heap.gen (g':=g') (R':=R) (w':=w') [(d,o'),(r,.dead)] new (fun q=>q=d∨q=r) hnew
  (fun r' o1 h=>by rcases hlk r' o1 h with ⟨h6,_⟩|⟨h6,_⟩;rw [h6];exact hkd;exact .inl (by rw [h6];exact hkr))
  (fun r' h=>by rcases h with rfl|rfl;exact ⟨o',by rw [look_cons];simp⟩;exact ⟨.dead,by rw [look_cons];simp [hdr,look]⟩)
  hos htape hout hs hblk hg (fun _ h=>h) (fun b hb=>Nat.lt_of_lt_of_le (hrel.heap.rlt b hb) hs) (fun _ h=>.inl h)
  (fun r' o1 h=>by
   rcases hlk r' o1 h with ⟨rfl,rfl⟩|⟨_,rfl⟩
   ·exact hrow hcell
   ·trivial)
  (fun r' o1 b h hb=>by
   rcases hlk r' o1 h with ⟨rfl,rfl⟩|⟨_,rfl⟩
   ·exact hown b hb
   ·simp [Own] at hb)
  (fun r1 r2 o1 o2 b h6 h7 h8 h9=>by
   rcases hlk r1 o1 h6 with ⟨e1,_⟩|⟨_,e1⟩
   ·rcases hlk r2 o2 h7 with ⟨e2,_⟩|⟨_,e2⟩
    ·rw [e1,e2]
    ·rw [e2] at h9;simp [Own] at h9
   ·rw [e1] at h8;simp [Own] at h8)
 exact ⟨this.1.lists,this.2⟩
theorem Rel.setO (hrel:Rel C g R st a w) {r:Nat} {o o':AObj} {b:Nat} {ob:Obj} (ho:look st.rows r=some o) (hb:Own g w r o b) (hb':∀ b1,Own g { w with heap:=w.heap.setIfInBounds b ob } r o' b1→Own g w r o b1)
 (hrow:(∀ ad:Addr,R ad.block→({ w with heap:=w.heap.setIfInBounds b ob }:World).cell? ad=w.cell? ad)→RowH g (fun r=>mem st.ks r=true) R { w with heap:=w.heap.setIfInBounds b ob } r o') :
 Rel C g R ⟨st.n,st.slots,st.gt,st.ks,(r,o')::st.rows⟩ a { w with heap:=w.heap.setIfInBounds b ob }:=by
 have hlook:∀ r' o1,look [(r,o')] r'=some o1→r'=r∧o1=o':=fun r' o1 h=>by
  rw [look_cons] at h
  by_cases e:r=r'
  ·simp [e] at h;exact ⟨e.symm,h.symm⟩
  ·simp [e,look] at h
 have hsz:({ w with heap:=w.heap.setIfInBounds b ob }:World).heap.size=w.heap.size:=by simp
 have hoth:∀ k,k≠b→({ w with heap:=w.heap.setIfInBounds b ob }:World).heap[k]?=w.heap[k]?:=fun k hk=>by simp [Array.getElem?_setIfInBounds,Ne.symm hk]
 have hRb:∀ k,R k→k≠b:=fun k hk e=>(hrel.heap.own r o b ho hb).1 (e ▸ hk)
 have hcell:∀ ad:Addr,R ad.block→({ w with heap:=w.heap.setIfInBounds b ob }:World).cell? ad=w.cell? ad:=fun ad had=>cell_of_heap (hoth _ (hRb _ had))
 refine hrel.gen (fun _ _=>rfl) (fun _ h=>h) (fun _ h=>h) ?_
 have:=hrel.heap.gen (g':=g) (R':=R) (w':={ w with heap:=w.heap.setIfInBounds b ob }) [(r,o')] [] (fun r'=>r'=r) (fun r hr=>by simp [mem] at hr) (fun r' o1 h=>.inl ((hlook r' o1 h).1 ▸ hrel.heap.keys r o ho)) (fun r' h=>⟨o',by rw [h,look_cons];simp⟩)
  rfl rfl rfl (by rw [hsz];exact Nat.le_refl _) (fun k _=>?_) (fun _ _=>rfl) (fun _ h=>h)
  (fun b hb=>by rw [hsz];exact hrel.heap.rlt b hb) (fun _ h=>.inl h) (fun r' o1 h=>?_) (fun r' o1 b1 h h1=>?_) (fun r1 r2 o1 o2 b h1 h2 _ _=>(hlook r1 o1 h1).1.trans (hlook r2 o2 h2).1.symm)
 ·have h2:=this.1.lists (ks:=st.ks) (rows:=st.rows)
  exact ⟨h2,this.2⟩
 ·by_cases e:k=b
  ·exact .inr ⟨r,o,rfl,ho,by rw [e];exact hb⟩
  ·exact .inl (hoth k e)
 ·obtain ⟨rfl,rfl⟩:=hlook r' o1 h
  have e:(fun r'=>mem st.ks r'=true∨mem [] r'=true)=(fun r'=>mem st.ks r'=true):=by funext r';simp [mem]
  rw [e];exact hrow hcell
 ·obtain ⟨rfl,rfl⟩:=hlook r' o1 h
  have h1:=hb' b1 h1
  exact ⟨(hrel.heap.own _ o b1 ho h1).1,.inr ⟨_,o,rfl,ho,h1⟩⟩
theorem keyInt_rel {k:Ty} {K:Nat→Prop} {x:AV} {y:k.El} {v:Value} (h:keyInt k k x=some y) (hx:RelV g K R w x v):∃ us,RelEl R w k y us∧v=valOf k us:=by
 unfold keyInt at h
 split at h
 ·exact decV_rel h hx
 ·cases h
theorem RelL_keyless {K':Nat→Prop} {g g':Nat→Gh} {R R':Nat→Prop} {w w':World} {K:Nat→Prop} (hR:∀ b,R b→R' b) (hc:∀ ad:Addr,R ad.block→w'.cell? ad=w.cell? ad) {cs:List AV} {vs:List Value} (hw:withinL (fun _=>false) cs=true) (h:RelL g K R w cs vs):RelL g' K' R' w' cs vs :=
 RelL_mono (fun r h=>by simp at h) (fun r h=>by simp at h) hR hc (RelL_within hw h)
theorem calls_of_spec {f:Nat} {s:Spec} (hs:SpecSound PG f s) {r:Ty} (hr:one r=true) {y:r.El} {args:List AV} {vals:List Value} {out:Out} (hraw:s.raw=false) (ho:s.f args []=some out) (hp:out.pre) (hret:decV r out.ret=some y) {R':Nat→Prop} {w':World} (hlt:∀ b,R' b→b < w'.heap.size)
 (hargs:∀ g,RelL g (locK []) R' w' args vals):Calls PG f vals.toArray w' fun e w''=>∃ u,e=.returned u∧RelEl (fun _=>False) w'' r y [u]∧w'.grownBy w'' none:=by
 refine (hs args [] out ho hp (fun _=>rfl) w' (fun _=>⟨0,undef⟩) R' vals hlt (fun i o h=>by simp at h) (fun i o b h=>by simp at h) (fun i j o o' b h=>by simp at h) (hargs _)).mono ?_
 rintro e w'' ⟨u,g',R'',rfl,hh,_,_,hv,_⟩
 refine ⟨u,rfl,?_,⟨hh.os,hh.tape,hh.output,hh.hsize,fun k hk _=>hh.frame k hk (fun ⟨i,o,h,_⟩=>by simp at h)⟩⟩
 obtain ⟨us,h1,h2⟩:=decV_rel hret hv
 cases r <;> simp [one] at hr
 ·obtain ⟨rfl,h3⟩:=h1
  rw [h2];exact ⟨rfl,h3⟩
 ·have h1:us=[.bool y]:=h1
  subst h1
  rw [h2];rfl
theorem seeV_rel {S:Nat→Option Spec} (hP:P=PG) (hS:∀ f s,S f=some s→SpecSound P f s∧∀ args w,(callFunc f args).run P w=.ok (.enter f args) w) {K:Nat→Prop} {t:Ty} {y:AV} {v:Value} (hc:∀ p∈(seeV S t y).2,p) (hy:RelV g K R w y v):RelV g K R w (seeV S t y).1 v:=by
 subst hP
 unfold seeV at hc ⊢
 split
 ·rename_i a r f
  simp only [List.mem_cons,List.not_mem_nil,or_false,forall_eq_or_imp,forall_eq] at hc
  obtain ⟨h1,h2⟩:=hc
  cases hy with
  | fn hf hd =>
  cases hf
  cases hd
  have hcall:∀ args w,(callFunc f args).run PG w=.ok (.enter f args) w:=by
   have:=(h2 a.dflt).1
   unfold preOf at this
   split at this
   ·rename_i s hs;exact (hS f s hs).2
   ·exact this.elim
  refine .ext ⟨f,#[],#[],rfl,hcall,fun R' w' hR hcell hlt x us hx=>?_⟩
  obtain ⟨h3,h4⟩:=h2 x
  unfold preOf at h3
  split at h3 <;> try exact h3.elim
  rename_i s hs
  obtain ⟨h5,h6⟩:=h3
  split at h6 <;> try exact h6.elim
  rename_i o ho
  have ha:ansOf S f r [encV a x]=decV r o.ret:=by unfold ansOf;rw [hs];simp only [ho]
  rw [ha] at h4
  obtain ⟨z,hz⟩:=Option.isSome_iff_exists.1 h4
  simp only [ha,hz,Option.getD_some]
  exact calls_of_spec (hS f s hs).1 h1 h5 ho h6 hz hlt (fun g=>.cons (encV_rel hx) .nil)
 ·rename_i a r f
  simp only [List.mem_cons,List.not_mem_nil,or_false,forall_eq_or_imp,forall_eq] at hc
  obtain ⟨h1,h2⟩:=hc
  cases hy with
  | fn hf hd =>
  cases hf
  cases hd
  have hcall:∀ args w,(callFunc f args).run PG w=.ok (.enter f args) w:=by
   have:=(h2 a.dflt a.dflt).1
   unfold preOf at this
   split at this
   ·rename_i s hs;exact (hS f s hs).2
   ·exact this.elim
  refine .ext ⟨f,#[],#[],rfl,hcall,fun R' w' hR hcell hlt x x' us us' hx hx'=>?_⟩
  obtain ⟨h3,h4⟩:=h2 x x'
  unfold preOf at h3
  split at h3 <;> try exact h3.elim
  rename_i s hs
  obtain ⟨h5,h6⟩:=h3
  split at h6 <;> try exact h6.elim
  rename_i o ho
  have ha:ansOf S f r [encV a x,encV a x']=decV r o.ret:=by unfold ansOf;rw [hs];simp only [ho]
  rw [ha] at h4
  obtain ⟨z,hz⟩:=Option.isSome_iff_exists.1 h4
  simp only [ha,hz,Option.getD_some]
  exact calls_of_spec (hS f s hs).1 h1 h5 ho h6 hz hlt (fun g=>.cons (encV_rel hx) (.cons (encV_rel hx') .nil))
 ·exact hy
theorem seeD_rel {S:Nat→Option Spec} (hP:P=PG) (hS:∀ f s,S f=some s→SpecSound P f s∧∀ args w,(callFunc f args).run P w=.ok (.enter f args) w) {K:Nat→Prop}:∀ {t:Ty} {l c l1:List AV} {p:List Prop} {vs:List Value},seeD S t l=some (c,l1,p)→(∀ q∈p,q)→RelL g K R w l vs→∃ v1 v2,vs=v1++v2∧RelL g K R w c v1∧RelL g K R w l1 v2:=by
 intro t
 induction t with
 | pair a b iha ihb =>
   intro l c l1 p vs h hp hl
   simp only [seeD] at h
   split at h <;> try (cases h;done)
   rename_i c1 l2 p1 h1
   split at h <;> try (cases h;done)
   rename_i c2 l3 p2 h2
   simp only [Option.some.injEq,Prod.mk.injEq] at h
   obtain ⟨rfl,rfl,rfl⟩:=h
   obtain ⟨v1,v2,rfl,h3,h4⟩:=iha h1 (fun q hq=>hp q (List.mem_append.2 (.inl hq))) hl
   obtain ⟨v3,v4,rfl,h5,h6⟩:=ihb h2 (fun q hq=>hp q (List.mem_append.2 (.inr hq))) h4
   exact ⟨v1++v3,v4,by simp,RelL_append h3 h5,h6⟩
 | _ =>
   intro l c l1 p vs h hp hl
   cases hl with
   | nil=>simp [seeD] at h
   | cons h1 h2 =>
     simp only [seeD] at h
     split at h <;> try (cases h;done)
     simp only [Option.some.injEq,Prod.mk.injEq] at h
     obtain ⟨rfl,rfl,rfl⟩:=h
     exact ⟨[_],_,rfl,.cons (seeV_rel hP hS hp h1) .nil,h2⟩
theorem seeG_rel {S:Nat→Option Spec} (hP:P=PG) (hS:∀ f s,S f=some s→SpecSound P f s∧∀ args w,(callFunc f args).run P w=.ok (.enter f args) w) {K:Nat→Prop} {t:Ty} {y:AV} {v:Value} (hc:∀ p∈(seeG S t y).2,p) (hy:RelV g K R w y v):RelV g K R w (seeG S t y).1 v:=by
 unfold seeG at hc ⊢
 split
 ·split
  ·rename_i cs ds p hd
   simp only [hd] at hc
   cases hy with
   | agg hy =>
   obtain ⟨v1,v2,e,h1,h2⟩:=seeD_rel hP hS hd hc hy
   cases h2
   simp only [List.append_nil] at e
   subst e
   exact .agg h1
  ·exact hy
 ·rename_i hn
  split at hc
  ·exact (hn _ rfl).elim
  ·exact seeV_rel hP hS hc hy
theorem updM_did (hT:TTok P tt) (hrel:Rel C g R st a w) {t:TypeId} {ti:TI} (hl:look tt.1 t=some ti) {k a0 b0:Ty} (hd:ti.d=.mmap k a0 b0) {r:Nat} {x y:AV} {u vx vy:Value} {li:List Nat} {res:Res} {rd:List Nat}
 (h:(evUpdM k r x y).run (look st.rows) li=some (res,rd)) (hc:∀ p∈res.conds,p) (hm:RelV g (fun r=>mem st.ks r=true) R w (.own r) u) (hx:RelV g (fun r=>mem st.ks r=true) R w x vx) (hy:RelV g (fun r=>mem st.ks r=true) R w y vy) :
 res.av=.junk∧∃ w',(Instr.mapUpdate t u vx vy).run P w=.ok () w'∧Rel C g R ⟨st.n,st.slots,st.gt,appK res.new st.ks,addRows res.upd st.rows⟩ a w':=by
 unfold evUpdM at h
 split at h <;> try exact (fX h).elim
 rename_i m
 split at h <;> try exact (fX h).elim
 rename_i hmr
 simp only [RQ.run] at h
 split at h <;> try (cases h;done)
 rename_i o ho
 split at h <;> try exact (fX h).elim
 rename_i k' a1 b1 kvss
 simp only [RQ.run] at h
 split at h <;> try (cases h;done)
 rename_i o2 ho2
 split at h <;> try exact (fX h).elim
 rename_i a2 b2 l0
 split at h <;> try exact (fX h).elim
 rename_i hk' ha' hb' z _ _ _ hz
 obtain ⟨l,e1,hrow⟩:=castM_eq ha' hb' l0 (fun l=>RQ.ret (⟨[mmIdx k' z kvss=none],AV.junk,[(r,.mmap k' a1 b1 (kvss++[(z,l)]) none),(m,.dead)],[]⟩:Res))
 rw [e1] at h
 rw [ret_run h] at hc ⊢
 replace hc:=hc _ (List.mem_singleton.2 rfl)
 obtain ⟨hk'⟩:=hk'
 subst hk'
 have hmr':r≠m:=fun e=>by subst e;simp at hmr
 obtain ⟨i,zz,hi,hsz,hz0,hoz,ha,htd,_⟩:=hT.info hl
 rw [hd] at htd
 obtain ⟨kt,et,kt2,et2,hu,_,huk,_⟩:=td_mmap htd
 have KL:=keyLaw huk
 obtain ⟨ku,hku,rfl⟩:=keyInt_rel (g:=g) hz hx
 obtain ⟨bm,es,clock,ns,hgr,hb,hM,_⟩:=hrel.heap.held r _ ho
 have hR1:=hrow _ _ _ _ _ (hrel.heap.held m _ ho2)
 obtain ⟨n,es2,cl2,hgm,hb2,hM2⟩:=hR1
 have hor:Own g w r (.mmap k' a1 b1 kvss none) bm:=.inl hgr
 have hom:Own g w m (.map a2 b2 l0) n:=hgm
 have hnb:n≠bm:=fun e=>by
  subst e
  exact hmr' (hrel.heap.sep r m _ _ _ ho ho2 hor hom)
 obtain ⟨q1,q2,q3⟩:=MMapE_iff.1 hM.rel
 have hon:∀ j n,ns[j]?=some n→Own g w r (.mmap k' a1 b1 kvss none) n:=fun j n hj=>by
  have hj':j < ns.length:=(List.getElem?_eq_some_iff.1 hj).1
  have hje:es.toList[j]?=some (es.toList[j]'(by omega)):=List.getElem?_eq_getElem _
  exact .inr ⟨bm,es,clock,j,hgr,hb,rfl,_,hje,(q3 j _ _ n (List.getElem?_eq_getElem (by omega)) hje hj).val⟩
 have hnn:n ∉ ns:=fun hn=>by
  obtain ⟨j,hj⟩:=List.mem_iff_getElem?.1 hn
  exact hmr' (hrel.heap.sep r m _ _ _ ho ho2 (hon j n hj) hom)
 cases hm with
 | own hkr h1 =>
 cases hy with
 | own hkm h1' =>
 rw [hgr,hgm]
 obtain ⟨fr,h2,hF⟩:=KL.fi w hku (MMapE_key hM.rel)
 have hck:=KL.ck (R:=R) (w0:=w) false w hku
 rcases hF with ⟨rfl,_⟩|⟨_,_,_,_,_,h3⟩
 rotate_left
 ·rw [hc] at h3;cases h3
 obtain ⟨w',hw'⟩:∃ w',w'={ w with heap:=w.heap.setIfInBounds bm (.map (es.push { key:=valOf k' ku,val:=.map (some n),born:=clock }) (clock+1)) }:=⟨_,rfl⟩
 have hbm:w'.heap[bm]?=some (.map (es.push { key:=valOf k' ku,val:=.map (some n),born:=clock }) (clock+1)):=by rw [hw'];simp [Array.getElem?_setIfInBounds,(Array.getElem?_eq_some_iff.1 hb).1]
 have hoth:∀ c,c≠bm→w'.heap[c]?=w.heap[c]?:=fun c hc=>by rw [hw'];simp [Array.getElem?_setIfInBounds,Ne.symm hc]
 refine ⟨rfl,w',?_,?_⟩
 ·rw [hw']
  simp [Instr.mapUpdate,run_underlying hu,run_getMap hb,hck,h2,run_setMap _ hb]
 refine hrel.two (new:=[]) hmr' (fun _ _=>rfl) (fun r h=>by simp [mem] at h) (.inl hkr) hkm (by rw [hw']) (by rw [hw']) (by rw [hw']) (by rw [hw'];simp) (fun c hc=>?_) (fun hcell=>?_) (fun c hc=>?_)
 ·by_cases e:c=bm
  ·exact .inr ⟨r,_,.inl rfl,ho,by rw [e];exact hor⟩
  ·exact .inl (hoth c e)
 ·refine ⟨bm,_,_,ns++[n],hgr,hbm,⟨?_,fun e he=>?_,?_,?_⟩,fun j d h=>by cases h⟩
  ·rw [Array.toList_push]
   refine MMapE_iff.2 ⟨by simp [q1],by simp [q2],fun j x e n' hx he hn=>?_⟩
   by_cases hj:j < kvss.length
   ·rw [List.getElem?_append_left hj] at hx
    rw [List.getElem?_append_left (by omega)] at he hn
    have q:=q3 j x e n' hx he hn
    obtain ⟨us,q4,q5⟩:=q.key
    refine ⟨⟨us,RelEl_mono (fun _ h=>h) hcell q4,q5⟩,q.val,q.ne,fun hh=>?_⟩
    obtain ⟨es',cl',q6,q7⟩:=q.inn hh
    exact ⟨es',cl',by rw [hoth _ q.ne];exact q6,MapH_mono (fun _ h=>h) hcell q7⟩
   ·have hj2:j=kvss.length:=by
     have:=(List.getElem?_eq_some_iff.1 hx).1
     simp at this
     omega
    subst hj2
    rw [List.getElem?_concat_length] at hx
    rw [← q1,List.getElem?_concat_length] at he
    rw [← q2,List.getElem?_concat_length] at hn
    cases hx;cases he;cases hn
    exact ⟨⟨ku,RelEl_mono (fun _ h=>h) hcell hku,rfl⟩,rfl,hnb,fun _=>⟨es2,cl2,by rw [hoth _ hnb];exact hb2,MapH_mono (fun _ h=>h) hcell hM2⟩⟩
  ·rw [Array.toList_push] at he
   rcases List.mem_append.1 he with he|he
   ·have:=hM.lt e he;omega
   ·rw [List.mem_singleton.1 he];exact Nat.lt_succ_self _
  ·rw [Array.toList_push,List.map_append,List.nodup_append]
   refine ⟨hM.nd,by simp,fun x hx y hy=>?_⟩
   obtain ⟨e,he,rfl⟩:=List.mem_map.1 hx
   simp at hy
   subst hy
   have:=hM.lt e he
   omega
  ·rw [List.nodup_append]
   exact ⟨hM.sep,by simp,fun x hx y hy e=>by rw [List.mem_singleton.1 hy] at e;exact hnn (e ▸ hx)⟩
 ·have sol:∀ {q:Nat} {o:AObj},(q=r∨q=m)→look st.rows q=some o→Own g w q o c→¬ R c∧(w.heap.size≤c∨∃ q o,(q=r∨q=m)∧look st.rows q=some o∧Own g w q o c):=fun hq h1 h2=>⟨(hrel.heap.own _ _ c h1 h2).1,.inr ⟨_,_,hq,h1,h2⟩⟩
  rcases hc with hc|⟨bm',es',cl',j,h4,h5,_,e,h6,h7⟩
  ·rw [hgr] at hc
   cases hc
   exact sol (.inl rfl) ho hor
  ·rw [hgr] at h4
   cases h4
   rw [hbm] at h5
   cases h5
   rw [Array.toList_push] at h6
   by_cases hj:j < es.toList.length
   ·rw [List.getElem?_append_left hj] at h6
    exact sol (.inl rfl) ho (.inr ⟨bm,es,clock,j,hgr,hb,rfl,e,h6,h7⟩)
   ·have hj2:j=es.toList.length:=by
     have:=(List.getElem?_eq_some_iff.1 h6).1
     simp at this hj
     simp
     omega
    subst hj2
    rw [List.getElem?_concat_length] at h6
    cases h6
    cases h7
    exact sol (.inr rfl) ho2 hom
theorem upd_did {S:Nat→Option Spec} (hT:TTok P tt) (hS:∀ f s,S f=some s→SpecSound P f s∧∀ args w,(callFunc f args).run P w=.ok (.enter f args) w) (hrel:Rel C g R st a w) {t:TypeId} {ti:TI} (hl:look tt.1 t=some ti) {m x y:AV} {u vx vy:Value} {li:List Nat} {res:Res} {rd:List Nat}
 (h:(evUpd S ti m x y).run (look st.rows) li=some (res,rd)) (hc:∀ p∈res.conds,p) (hm:RelV g (fun r=>mem st.ks r=true) R w m u) (hx:RelV g (fun r=>mem st.ks r=true) R w x vx) (hy:RelV g (fun r=>mem st.ks r=true) R w y vy) :
 res.av=.junk∧∃ w',(Instr.mapUpdate t u vx vy).run P w=.ok () w'∧Rel C g R ⟨st.n,st.slots,st.gt,appK res.new st.ks,addRows res.upd st.rows⟩ a w':=by
 unfold evUpd at h
 split at h <;> try exact (fX h).elim
 ·rename_i hd
  exact updM_did hT hrel hl hd h hc hm hx hy
 rename_i k v z r hd
 simp only [RQ.run] at h
 split at h <;> try (cases h;done)
 rename_i o ho
 split at h <;> try exact (fX h).elim
 rename_i k' v' kvs0
 split at h <;> try exact (fX h).elim
 rename_i hk' hv' kx vx' _ _ hkx hvy
 obtain ⟨kvs,e1,hrow⟩:=castM_eq hk' hv' kvs0 (fun kvs=>RQ.ret (⟨(seeG S v y).2,AV.junk,[(r,.map k v (mapSet k v kx vx' kvs))],[]⟩:Res))
 rw [e1] at h
 rw [ret_run h] at hc ⊢
 replace hy:=seeG_rel hT.1 hS hc hy
 obtain ⟨i,zz,hi,hsz,hz,hoz,ha,htd,_⟩:=hT.info hl
 rw [hd] at htd
 obtain ⟨kt,et,ei,zv,c,hu,huk,hty,hei,hez,hoc,rfl⟩:=td_map htd
 have KL:=keyLaw huk
 obtain ⟨ku,hku,rfl⟩:=keyInt_rel (g:=g) hkx hx
 obtain ⟨us,hv1,rfl⟩:=decV_rel hvy hy
 have hR0:=hrow _ _ _ _ _ (hrel.heap.held r _ ho)
 obtain ⟨b,es,clock,hgr,hb,hM⟩:=hR0
 obtain ⟨l,hpm,hME⟩:=hM.rel
 cases hm with
 | own hkr h1 =>
 rw [hgr]
 have hown:Own g w r (.map k' v' kvs0) b:=hgr
 obtain ⟨fr,h2,hF⟩:=KL.fd w hku hME
 have hck:=KL.ck (R:=R) (w0:=w) false w hku
 have hsb:=KL.sb hku
 have hfp:=find_perm KL.ints (x:=kx) hpm hM.dk
 rcases hF with ⟨rfl,h3⟩|⟨j,e,p,rfl,h3,h5,h6,h8,h9⟩
 ·refine ⟨rfl,{ w with heap:=w.heap.setIfInBounds b (.map (es.push { key:=valOf k ku,val:=valOf v us,born:=clock }) (clock+1)) },?_,?_⟩
  ·simp [Instr.mapUpdate,run_underlying hu,run_getMap hb,hck,h2,run_setMap _ hb]
  ·refine hrel.setO ho hown (fun b1 h=>h) fun hcell=>?_
   refine ⟨b,es.push { key:=valOf k ku,val:=valOf v us,born:=clock },clock+1,hgr,by simp [Array.getElem?_setIfInBounds,(Array.getElem?_eq_some_iff.1 hb).1],?_⟩
   simp only [Array.toList_push]
   refine ⟨⟨_,mapSet_new hpm (hfp ▸ h3),MapE_app (us:=ku) (keys_move KL.ints hku) rfl (RelEl_mono (fun _ h=>h) hcell hv1) rfl (MapE_mono (fun _ h=>h) hcell hME)⟩,fun e he=>?_,?_,mapSet_dk KL.ints hM.dk,KL.ints⟩
   ·rcases List.mem_append.1 he with he|he
    ·have:=hM.lt e he;omega
    ·rw [List.mem_singleton.1 he];exact Nat.lt_succ_self _
   ·rw [List.map_append,List.nodup_append]
    refine ⟨hM.nd,by simp,fun x hx y hy=>?_⟩
    obtain ⟨e,he,rfl⟩:=List.mem_map.1 hx
    simp at hy
    subst hy
    have:=hM.lt e he
    omega
 ·refine ⟨rfl,{ w with heap:=w.heap.setIfInBounds b (.map (es.modify j fun e=>{ e with key:=valOf k ku,val:=valOf v us }) clock) },?_,?_⟩
  ·have h3':es[j]?=some e:=by simpa using h3
   simp only [Nat.zero_add] at h2
   simp [Instr.mapUpdate,run_underlying hu,run_getMap hb,hck,h2,run_setMap _ hb,h3',Instr.keyThatStays,h6,hsb]
  ·refine hrel.setO ho hown (fun b1 h=>h) fun hcell=>?_
   refine ⟨b,es.modify j fun e=>{ e with key:=valOf k ku,val:=valOf v us },clock,hgr,by simp [Array.getElem?_setIfInBounds,(Array.getElem?_eq_some_iff.1 hb).1],?_⟩
   have hlt:j < es.toList.length:=(List.getElem?_eq_some_iff.1 h3).1
   have hm':(es.modify j fun e=>{ e with key:=valOf k ku,val:=valOf v us }).toList=es.toList.set j { e with key:=valOf k ku,val:=valOf v us }:=by
    rw [Array.toList_modify]
    refine List.ext_getElem? fun i=>?_
    rw [List.getElem?_modify,List.getElem?_set]
    by_cases hij:j=i
    ·subst hij
     have hlt':j < es.size:=by simpa using hlt
     have hej:es[j]=e:=by
      have:=h3
      rw [Array.getElem?_toList,Array.getElem?_eq_getElem hlt'] at this
      exact Option.some.inj this
     simp [h3,hlt',hej]
    ·simp [hij]
   rw [hm']
   refine ⟨⟨_,mapSet_old KL.ints hpm hM.dk (hfp ▸ h8) h5 h9,MapE_set (us:=ku) (keys_move KL.ints hku) rfl (RelEl_mono (fun _ h=>h) hcell hv1) rfl (MapE_mono (fun _ h=>h) hcell hME)⟩,fun e' he=>?_,?_,mapSet_dk KL.ints hM.dk,KL.ints⟩
   ·rcases List.mem_or_eq_of_mem_set he with he|rfl
    ·exact hM.lt e' he
    ·exact hM.lt e (List.mem_of_getElem? h3)
   ·have:(es.toList.set j { e with key:=valOf k ku,val:=valOf v us }).map (·.born)=es.toList.map (·.born):=by
     rw [List.map_set]
     refine List.ext_getElem? fun i=>?_
     rw [List.getElem?_set]
     split
     ·rename_i hij
      subst hij
      rw [if_pos (by simpa using hlt),List.getElem?_map,h3]
      rfl
     ·rfl
    rw [this]
    exact hM.nd
theorem lookup_sound (hT:TTok P tt) {K:Nat→Prop} {row:Nat→Option AObj} (hrow:∀ r o,row r=some o→RowH g K R w r o) {t:TypeId} {ti:TI} (hl:look tt.1 t=some ti) {ok:Bool} {m x:AV} {u vx:Value} {li:List Nat} {res:Res} {rd:List Nat}
 (h:(evLookup ti ok m x).run row li=some (res,rd)) (hc:∀ p∈res.conds,p) (hm:RelV g K R w m u) (hx:RelV g K R w x vx):Pure P g K R w (Instr.lookup t u vx ok) res:=by
 have okR:∀ (y:AV) (q:Value) (f:Bool),RelV g K R w y q→RelV g K R w (okV ok y f) (if ok then .tuple #[q,.bool f] else q):=fun y q f hq=>by
  clear h hc
  cases ok
  ·exact hq
  ·exact .tup (.cons hq (.cons .bool .nil))
 unfold evLookup at h
 split at h <;> try exact (fX h).elim
 ·rename_i k0 a0 b0 r hd
  split at h <;> try exact (fX h).elim
  simp only [RQ.run] at h
  split at h <;> try (cases h;done)
  rename_i o ho
  unfold evLookM at h
  split at h <;> try exact (fX h).elim
  rename_i k' a1 b1 kvss hole
  obtain ⟨i,zz,hi,hsz,hz,hoz,ha,htd,_⟩:=hT.info hl
  rw [hd] at htd
  obtain ⟨kt,et,kt2,et2,hu,hue,huk,_,_,hzm⟩:=td_mmap htd
  split at h <;> try exact (fX h).elim
  rename_i hk' kx _ hkx
  obtain ⟨hk'⟩:=hk'
  subst hk'
  have KL:=keyLaw huk
  obtain ⟨ku,hku,rfl⟩:=keyInt_rel (g:=g) hkx hx
  obtain ⟨bm,es,clock,ns,hgr,hb,hM,hh⟩:=hrow r _ ho
  obtain ⟨fr,h2,hF⟩:=KL.fi w hku (MMapE_key hM.rel)
  have hck:=fun e=>KL.ck (R:=R) (w0:=w) e w hku
  cases hm with
  | own hkr h1 =>
  rw [hgr]
  have hzero:(zeroValue et).run P w=.ok (.map none) w:=let ⟨_,h1,h2⟩:=zMap_run hzm;run_zero w h1 h2
  split at h
  ·rw [b2_run h]
   refine ⟨rfl,rfl,?_⟩
   rcases hF with ⟨rfl,h3⟩|⟨j,e,rfl,h3,h6,h8⟩
   ·refine ⟨.map none,?_,.ext ?_⟩
    ·simp [Instr.lookup,run_underlying hu,run_getMap hb,hck,h2,hzero]
    ·exact ⟨none,rfl,by rw [h3]⟩
   ·obtain ⟨_,n,_,_,h9⟩:=MMapE_one hM.rel h3
    refine ⟨e.val,?_,.ext ?_⟩
    ·simp [Instr.lookup,run_underlying hu,run_getMap hb,hck,h2]
    ·exact ⟨some n,h9.val,by rw [h8];rfl⟩
  ·rename_i j d
   rw [b2_run h] at hc ⊢
   have hj:=hc _ (List.mem_singleton.2 rfl)
   refine ⟨rfl,rfl,?_⟩
   obtain ⟨_,hkd,n,h4,h5⟩:=hh j d rfl
   rcases hF with ⟨rfl,h3⟩|⟨j',e,rfl,h3,h6,h8⟩
   ·rw [hj] at h3;cases h3
   ·rw [hj] at h8
    cases h8
    obtain ⟨_,n',_,h10,h9⟩:=MMapE_one hM.rel h3
    rw [h4] at h10
    cases h10
    refine ⟨e.val,?_,?_⟩
    ·simp [Instr.lookup,run_underlying hu,run_getMap hb,hck,h2]
    ·rw [h9.val,← h5]
     exact .own hkd (by rw [h5];rfl)
 rotate_left
 ·rename_i k v z hd
  obtain ⟨i,zz,hi,hsz,hz,hoz,ha,htd,_⟩:=hT.info hl
  rw [hd] at htd
  obtain ⟨kt,et,ei,zv,c,hu,huk,hty,hei,hez,hoc,rfl⟩:=td_map htd
  split at h <;> try exact (fX h).elim
  rename_i kx y hkx hdz
  rw [ret_run h]
  have KL:=keyLaw huk
  obtain ⟨ku,hku,rfl⟩:=keyInt_rel (g:=g) hkx hx
  obtain ⟨fr,h2,hF⟩:=KL.fd (v:=v) (kvs:=[]) (es:=[]) w hku trivial
  have hck:=fun e=>KL.ck (R:=R) (w0:=w) e w hku
  have hfr:fr=none:=by
   rcases hF with ⟨h,_⟩|⟨j,e,p,_,h,_⟩
   ·exact h
   ·simp at h
  subst hfr
  have hz0:=ofZero_rel (g:=g) (K:=K) (R:=R) (w:=w) hoc
  obtain ⟨us,h9,h10⟩:=decV_rel hdz hz0
  have hval:RelV g K R w (encV v y) zv:=by rw [h10];exact encV_rel h9
  cases hm with
  | ext hm =>
  have hm:u=.map none:=hm
  subst hm
  refine ⟨rfl,rfl,if ok then .tuple #[zv,.bool false] else zv,?_,okR _ zv false hval⟩
  simp [Instr.lookup,run_underlying hu,hck,h2,run_zero w hei hez]
  try (cases ok <;> rfl)
 rename_i k v z r hd
 simp only [RQ.run] at h
 split at h <;> try (cases h;done)
 rename_i o ho
 split at h <;> try exact (fX h).elim
 rename_i k' v' kvs0
 obtain ⟨i,zz,hi,hsz,hz,hoz,ha,htd,_⟩:=hT.info hl
 rw [hd] at htd
 obtain ⟨kt,et,ei,zv,c,hu,huk,hty,hei,hez,hoc,rfl⟩:=td_map htd
 have KL:=keyLaw huk
 split at h <;> try exact (fX h).elim
 ·rename_i hk' hv' kx y _ _ hkx hdz
  obtain ⟨kvs,e1,hrw⟩:=castM_eq hk' hv' kvs0 (fun kvs=>RQ.ret (⟨[],okV ok (encV v ((mapFind k v kx kvs).getD y)) (mapFind k v kx kvs).isSome,[],[]⟩:Res))
  rw [e1] at h
  rw [ret_run h]
  obtain ⟨ku,hku,rfl⟩:=keyInt_rel (g:=g) hkx hx
  obtain ⟨b,es,clock,hgr,hb,hM⟩:=hrw _ _ _ _ _ (hrow r _ ho)
  obtain ⟨l0,hpm,hME⟩:=hM.rel
  obtain ⟨fr,h2,hF⟩:=KL.fd w hku hME
  have hfp:=find_perm KL.ints (x:=kx) hpm hM.dk
  have hck:=fun e=>KL.ck (R:=R) (w0:=w) e w hku
  cases hm with
  | own hkr h1 =>
  rw [hgr]
  refine ⟨rfl,rfl,?_⟩
  rcases hF with ⟨rfl,h3⟩|⟨j,e,p,rfl,h3,h5,h6,h8,_⟩
  ·have hz0:=ofZero_rel (g:=g) (K:=K) (R:=R) (w:=w) hoc
   obtain ⟨us,h9,h10⟩:=decV_rel hdz hz0
   have hval:RelV g K R w (encV v y) zv:=by rw [h10];exact encV_rel h9
   refine ⟨if ok then .tuple #[zv,.bool false] else zv,?_,?_⟩
   ·simp [Instr.lookup,run_underlying hu,run_getMap hb,hck,h2,run_zero w hei hez]
    try (cases ok <;> rfl)
   ·show RelV g K R w (okV ok (encV v ((mapFind k v kx kvs).getD y)) (mapFind k v kx kvs).isSome) _
    rw [← hfp,h3];exact okR _ zv false hval
  ·obtain ⟨vs,h9,h10⟩:=MapE_get hME h3 h5
   refine ⟨if ok then .tuple #[e.val,.bool true] else e.val,?_,?_⟩
   ·simp [Instr.lookup,run_underlying hu,run_getMap hb,hck,h2]
    try (cases ok <;> rfl)
   ·show RelV g K R w (okV ok (encV v ((mapFind k v kx kvs).getD y)) (mapFind k v kx kvs).isSome) _
    rw [← hfp,h8];exact okR _ e.val true (by rw [h10];exact encV_rel h9)
 ·rename_i hk' hv' kx hkk hvv hkx hdz
  obtain ⟨kvs,e1,hrw⟩:=castM_eq hk' hv' kvs0 (fun kvs=>RQ.ret (⟨[(mapFind k v kx kvs).isSome=true],okV ok (encV v ((mapFind k v kx kvs).getD v.dflt)) true,[],[]⟩:Res))
  rw [e1] at h
  rw [ret_run h] at hc ⊢
  have hs:(mapFind k v kx kvs).isSome=true:=hc _ (List.mem_singleton.2 rfl)
  obtain ⟨ku,hku,rfl⟩:=keyInt_rel (g:=g) hkx hx
  obtain ⟨b,es,clock,hgr,hb,hM⟩:=hrw _ _ _ _ _ (hrow r _ ho)
  obtain ⟨l0,hpm,hME⟩:=hM.rel
  obtain ⟨fr,h2,hF⟩:=KL.fd w hku hME
  have hfp:=find_perm KL.ints (x:=kx) hpm hM.dk
  have hck:=fun e=>KL.ck (R:=R) (w0:=w) e w hku
  cases hm with
  | own hkr h1 =>
  rw [hgr]
  refine ⟨rfl,rfl,?_⟩
  rcases hF with ⟨rfl,h3⟩|⟨j,e,p,rfl,h3,h5,h6,h8,_⟩
  ·rw [← hfp,h3] at hs;cases hs
  ·obtain ⟨vs,h9,h10⟩:=MapE_get hME h3 h5
   refine ⟨if ok then .tuple #[e.val,.bool true] else e.val,?_,?_⟩
   ·simp [Instr.lookup,run_underlying hu,run_getMap hb,hck,h2]
    try (cases ok <;> rfl)
   ·show RelV g K R w (okV ok (encV v ((mapFind k v kx kvs).getD v.dflt)) true) _
    rw [← hfp,h8];exact okR _ e.val true (by rw [h10];exact encV_rel h9)
theorem fn_did (hP:P=PG) (hrel:Rel C g R st a w) {e:Ext} {v:Value} {args:List AV} {vals:List Value} {row:Nat→Option AObj} {li:List Nat} {res:Res} {rd:List Nat}
 (h:(evFn e args).run row li=some (res,rd)) (he:RelX R w e v) (hargs:RelL g (fun r=>mem st.ks r=true) R w args vals) :
 ∃ f first cap,v=.func (.func f) first cap∧(∀ args w,(callFunc f args).run P w=.ok (.enter f args) w)∧CallDid P C st a w f (first++vals.toArray++cap).toList res:=by
 subst hP
 have fin:∀ {r:Ty} {y:r.El} {u:Value} {w':World},one r=true→RelEl (fun _=>False) w' r y [u]→w.grownBy w' none →
  Rel C g R ⟨st.n,st.slots,st.gt,appK [] st.ks,addRows [] st.rows⟩ a w'∧RelV g (fun r=>mem (appK [] st.ks) r=true) R w' (encV r y) u:=fun {r y u w'} h1 h2 h3=>by
  refine ⟨hrel.world h3.os h3.tape h3.output h3.size fun b hb=>h3.block b hb (by simp),?_⟩
  have:=encV_rel (g:=g) (K:=fun r=>mem (appK [] st.ks) r=true) (RelEl_mono (R':=R) (w':=w') (fun _ h=>h.elim) (fun _ h=>h.elim) h2)
  rwa [valOf_one h1] at this
 unfold evFn at h
 split at h <;> try exact (fX h).elim
 ·rename_i ta tr c x
  split at h <;> try exact (fX h).elim
  rename_i y hy ho
  rw [b2_run h]
  cases hargs with
  | cons h1 h2 =>
  cases h2
  obtain ⟨us,h3,rfl⟩:=decV_rel hy h1
  obtain ⟨f,first,cap,e1,h4,h5⟩:=he
  cases e1
  refine ⟨f,first,cap,rfl,h4,?_⟩
  unfold CallDid
  have:=h5 R w (fun _ h=>h) (fun _ _=>rfl) hrel.heap.rlt y us h3
  simp only [Array.toArray_toList]
  exact this.mono fun e w' ⟨u,e1,h6,h7⟩=>⟨u,g,R,e1,fin ho h6 h7⟩
 ·rename_i ta tr c x x'
  split at h <;> try exact (fX h).elim
  rename_i y y' hy hy' ho
  rw [b2_run h]
  cases hargs with
  | cons h1 h2 =>
  cases h2 with
  | cons h2 h3 =>
  cases h3
  obtain ⟨us,h3,rfl⟩:=decV_rel hy h1
  obtain ⟨us',h3',rfl⟩:=decV_rel hy' h2
  obtain ⟨f,first,cap,e1,h4,h5⟩:=he
  cases e1
  refine ⟨f,first,cap,rfl,h4,?_⟩
  unfold CallDid
  have:=h5 R w (fun _ h=>h) (fun _ _=>rfl) hrel.heap.rlt y y' us us' h3 h3'
  simp only [Array.toArray_toList]
  exact this.mono fun e w' ⟨u,e1,h6,h7⟩=>⟨u,g,R,e1,fin ho h6 h7⟩
end
end Go.AM
end
