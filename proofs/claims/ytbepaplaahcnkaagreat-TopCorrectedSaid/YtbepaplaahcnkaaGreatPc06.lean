/- AmCall. -/
import Derived.Test.YtbepaplaahcnkaaGreatPc05

section
set_option linter.all false
namespace Go.AM
def locK (rows:List AObj):Nat→Prop:=fun r=>r < rows.length
def locRow (rows:List AObj):Nat→Option AObj:=fun r=>rows[r]?
def pasOf (g:Nat→Gh) (w:World) (rows:List AObj):Nat→Prop:=fun b=>∃ i o,rows[i]?=some o∧Own g w i o b
def freshR (w0:World) (R:Nat→Prop):Nat→Prop:=fun b=>w0.heap.size≤b∧R b
def SpecSound (P:Program) (f:Nat) (s:Spec):Prop :=
 ∀ (args:List AV) (rows:List AObj) (out:Out),s.f args rows=some out→out.pre→(s.raw=false→rows=[]) →
  ∀ (w0:World) (g0:Nat→Gh) (R0:Nat→Prop) (vals:List Value),(∀ b,R0 b→b < w0.heap.size) →
   (∀ i o,rows[i]?=some o→RowH g0 (locK rows) R0 w0 i o)→(∀ i o b,rows[i]?=some o→Own g0 w0 i o b→¬ R0 b) →
   (∀ i j o o' b,rows[i]?=some o→rows[j]?=some o'→Own g0 w0 i o b→Own g0 w0 j o' b→i=j) →
   RelL g0 (locK rows) R0 w0 args vals →
   Calls P f vals.toArray w0 fun e w'=>∃ v g' R',e=.returned v∧HeapR ⟨w0,pasOf g0 w0 rows,R0,g',[]⟩ g' R' (locK out.rows) (locRow out.rows) w' ∧
    (∀ i,i < rows.length→g' i=g0 i)∧rows.length≤out.rows.length∧RelV g' (locK out.rows) R' w' out.ret v ∧
    (out.al=false→RelV g' (locK out.rows) (freshR w0 R') w' out.ret v∧∀ i o,out.rows[i]?=some o→RowH g' (locK out.rows) (freshR w0 R') w' i o)
section
variable {g g':Nat→Gh} {K K' R R':Nat→Prop} {w w':World}
mutual
theorem RelV_ren {f:Nat→Nat} (h:∀ r,K r→K' (f r)∧g' (f r)=g r):∀ {c:AV} {v:Value},RelV g K R w c v→RelV g' K' R w (c.ren f) v
 | _,_,.int h=>.int h
 | _,_,.bool=>.bool
 | _,_,.str h=>.str h
 | _,_,.sl h=>.sl h
 | _,_,.el hi h=>.el hi h
 | _,_,.own hk h1=>by have e:=(h _ hk).2;exact e ▸ RelV.own (g:=g') (h _ hk).1 (e.symm ▸ h1)
 | _,_,.oel hk h1=>.oel (h _ hk).1 (by rw [(h _ hk).2];exact h1)
 | _,_,.part hk h1 h2=>.part (h _ hk).1 (by rw [(h _ hk).2];exact h1) h2
 | _,_,.head hk h1 h2=>.head (h _ hk).1 (by rw [(h _ hk).2];exact h1) h2
 | _,_,.ptr hk=>by have e:=(h _ hk).2;exact e ▸ RelV.ptr (g:=g') (h _ hk).1
 | _,_,.agg hc=>.agg (RelL_ren h hc)
 | _,_,.tup hc=>.tup (RelL_ren h hc)
 | _,_,.fn hc hd=>.fn (RelL_ren h hc) (RelL_ren h hd)
 | _,_,.nilsl=>.nilsl
 | _,_,.nilptr=>.nilptr
 | _,_,.nilfn=>.nilfn
 | _,_,.ext h=>.ext h
 | _,_,.junk=>.junk
theorem RelL_ren {f:Nat→Nat} (h:∀ r,K r→K' (f r)∧g' (f r)=g r):∀ {cs:List AV} {vs:List Value},RelL g K R w cs vs→RelL g' K' R w (renL f cs) vs
 | _,_,.nil=>.nil
 | _,_,.cons h1 h2=>.cons (RelV_ren h h1) (RelL_ren h h2)
end
mutual
theorem RelV_within {p:Nat→Bool}:∀ {c:AV} {v:Value},AV.within p c=true→RelV g K R w c v→RelV g (fun r=>p r=true∧K r) R w c v
 | _,_,_,.int h=>.int h
 | _,_,_,.bool=>.bool
 | _,_,_,.str h=>.str h
 | _,_,_,.sl h=>.sl h
 | _,_,_,.el hi h=>.el hi h
 | _,_,hp,.own hk h1=>.own ⟨hp,hk⟩ h1
 | _,_,hp,.oel hk h1=>.oel ⟨hp,hk⟩ h1
 | _,_,hp,.part hk h1 h2=>.part ⟨hp,hk⟩ h1 h2
 | _,_,hp,.head hk h1 h2=>.head ⟨hp,hk⟩ h1 h2
 | _,_,hp,.ptr hk=>.ptr ⟨hp,hk⟩
 | _,_,hp,.agg hc=>.agg (RelL_within hp hc)
 | _,_,hp,.tup hc=>.tup (RelL_within hp hc)
 | _,_,hp,.fn hc hd=>by
   simp only [AV.within] at hp
   split at hp
   ·rename_i h1;exact .fn (RelL_within h1 hc) (RelL_within hp hd)
   ·cases hp
 | _,_,_,.nilsl=>.nilsl
 | _,_,_,.nilptr=>.nilptr
 | _,_,_,.nilfn=>.nilfn
 | _,_,_,.ext h=>.ext h
 | _,_,_,.junk=>.junk
theorem RelL_within {p:Nat→Bool}:∀ {cs:List AV} {vs:List Value},withinL p cs=true→RelL g K R w cs vs→RelL g (fun r=>p r=true∧K r) R w cs vs
 | _,_,_,.nil=>.nil
 | _,_,hp,.cons h1 h2=>by
   simp only [withinL] at hp
   split at hp
   ·rename_i h0;exact .cons (RelV_within h0 h1) (RelL_within hp h2)
   ·cases hp
end
theorem RowH_ren {f:Nat→Nat} (h:∀ r,K r→K' (f r)∧g' (f r)=g r) {r r':Nat} (hr:g' r'=g r) {o:AObj} (ho:RowH g K R w r o):RowH g' K' R w r' (o.ren f):=by
 cases o with
 | box cs =>
   obtain ⟨vs,t,h1,h2,h3⟩:=ho
   exact ⟨vs,t,by rw [hr];exact h1,RelL_ren h h2,h3⟩
 | seq t xs =>
   obtain ⟨e,vs,h1,h2,h3⟩:=ho
   exact ⟨e,vs,by rw [hr];exact h1,h2,h3⟩
 | arr t xss hl=>show RowH _ _ _ _ _ (.arr t xss hl);simp only [RowH,hr];exact ho
 | map a b l=>show RowH _ _ _ _ _ (.map a b l);simp only [RowH,hr];exact ho
 | yp k =>
   obtain ⟨h1,h2⟩:=ho
   obtain ⟨h3,h4⟩:=h k h1
   exact ⟨h3,by rw [hr,h4];exact h2⟩
 | yld t two Y p=>show RowH _ _ _ _ _ (.yld t two Y p);simp only [RowH,hr];exact ho
 | mit m k v kvs cur G =>
   obtain ⟨⟨h1,h2⟩,h3⟩:=ho
   obtain ⟨h4,h5⟩:=h m h1
   show RowH _ _ _ _ _ (.mit (f m) k v kvs cur G)
   simp only [RowH,hr]
   exact ⟨⟨h4,by rw [h5];exact h2⟩,h3⟩
 | mit0=>show RowH _ _ _ _ _ .mit0;simp only [RowH,hr];exact ho
 | bld T e u l=>show RowH _ _ _ _ _ (.bld T e u l);simp only [RowH,hr];exact ho
 | bag t xs=>show RowH _ _ _ _ _ (.bag t xs);simp only [RowH,hr];exact ho
 | pend m k v kvs j =>
   obtain ⟨⟨h1,h2⟩,h3⟩:=ho
   obtain ⟨h4,h5⟩:=h m h1
   show RowH _ _ _ _ _ (.pend (f m) k v kvs j)
   simp only [RowH,hr]
   exact ⟨⟨h4,by rw [h5];exact h2⟩,h3⟩
 | mmap k x y kvss h0 =>
   obtain ⟨bm,es,clock,ns,h1,h2,h3,h4⟩:=ho
   cases h0 with
   | none=>exact ⟨bm,es,clock,ns,by rw [hr];exact h1,h2,h3,fun j d hd=>by cases hd⟩
   | some q =>
     obtain ⟨j,d⟩:=q
     refine ⟨bm,es,clock,ns,by rw [hr];exact h1,h2,h3,fun j' d' hd=>?_⟩
     cases hd
     obtain ⟨q1,q2,n,q3,q4⟩:=h4 j d rfl
     obtain ⟨q5,q6⟩:=h d q2
     exact ⟨q1,q5,n,q3,by rw [q6];exact q4⟩
 | dead=>trivial
theorem Own_ren {f:Nat→Nat} {r r':Nat} (hr:g' r'=g r) (o:AObj) (b:Nat):Own g' w r' (o.ren f) b↔Own g w r o b:=by
 cases o with
 | mmap k x y kvss h0 =>
   cases h0 with
   | none=>simp [Own,AObj.ren,hr]
   | some q=>obtain ⟨j,d⟩:=q;simp [Own,AObj.ren,hr,holeAt]
 | _=>simp [Own,AObj.ren,hr]
theorem RowH_within {p:Nat→Bool} {r:Nat} {o:AObj} (hp:withinOs p [o]=true) (h:RowH g K R w r o):RowH g (fun r=>p r=true∧K r) R w r o:=by
 cases o with
 | box cs =>
   obtain ⟨vs,t,h1,h2,h3⟩:=h
   simp only [withinOs] at hp
   split at hp
   ·rename_i h0;exact ⟨vs,t,h1,RelL_within h0 h2,h3⟩
   ·cases hp
 | seq t xs=>exact h
 | arr t xss hl=>exact h
 | map a b l=>exact h
 | yp k =>
   obtain ⟨h1,h2⟩:=h
   simp only [withinOs] at hp
   split at hp
   ·rename_i h0;exact ⟨⟨h0,h1⟩,h2⟩
   ·cases hp
 | yld t two Y p=>exact h
 | mit m k v kvs cur G =>
   obtain ⟨⟨h1,h2⟩,h3⟩:=h
   simp only [withinOs] at hp
   split at hp
   ·rename_i h0;exact ⟨⟨⟨h0,h1⟩,h2⟩,h3⟩
   ·cases hp
 | mit0=>exact h
 | bld T e u l=>exact h
 | bag t xs=>exact h
 | pend m k v kvs j =>
   obtain ⟨⟨h1,h2⟩,h3⟩:=h
   simp only [withinOs] at hp
   split at hp
   ·rename_i h0;exact ⟨⟨⟨h0,h1⟩,h2⟩,h3⟩
   ·cases hp
 | mmap k x y kvss h0 =>
   obtain ⟨bm,es,clock,ns,h1,h2,h3,h4⟩:=h
   refine ⟨bm,es,clock,ns,h1,h2,h3,fun j d hd=>?_⟩
   subst hd
   obtain ⟨q1,q2,q3⟩:=h4 j d rfl
   simp only [withinOs] at hp
   split at hp
   ·rename_i h0;exact ⟨q1,⟨h0,q2⟩,q3⟩
   ·cases hp
 | dead=>trivial
theorem RowH_weaken {r:Nat} {o:AObj} (hK:∀ r,K r→K' r) (hR:∀ b,R b→R' b) (h:RowH g K R w r o):RowH g K' R' w r o :=
 RowH_mono (fun _ _=>rfl) rfl hK hR (fun _ _=>rfl) (fun _ _=>rfl) (SameW.refl w) h
theorem RelV_weaken {c:AV} {v:Value} (hK:∀ r,K r→K' r) (hR:∀ b,R b→R' b) (h:RelV g K R w c v):RelV g K' R' w c v :=
 RelV_mono (fun _ _=>rfl) hK hR (fun _ _=>rfl) h
end
theorem key_inj {d i j:Nat} (h:key d i=key d j):i=j:=by
 cases i <;> cases j <;> simp [key] at h <;> omega
theorem keysFrom_get {d:Nat}:∀ {rows:List AObj} {n i:Nat},i < rows.length→(keysFrom d n rows)[i]?=some (key d (n+i))
 | [],_,_,h=>by simp at h
 | _::r,n,0,_=>by simp [keysFrom]
 | _::r,n,i+1,h=>by
   simp only [keysFrom,List.getElem?_cons_succ]
   rw [keysFrom_get (by simpa using h)]
   congr 2;omega
theorem mem_keysFrom {d:Nat}:∀ {rows:List AObj} {n i:Nat},i < rows.length→mem (keysFrom d n rows) (key d (n+i))=true
 | [],_,_,h=>by simp at h
 | _::rs,n,0,_=>by simp [keysFrom,mem_cons]
 | _::rs,n,i+1,h=>by
   simp only [keysFrom,mem_cons,Bool.or_eq_true]
   right
   have:=mem_keysFrom (d:=d) (rows:=rs) (n:=n+1) (i:=i) (by simpa using h)
   rwa [show n+1+i=n+(i+1) by omega] at this
theorem mapRen_get {f:Nat→Nat}:∀ {rows:List AObj} {i:Nat},(mapRen f rows)[i]?=(rows[i]?).map (AObj.ren f)
 | [],_=>by simp [mapRen]
 | _::r,0=>by simp [mapRen]
 | _::r,i+1=>by simp [mapRen,mapRen_get]
theorem look_zip:∀ {ks:List Nat} {os:List AObj} {r:Nat} {o:AObj},look (zipK ks os) r=some o→∃ i:Nat,ks[i]?=some r∧os[i]?=some o
 | [],_,_,_,h=>by simp [zipK,look] at h
 | _::_,[],_,_,h=>by simp [zipK,look] at h
 | k::ks,x::os,r,o,h=>by
   simp only [zipK,look_cons] at h
   by_cases e:k=r
   ·simp [e] at h;exact ⟨0,by simp [e],by simp [h]⟩
   ·simp [e] at h
    obtain ⟨i,h1,h2⟩:=look_zip h
    exact ⟨i+1,by simpa using h1,by simpa using h2⟩
theorem look_zip_some:∀ {ks:List Nat} {os:List AObj} {i r:Nat},ks[i]?=some r→i < os.length→∃ o,look (zipK ks os) r=some o
 | [],_,_,_,h,_=>by simp at h
 | _::_,[],_,_,_,h=>by simp at h
 | k::ks,x::os,0,r,h,_=>by
   simp at h
   exact ⟨x,by simp [zipK,look_cons,h]⟩
 | k::ks,x::os,i+1,r,h,hi=>by
   obtain ⟨o,ho⟩:=look_zip_some (ks:=ks) (os:=os) (i:=i) (by simpa using h) (by simpa using hi)
   by_cases e:k=r
   ·exact ⟨x,by simp [zipK,look_cons,e]⟩
   ·exact ⟨o,by simp [zipK,look_cons,e];exact ho⟩
section
variable {P:Program} {C:Ctx} {g:Nat→Gh} {R:Nat→Prop} {st:St} {a:Act} {w:World}
def viewR (g:Nat→Gh) (w:World) (R:Nat→Prop) (row:Nat→Option AObj):Nat→Prop:=fun b=>R b∨∃ r o,row r=some o∧Own g w r o b
theorem plain_rel {K:Nat→Prop} {x:AV} {v:Value} (h:RelV g K R w x v):RelV g K R w x.plain v:=by
 cases h with
 | ext h =>
   rename_i e
   cases e with
   | nn t xs=>exact .sl h.1
   | full t xs=>exact .sl h.1
   | nl t =>
     obtain ⟨c,rfl,hc⟩:=h
     exact .sl ⟨none,c,rfl,Nat.zero_le _,hc,Nat.zero_le _,fun h=>absurd h (by simp)⟩
   | cref t xss j=>exact .ext h
   | cvals t xss=>exact .ext h
   | fn1 a r c=>exact .ext h
   | fn2 a r c=>exact .ext h
   | opt t y=>exact .ext h
   | nilm=>exact .ext h
   | mnil b=>exact .ext h
   | any=>exact .ext h
 | int h=>exact .int h
 | bool=>exact .bool
 | str h=>exact .str h
 | sl h=>exact .sl h
 | el hi h=>exact .el hi h
 | own hk h1=>exact .own hk h1
 | oel hk h1=>exact .oel hk h1
 | part hk h1 h2=>exact .part hk h1 h2
 | head hk h1 h2=>exact .head hk h1 h2
 | ptr hk=>exact .ptr hk
 | agg h=>exact .agg h
 | tup h=>exact .tup h
 | fn h k=>exact .fn h k
 | nilsl=>exact .nilsl
 | nilptr=>exact .nilptr
 | nilfn=>exact .nilfn
 | junk=>exact .junk
theorem reads_of_elem {R':Nat→Prop} {t:Ty} {xs:List t.El} {v:Value} (h:ElemR R w t xs v) (hR:∀ b,R b→R' b) (hb:∀ b,blkOf v=some b→R' b):Reads R' w t.bytes (RelEl R' w t) xs v:=by
 obtain ⟨e,vs,hown,hlay,_⟩:=h
 have hlay':=lay_mono (fun _ _ h=>RelEl_mono (R':=R') (w':=w) hR (fun _ _=>rfl) h) hlay
 rcases hown.2 with ⟨a,hv,hn0⟩|⟨b,cap,cur,hv,h0,_,hcap,hmx,_⟩
 ·have:xs=[]:=List.eq_nil_of_length_eq_zero hn0
  subst this
  rw [hv];exact ⟨a,0,rfl,Nat.le_refl _,Nat.zero_le _,Nat.zero_le _,fun h=>absurd h (by simp)⟩
 ·exact ⟨some ⟨b,0,none⟩,cap,hv,hcap,hmx,Nat.le_trans hcap hmx,fun _=>⟨⟨b,0,none⟩,vs,rfl,rfl,hb b (by rw [hv,blkOf_pos h0]),hlay',own_cells hown hv⟩⟩
theorem viewA_sound {K:Nat→Prop} {row:Nat→Option AObj} (hrow:∀ r o,row r=some o→RowH g K R w r o) {x y:AV} {v:Value} {li rd:List Nat} (h:(viewA x).run row li=some (y,rd)) (hx:RelV g K R w x v) :
 RelV g K (viewR g w R row) w y v:=by
 have weak:∀ {c:AV},RelV g K R w c v→RelV g K (viewR g w R row) w c v:=fun h=>RelV_weaken (fun _ h=>h) (fun _ h=>.inl h) h
 unfold viewA at h
 split at h
 ·rename_i r
  simp only [RQ.run] at h
  split at h <;> try (cases h;done)
  rename_i o ho
  split at h <;> try exact (fX h).elim
  rename_i t xs
  rw [ret_run h]
  cases hx with
  | own hk h1=>exact .sl (reads_of_elem (hrow _ _ ho) (fun _ h=>.inl h) (fun b hb=>.inr ⟨r,_,ho,hb⟩))
 ·rename_i r
  simp only [RQ.run] at h
  split at h <;> try (cases h;done)
  rename_i o ho
  split at h <;> try exact (fX h).elim
  ·rename_i t xss
   rw [ret_run h]
   cases hx with
   | ptr hk =>
     obtain ⟨vs,ty,hh,ha⟩:=hrow _ _ ho
     refine .ext ⟨(g r).b,vs,rfl,.inr ⟨r,_,ho,.inl rfl⟩,⟨ha.len,fun i u xs hu hx=>?_⟩,fun i u hu=>?_⟩
     ·exact reads_of_elem (ha.el i u xs hu hx (by simp)) (fun _ h=>.inl h) (fun b hb=>.inr ⟨r,_,ho,.inr ⟨vs,ty,i,u,hh,hu,by simp,hb⟩⟩)
     ·have:=cell_box hh i u hu
      rw [add_none rfl] at this
      simpa using this
  ·rename_i k
   simp only [RQ.run] at h
   split at h <;> try (cases h;done)
   rename_i o2 ho2
   split at h <;> try exact (fX h).elim
   rename_i t xs
   rw [ret_run h]
   cases hx with
   | ptr hk =>
     obtain ⟨vs,ty,hh,hl,_⟩:=hrow _ _ ho
     cases hl with
     | cons h1 h2 =>
       cases h2
       cases h1 with
       | own hk2 _ =>
         have hrd:=reads_of_elem (R':=viewR g w R row) (hrow _ _ ho2) (fun _ h=>.inl h) (fun b hb=>.inr ⟨k,_,ho2,hb⟩)
         refine .el (t:=.slice t) (xs:=[xs]) (i:=0) (j:=0) (by simp) ⟨⟨(g r).b,0,none⟩,[(g k).v],by simp [Addr.add],rfl,.inr ⟨r,_,ho,rfl⟩,⟨[(g k).v],[],rfl,⟨_,rfl,hrd⟩,rfl⟩,cell_box hh⟩
 ·rw [ret_run h];exact plain_rel (weak hx)
theorem viewC_sound {K:Nat→Prop} {row:Nat→Option AObj} (hrow:∀ r o,row r=some o→RowH g K R w r o):∀ {cs ds:List AV} {vs:List Value} {li rd:List Nat},(viewC cs).run row li=some (ds,rd)→RelL g K R w cs vs →
 RelL g K (viewR g w R row) w ds vs
 | [],ds,vs,li,rd,h,hr=>by simp only [viewC] at h;rw [ret_run h];cases hr;exact .nil
 | c::cs,ds,vs,li,rd,h,hr=>by
   cases hr with
   | cons h1 h2 =>
     simp only [viewC] at h
     rw [run_bind] at h
     split at h <;> try (cases h;done)
     rename_i c' l' hc
     rw [run_bind] at h
     split at h <;> try (cases h;done)
     rename_i cs' l'' hcs
     rw [ret_run h]
     exact .cons (viewA_sound hrow hc h1) (viewC_sound hrow hcs h2)
theorem viewL_sound {K:Nat→Prop} {row:Nat→Option AObj} (hrow:∀ r o,row r=some o→RowH g K R w r o):∀ {cs ds:List AV} {vs:List Value} {li rd:List Nat},(viewL cs).run row li=some (ds,rd)→RelL g K R w cs vs →
 RelL g K (viewR g w R row) w ds vs
 | [],ds,vs,li,rd,h,hr=>by simp only [viewL] at h;rw [ret_run h];cases hr;exact .nil
 | c::cs,ds,vs,li,rd,h,hr=>by
   cases hr with
   | cons h1 h2 =>
     unfold viewL at h
     split at h
     ·rename_i heq;cases heq
     ·rename_i xs r heq
      cases heq
      rw [run_bind] at h
      split at h <;> try (cases h;done)
      rename_i c' l' hc
      rw [run_bind] at h
      split at h <;> try (cases h;done)
      rename_i cs' l'' hcs
      rw [ret_run h]
      cases h1 with
      | agg h1=>exact .cons (.agg (viewC_sound hrow hc h1)) (viewL_sound hrow hcs h2)
     ·rename_i heq
      cases heq
      rw [run_bind] at h
      split at h <;> try (cases h;done)
      rename_i c' l' hc
      rw [run_bind] at h
      split at h <;> try (cases h;done)
      rename_i cs' l'' hcs
      rw [ret_run h]
      exact .cons (viewA_sound hrow hc h1) (viewL_sound hrow hcs h2)
def CallDid (P:Program) (C:Ctx) (st:St) (a:Act) (w:World) (f:Nat) (vals:List Value) (res:Res):Prop :=
 Calls P f vals.toArray w fun e w'=>∃ v g' R',e=.returned v∧Rel C g' R' ⟨st.n,st.slots,st.gt,appK res.new st.ks,addRows res.upd st.rows⟩ a w'∧RelV g' (fun r=>mem (appK res.new st.ks) r=true) R' w' res.av v
theorem call_view (hrel:Rel C g R st a w) {s:Spec} {f d:Nat} (hs:SpecSound P f s) (hraw:s.raw=false) {args args':List AV} {vals:List Value} {o:Out} {li rd:List Nat} (hargs:RelL g (fun r=>mem st.ks r=true) R w args vals)
 (hv:(viewL args).run (look st.rows) li=some (args',rd)) (hw:withinL (fun _=>false) args'=true) (hf:s.f args' []=some o) (hpre:o.pre) (hal:o.al=false) (hfr:freshAll st.ks (keysFrom d 0 o.rows)=true) :
 CallDid P C st a w f vals ⟨[o.pre],o.ret.ren (key d),zipK (keysFrom d 0 o.rows) (mapRen (key d) o.rows),keysFrom d 0 o.rows⟩:=by
 have h1:=RelL_within hw (viewL_sound hrel.heap.held hv hargs)
 have hfr':=freshAll_spec hfr
 refine (hs args' [] o hf hpre (fun _=>rfl) w g (viewR g w R (look st.rows)) vals (fun b hb=>?_) (fun i o h=>by simp at h) (fun i o b h=>by simp at h) (fun i j o o' b h=>by simp at h)
  (RelL_mono (fun _ _=>rfl) (fun r h=>by simp at h) (fun _ h=>h) (fun _ _=>rfl) h1)).mono ?_
 ·rcases hb with hb|⟨r,o',h2,h3⟩
  ·exact hrel.heap.rlt b hb
  ·exact Own_lt (hrel.heap.held r o' h2) h3
 ·rintro e w' ⟨v,g',R',rfl,hh,_,_,_,hna⟩
  obtain ⟨hret,hrows⟩:=hna hal
  have hpas:∀ b,¬ pasOf g w [] b:=fun b ⟨i,o,h,_⟩=>by simp at h
  have hkey:∀ i,i < o.rows.length→mem st.ks (key d i)=false:=fun i hi=>(hfr' _ (by have:=mem_keysFrom (d:=d) (n:=0) hi;simpa using this)).1
  have hinv:∀ i,(key d i - d) / 4096=i:=fun i=>by cases i <;> simp [key] <;> omega
  obtain ⟨gC,hgC⟩:∃ gC:Nat→Gh,gC=fun r=>if mem st.ks r=true then g r else g' ((r - d) / 4096):=⟨_,rfl⟩
  have hg1:∀ r,mem st.ks r=true→gC r=g r:=fun r hr=>by rw [hgC];simp [hr]
  have hg2:∀ i,i < o.rows.length→gC (key d i)=g' i:=fun i hi=>by rw [hgC];simp [hkey i hi,hinv]
  have hlk:∀ r o',look (zipK (keysFrom d 0 o.rows) (mapRen (key d) o.rows)) r=some o'→∃ i x,i < o.rows.length∧r=key d i∧o.rows[i]?=some x∧o'=x.ren (key d):=fun r o' h=>by
   obtain ⟨i,h2,h3⟩:=look_zip h
   rw [mapRen_get] at h3
   cases hx:o.rows[i]? with
   | none=>rw [hx] at h3;cases h3
   | some x =>
     rw [hx] at h3
     have hi:=(List.getElem?_eq_some_iff.1 hx).1
     rw [keysFrom_get hi] at h2
     simp at h2 h3
     exact ⟨i,x,hi,h2.symm,hx,h3.symm⟩
  have hsz:w.heap.size≤w'.heap.size:=hh.hsize
  have hren:∀ r,locK o.rows r→(mem st.ks (key d r)=true∨mem (keysFrom d 0 o.rows) (key d r)=true)∧gC (key d r)=g' r:=fun r hr=>⟨.inr (by have:=mem_keysFrom (d:=d) (n:=0) (show r < o.rows.length from hr);simpa using this),hg2 r hr⟩
  have hRw:∀ b,freshR w R' b→R b∨freshR w R' b:=fun _ h=>.inr h
  have gen:=hrel.heap.gen (g':=gC) (R':=fun b=>R b∨freshR w R' b) (w':=w') (zipK (keysFrom d 0 o.rows) (mapRen (key d) o.rows)) (keysFrom d 0 o.rows) (fun _=>False)
   (fun r hr=>by rw [(hfr' r hr).1];exact ⟨by simp,(hfr' r hr).2⟩)
   (fun r o' h=>by obtain ⟨i,x,hi,rfl,_⟩:=hlk r o' h;exact .inr (by have:=mem_keysFrom (d:=d) (n:=0) hi;simpa using this))
   (fun _ h=>h.elim) hh.os hh.tape hh.output hsz (fun b hb=>.inl (hh.frame b hb (hpas b))) hg1 (fun _ h=>.inl h)
   (fun b hb=>by rcases hb with hb|hb;exact Nat.lt_of_lt_of_le (hrel.heap.rlt b hb) hsz;exact hh.rlt b hb.2)
   (fun b hb=>by rcases hb with hb|hb;exact .inl hb;exact .inr (.inl hb.1))
   (fun r o' h=>by
    obtain ⟨i,x,hi,rfl,hx,rfl⟩:=hlk r o' h
    exact RowH_weaken (fun _ h=>h) hRw (RowH_ren hren (hg2 i hi) (hrows i x hx)))
   (fun r o' b h hb=>by
    obtain ⟨i,x,hi,rfl,hx,rfl⟩:=hlk r o' h
    rw [Own_ren (hg2 i hi)] at hb
    obtain ⟨h2,h3⟩:=hh.own i x b hx hb
    have h4:w.heap.size≤b:=h3.resolve_right (hpas b)
    refine ⟨fun h5=>?_,.inl h4⟩
    rcases h5 with h5|h5
    ·have:=hrel.heap.rlt b h5;omega
    ·exact h2 h5.2)
   (fun r1 r2 o1 o2 b h2 h3 h4 h5=>by
    obtain ⟨i,x,hi,rfl,hx,rfl⟩:=hlk r1 o1 h2
    obtain ⟨j,y,hj,rfl,hy,rfl⟩:=hlk r2 o2 h3
    rw [Own_ren (hg2 i hi)] at h4
    rw [Own_ren (hg2 j hj)] at h5
    rw [hh.sep i j x y b hx hy h4 h5])
  refine ⟨v,gC,fun b=>R b∨freshR w R' b,rfl,hrel.gen hg1 (fun r hr=>by rw [mem_appK,hr];simp) (fun _ h=>.inl h) ⟨gen.1.lists,gen.2⟩,?_⟩
  have hKe:(fun r=>mem (appK (keysFrom d 0 o.rows) st.ks) r=true)=(fun r=>mem st.ks r=true∨mem (keysFrom d 0 o.rows) r=true):=by
   funext r;rw [mem_appK];simp only [Bool.or_eq_true];exact propext Or.comm
  show RelV gC (fun r=>mem (appK (keysFrom d 0 o.rows) st.ks) r=true) _ w' (o.ret.ren (key d)) v
  rw [hKe]
  exact RelV_weaken (fun _ h=>h) hRw (RelV_ren hren hret)
theorem askAll_spec {row:Nat→Option AObj}:∀ {l:List Nat} {os:List AObj} {li rd:List Nat},(askAll l).run row li=some (os,rd)→os.length=l.length∧∀ (i:Nat) r o,l[i]?=some r→os[i]?=some o→row r=some o
 | [],os,li,rd,h=>by simp only [askAll] at h;rw [ret_run h];exact ⟨rfl,fun i r o h=>by simp at h⟩
 | r::l,os,li,rd,h=>by
   simp only [askAll,RQ.run] at h
   split at h <;> try (cases h;done)
   rename_i o ho
   rw [run_bind] at h
   split at h <;> try (cases h;done)
   rename_i os' l' hos
   rw [ret_run h]
   obtain ⟨h1,h2⟩:=askAll_spec hos
   refine ⟨by simp [h1],fun i r' o' h3 h4=>?_⟩
   cases i with
   | zero=>simp at h3 h4;subst h3 h4;exact ho
   | succ i=>exact h2 i r' o' (by simpa using h3) (by simpa using h4)
theorem mem_get:∀ {l:List Nat} {r:Nat},mem l r=true→l[toLoc l r]?=some r∧toLoc l r < l.length
 | [],_,h=>by simp [mem] at h
 | k::l,r,h=>by
   simp only [mem] at h
   simp only [toLoc]
   cases e:Nat.beq k r
   ·rw [e] at h
    obtain ⟨h1,h2⟩:=mem_get (l:=l) h
    exact ⟨by simpa using h1,by simpa using h2⟩
   ·exact ⟨by simp [beq_eq e],by simp⟩
theorem get_mem:∀ {l:List Nat} {i r:Nat},l[i]?=some r→mem l r=true
 | [],_,_,h=>by simp at h
 | k::l,0,r,h=>by simp at h;simp [mem_cons,h]
 | k::l,i+1,r,h=>by rw [mem_cons,get_mem (l:=l) (i:=i) (by simpa using h)];simp
theorem nodupK_get:∀ {l:List Nat} {i r:Nat},nodupK l=true→l[i]?=some r→toLoc l r=i
 | [],_,_,_,h=>by simp at h
 | k::l,i,r,hn,h=>by
   simp only [nodupK] at hn
   split at hn <;> try (cases hn;done)
   rename_i hk
   simp only [toLoc]
   cases i with
   | zero=>simp at h;subst h;simp
   | succ i =>
     have h':l[i]?=some r:=by simpa using h
     cases e:Nat.beq k r
     ·simp only;rw [nodupK_get hn h']
     ·rw [beq_eq e,get_mem h'] at hk;cases hk
theorem fromLoc_lt {d:Nat}:∀ {l:List Nat} {i j r:Nat},l[i]?=some r→fromLoc d j l i=r
 | [],_,_,_,h=>by simp at h
 | k::l,0,j,r,h=>by simp at h;simp [fromLoc,h]
 | k::l,i+1,j,r,h=>by simp only [fromLoc];exact fromLoc_lt (by simpa using h)
theorem fromLoc_ge {d:Nat}:∀ {l:List Nat} {i j:Nat},fromLoc d j l (l.length+i)=key d (j+i)
 | [],i,j=>by simp [fromLoc]
 | k::l,i,j=>by
   rw [show (k::l).length+i=(l.length+i)+1 by simp;omega]
   simp only [fromLoc]
   exact fromLoc_ge
theorem withinOs_get {p:Nat→Bool}:∀ {os:List AObj} {i:Nat} {o:AObj},withinOs p os=true→os[i]?=some o→withinOs p [o]=true
 | [],_,_,_,h=>by simp at h
 | x::os,i,o,hw,h=>by
   cases i with
   | zero =>
     simp at h;subst h
     cases x with
     | box cs =>
       simp only [withinOs] at hw ⊢
       split at hw
       ·rename_i h0;simp [h0]
       ·cases hw
     | seq t xs=>rfl
     | arr t xss hl=>rfl
     | map a b l=>rfl
     | yp k =>
       simp only [withinOs] at hw ⊢
       split at hw
       ·rename_i h0;simp [h0]
       ·cases hw
     | yld t two Y p=>rfl
     | mit m k v kvs cur G =>
       simp only [withinOs] at hw ⊢
       split at hw
       ·rename_i h0;simp [h0]
       ·cases hw
     | mit0=>rfl
     | bld T e u l=>rfl
     | bag t xs=>rfl
     | pend m k v kvs j =>
       simp only [withinOs] at hw ⊢
       split at hw
       ·rename_i h0;simp [h0]
       ·cases hw
     | mmap k x y kvss h0 =>
       cases h0 with
       | none=>rfl
       | some q =>
         obtain ⟨j,d⟩:=q
         simp only [withinOs] at hw ⊢
         split at hw
         ·rename_i h0;simp [h0]
         ·cases hw
     | dead=>rfl
   | succ i =>
     refine withinOs_get (os:=os) (i:=i) ?_ (by simpa using h)
     cases x with
     | box cs =>
       simp only [withinOs] at hw
       split at hw
       ·exact hw
       ·cases hw
     | seq t xs=>exact hw
     | arr t xss hl=>exact hw
     | map a b l=>exact hw
     | yp k =>
       simp only [withinOs] at hw
       split at hw
       ·exact hw
       ·cases hw
     | yld t two Y p=>exact hw
     | mit m k v kvs cur G =>
       simp only [withinOs] at hw
       split at hw
       ·exact hw
       ·cases hw
     | mit0=>exact hw
     | bld T e u l=>exact hw
     | bag t xs=>exact hw
     | pend m k v kvs j =>
       simp only [withinOs] at hw
       split at hw
       ·exact hw
       ·cases hw
     | mmap k x y kvss h0 =>
       cases h0 with
       | none=>exact hw
       | some q =>
         obtain ⟨j,d⟩:=q
         simp only [withinOs] at hw
         split at hw
         ·exact hw
         ·cases hw
     | dead=>exact hw
theorem appK_eq:∀ {a b:List Nat},appK a b=a++b
 | [],_=>rfl
 | _::_,_=>by simp [appK,appK_eq]
theorem call_raw (hrel:Rel C g R st a w) {s:Spec} {f d:Nat} (hs:SpecSound P f s) (hraw:s.raw=true) {args:List AV} {vals:List Value} {all:List Nat} {objs:List AObj} {o:Out} {li rd:List Nat} (hargs:RelL g (fun r=>mem st.ks r=true) R w args vals)
 (hask:(askAll all).run (look st.rows) li=some (objs,rd)) (hnd:nodupK all=true) (hw:withinL (mem all) args=true) (hwo:withinOs (mem all) objs=true)
 (hf:s.f (renL (toLoc all) args) (mapRen (toLoc all) objs)=some o) (hpre:o.pre) (hfr:freshAll st.ks (keysFrom d 0 (o.rows.drop all.length))=true) :
 CallDid P C st a w f vals ⟨[o.pre],o.ret.ren (fromLoc d 0 all),zipK (appK all (keysFrom d 0 (o.rows.drop all.length))) (mapRen (fromLoc d 0 all) o.rows),keysFrom d 0 (o.rows.drop all.length)⟩:=by
 obtain ⟨hlen,hobj⟩:=askAll_spec hask
 have hfr':=freshAll_spec hfr
 have hrlen:(mapRen (toLoc all) objs).length=all.length:=by
  have:∀ l:List AObj,(mapRen (toLoc all) l).length=l.length:=fun l=>by induction l with
   | nil=>rfl
   | cons x l ih=>simp [mapRen,ih]
  rw [this,hlen]
 obtain ⟨g0,hg0⟩:∃ g0:Nat→Gh,g0=fun i=>g (all.getD i 0):=⟨_,rfl⟩
 have hg0':∀ i r,all[i]?=some r→g0 i=g r:=fun i r h=>by rw [hg0];simp [List.getD,h]
 have hobjs:∀ i x,(mapRen (toLoc all) objs)[i]?=some x→∃ r y,all[i]?=some r∧objs[i]?=some y∧x=y.ren (toLoc all)∧look st.rows r=some y:=fun i x h=>by
  rw [mapRen_get] at h
  cases hy:objs[i]? with
  | none=>rw [hy] at h;cases h
  | some y =>
    rw [hy] at h
    simp at h
    have hi:i < all.length:=by rw [← hlen];exact (List.getElem?_eq_some_iff.1 hy).1
    exact ⟨all[i],y,List.getElem?_eq_getElem hi,hy,h.symm,hobj i _ y (List.getElem?_eq_getElem hi) hy⟩
 have hren0:∀ r,(mem all r=true∧mem st.ks r=true)→locK (mapRen (toLoc all) objs) (toLoc all r)∧g0 (toLoc all r)=g r:=fun r ⟨h1,_⟩=>by
  obtain ⟨h2,h3⟩:=mem_get h1
  exact ⟨by unfold locK;rw [hrlen];exact h3,hg0' _ _ h2⟩
 have hrow0:∀ i x,(mapRen (toLoc all) objs)[i]?=some x→RowH g0 (locK (mapRen (toLoc all) objs)) R w i x:=fun i x h=>by
  obtain ⟨r,y,h1,h2,rfl,h3⟩:=hobjs i x h
  exact RowH_ren hren0 (hg0' i r h1) (RowH_within (withinOs_get hwo h2) (hrel.heap.held r y h3))
 have hblk0:∀ i x b,(mapRen (toLoc all) objs)[i]?=some x→Own g0 w i x b→∃ r y,all[i]?=some r∧look st.rows r=some y∧Own g w r y b:=fun i x b h hb=>by
  obtain ⟨r,y,h1,h2,rfl,h3⟩:=hobjs i x h
  rw [Own_ren (hg0' i r h1)] at hb
  exact ⟨r,y,h1,h3,hb⟩
 refine (hs (renL (toLoc all) args) _ o hf hpre (fun h=>by rw [hraw] at h;cases h) w g0 R vals (fun b hb=>hrel.heap.rlt b hb) hrow0 (fun i x b h hb=>?_) (fun i j x y b h1 h2 h3 h4=>?_) (RelL_ren hren0 (RelL_within hw hargs))).mono ?_
 ·obtain ⟨r,y,_,h2,h3⟩:=hblk0 i x b h hb
  exact (hrel.heap.own r y b h2 h3).1
 ·obtain ⟨r,x',e1,h5,h6⟩:=hblk0 i x b h1 h3
  obtain ⟨r',y',e2,h7,h8⟩:=hblk0 j y b h2 h4
  have:=hrel.heap.sep r r' x' y' b h5 h7 h6 h8
  subst this
  rw [← nodupK_get hnd e1,← nodupK_get hnd e2]
 ·rintro e w' ⟨v,g',R',rfl,hh,hgp,hlr,hret,_⟩
  rw [hrlen] at hgp hlr
  have hpas:∀ b,pasOf g0 w (mapRen (toLoc all) objs) b→∃ r y,mem all r=true∧look st.rows r=some y∧Own g w r y b:=fun b ⟨i,x,h1,h2⟩=>by
   obtain ⟨r,y,h3,h4,h5⟩:=hblk0 i x b h1 h2
   exact ⟨r,y,get_mem h3,h4,h5⟩
  have hnewlen:(o.rows.drop all.length).length=o.rows.length - all.length:=by simp
  have hkey:∀ i,i < o.rows.length - all.length→mem st.ks (key d i)=false:=fun i hi=>(hfr' _ (by have:=mem_keysFrom (d:=d) (n:=0) (rows:=o.rows.drop all.length) (i:=i) (by rw [hnewlen];exact hi);simpa using this)).1
  have hinv:∀ i,(key d i - d) / 4096=i:=fun i=>by cases i <;> simp [key] <;> omega
  obtain ⟨gC,hgC⟩:∃ gC:Nat→Gh,gC=fun r=>if mem st.ks r=true then g r else g' (all.length+(r - d) / 4096):=⟨_,rfl⟩
  have hg1:∀ r,mem st.ks r=true→gC r=g r:=fun r hr=>by rw [hgC];simp [hr]
  have hks:∀ i r,all[i]?=some r→mem st.ks r=true:=fun i r h=>by
   have hi:i < objs.length:=by rw [hlen];exact (List.getElem?_eq_some_iff.1 h).1
   exact hrel.heap.keys r _ (hobj i r _ h (List.getElem?_eq_getElem hi))
  have hplace:∀ i,i < o.rows.length→(∃ r,all[i]?=some r∧fromLoc d 0 all i=r)∨(∃ j,i=all.length+j∧j < o.rows.length - all.length∧fromLoc d 0 all i=key d j):=fun i hi=>by
   by_cases h:i < all.length
   ·exact .inl ⟨all[i],List.getElem?_eq_getElem h,fromLoc_lt (List.getElem?_eq_getElem h)⟩
   ·refine .inr ⟨i - all.length,by omega,by omega,?_⟩
    have:=fromLoc_ge (d:=d) (l:=all) (i:=i - all.length) (j:=0)
    rw [show all.length+(i - all.length)=i by omega] at this
    simpa using this
  have hg2:∀ i,i < o.rows.length→gC (fromLoc d 0 all i)=g' i:=fun i hi=>by
   rcases hplace i hi with ⟨r,h1,h2⟩|⟨j,h1,h2,h3⟩
   ·rw [h2,hg1 r (hks i r h1),hgp i (List.getElem?_eq_some_iff.1 h1).1,hg0' i r h1]
   ·rw [h3,hgC];simp [hkey j h2,hinv,h1]
  have hinj:∀ i j,i < o.rows.length→j < o.rows.length→fromLoc d 0 all i=fromLoc d 0 all j→i=j:=fun i j hi hj e=>by
   rcases hplace i hi with ⟨r,h1,h2⟩|⟨k,h1,h2,h3⟩
   ·rcases hplace j hj with ⟨r',h4,h5⟩|⟨k',h4,h5,h6⟩
    ·rw [h2,h5] at e;subst e
     rw [← nodupK_get hnd h1,← nodupK_get hnd h4]
    ·rw [h2,h6] at e;subst e
     have:=hks i _ h1;rw [hkey k' h5] at this;cases this
   ·rcases hplace j hj with ⟨r',h4,h5⟩|⟨k',h4,h5,h6⟩
    ·rw [h3,h5] at e;subst e
     have:=hks j _ h4;rw [hkey k h2] at this;cases this
    ·rw [h3,h6] at e
     have:=key_inj e
     omega
  have hkeys:∀ i r,(appK all (keysFrom d 0 (o.rows.drop all.length)))[i]?=some r→i < o.rows.length→r=fromLoc d 0 all i:=fun i r h hi=>by
   rw [appK_eq] at h
   by_cases h1:i < all.length
   ·rw [List.getElem?_append_left h1] at h
    exact (fromLoc_lt h).symm
   ·rw [List.getElem?_append_right (by omega),keysFrom_get (by rw [hnewlen];omega)] at h
    have h2:=fromLoc_ge (d:=d) (l:=all) (i:=i - all.length) (j:=0)
    rw [show all.length+(i - all.length)=i by omega] at h2
    rw [h2]
    simpa using h.symm
  have hlk:∀ r o',look (zipK (appK all (keysFrom d 0 (o.rows.drop all.length))) (mapRen (fromLoc d 0 all) o.rows)) r=some o'→∃ i x,i < o.rows.length∧r=fromLoc d 0 all i∧o.rows[i]?=some x∧o'=x.ren (fromLoc d 0 all):=fun r o' h=>by
   obtain ⟨i,h2,h3⟩:=look_zip h
   rw [mapRen_get] at h3
   cases hx:o.rows[i]? with
   | none=>rw [hx] at h3;cases h3
   | some x =>
     rw [hx] at h3
     have hi:=(List.getElem?_eq_some_iff.1 hx).1
     simp at h3
     exact ⟨i,x,hi,hkeys i r h2 hi,hx,h3.symm⟩
  have hnewm:∀ j,j < o.rows.length - all.length→mem (keysFrom d 0 (o.rows.drop all.length)) (key d j)=true:=fun j hj=>by
   have:=mem_keysFrom (d:=d) (n:=0) (rows:=o.rows.drop all.length) (i:=j) (by rw [hnewlen];exact hj)
   simpa using this
  have hin:∀ i,i < o.rows.length→mem st.ks (fromLoc d 0 all i)=true∨mem (keysFrom d 0 (o.rows.drop all.length)) (fromLoc d 0 all i)=true:=fun i hi=>by
   rcases hplace i hi with ⟨r,h1,h2⟩|⟨j,h1,h2,h3⟩
   ·rw [h2];exact .inl (hks i r h1)
   ·rw [h3];exact .inr (hnewm j h2)
  have hren:∀ r,locK o.rows r→(mem st.ks (fromLoc d 0 all r)=true∨mem (keysFrom d 0 (o.rows.drop all.length)) (fromLoc d 0 all r)=true)∧gC (fromLoc d 0 all r)=g' r:=fun r hr=>⟨hin r hr,hg2 r hr⟩
  have hsz:w.heap.size≤w'.heap.size:=hh.hsize
  have gen:=hrel.heap.gen (g':=gC) (R':=R') (w':=w') (zipK (appK all (keysFrom d 0 (o.rows.drop all.length))) (mapRen (fromLoc d 0 all) o.rows)) (keysFrom d 0 (o.rows.drop all.length)) (fun r=>mem all r=true)
   (fun r hr=>by rw [(hfr' r hr).1];exact ⟨by simp,(hfr' r hr).2⟩)
   (fun r o' h=>by obtain ⟨i,x,hi,rfl,_⟩:=hlk r o' h;exact hin i hi)
   (fun r hr=>by
    obtain ⟨h1,h2⟩:=mem_get hr
    refine look_zip_some (i:=toLoc all r) ?_ ?_
    ·rw [appK_eq,List.getElem?_append_left h2];exact h1
    ·have:∀ l:List AObj,(mapRen (fromLoc d 0 all) l).length=l.length:=fun l=>by induction l with
      | nil=>rfl
      | cons x l ih=>simp [mapRen,ih]
     rw [this];omega)
   hh.os hh.tape hh.output hsz
   (fun b hb=>by
    by_cases hp:pasOf g0 w (mapRen (toLoc all) objs) b
    ·obtain ⟨r,y,h1,h2,h3⟩:=hpas b hp
     exact .inr ⟨r,y,h1,h2,h3⟩
    ·exact .inl (hh.frame b hb hp))
   hg1 (fun b hb=>hh.rsub b hb) hh.rlt
   (fun b hb=>by
    by_cases h:b < w.heap.size
    ·rcases hh.rnew b hb h with h|h
     ·exact .inl h
     ·obtain ⟨r,y,h1,h2,h3⟩:=hpas b h
      exact .inr (.inr ⟨r,y,h1,h2,h3⟩)
    ·exact .inr (.inl (by omega)))
   (fun r o' h=>by
    obtain ⟨i,x,hi,rfl,hx,rfl⟩:=hlk r o' h
    exact RowH_ren hren (hg2 i hi) (hh.held i x hx))
   (fun r o' b h hb=>by
    obtain ⟨i,x,hi,rfl,hx,rfl⟩:=hlk r o' h
    rw [Own_ren (hg2 i hi)] at hb
    obtain ⟨h2,h3⟩:=hh.own i x b hx hb
    refine ⟨h2,?_⟩
    rcases h3 with h3|h3
    ·exact .inl h3
    ·exact .inr (hpas b h3))
   (fun r1 r2 o1 o2 b h2 h3 h4 h5=>by
    obtain ⟨i,x,hi,rfl,hx,rfl⟩:=hlk r1 o1 h2
    obtain ⟨j,y,hj,rfl,hy,rfl⟩:=hlk r2 o2 h3
    rw [Own_ren (hg2 i hi)] at h4
    rw [Own_ren (hg2 j hj)] at h5
    rw [hh.sep i j x y b hx hy h4 h5])
  refine ⟨v,gC,R',rfl,hrel.gen hg1 (fun r hr=>by rw [mem_appK,hr];simp) (fun b hb=>hh.rsub b hb) ⟨gen.1.lists,gen.2⟩,?_⟩
  have hKe:(fun r=>mem (appK (keysFrom d 0 (o.rows.drop all.length)) st.ks) r=true)=(fun r=>mem st.ks r=true∨mem (keysFrom d 0 (o.rows.drop all.length)) r=true):=by
   funext r;rw [mem_appK];simp only [Bool.or_eq_true];exact propext Or.comm
  show RelV gC (fun r=>mem (appK (keysFrom d 0 (o.rows.drop all.length)) st.ks) r=true) _ w' (o.ret.ren (fromLoc d 0 all)) v
  rw [hKe]
  exact RelV_ren hren hret
end
end Go.AM
end
