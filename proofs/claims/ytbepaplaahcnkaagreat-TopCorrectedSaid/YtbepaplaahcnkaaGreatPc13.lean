/- AmDrawB, AmExp. -/
import Derived.Test.YtbepaplaahcnkaaGreatPc12

set_option linter.all false
section
namespace Go.AM
inductive Lex (tt:TT) (S:Nat→Option Spec) (ops:List Oper):List Oper→St→List Prop→St→List Tr→Prop where
 | nil {st:St}:Lex tt S ops [] st [] st []
 | cons {o:Oper} {l:List Oper} {st s1 s2:St} {c cs:List Prop} {t:Tr} {ts:List Tr}:StepS tt S ops o st c s1 t→Lex tt S ops l s1 cs s2 ts→Lex tt S ops (o::l) st (c++cs) s2 (t::ts)
def anyE (tt:TT) (S:Nat→Option Spec) (ops:List Oper) (tr:Nat→Tr) (G:St→Prop):Nat→Array Bool→St→Prop
 | 0,listed,s=>Region.ready .any ops.toArray listed=[]∧G s
 | n+1,listed,s=>(Region.ready .any ops.toArray listed=[]→G s) ∧
   ∀ i∈Region.ready .any ops.toArray listed,∃ o cs dl p cs0 av,ops[i]?=some o∧StepD tt S ops o s cs dl (tr i) p cs0 av∧(∀ q∈cs,q)∧anyE tt S ops tr G n (listed.setIfInBounds i true) (s.app dl)
theorem Lex.uncons {tt:TT} {S:Nat→Option Spec} {ops:List Oper} {o:Oper} {l:List Oper} {st s2:St} {css:List Prop} {tss:List Tr} (h:Lex tt S ops (o::l) st css s2 tss) :
 ∃ t ts c cs s1,tss=t::ts∧css=c++cs∧StepS tt S ops o st c s1 t∧Lex tt S ops l s1 cs s2 ts:=by
 cases h with
 | cons h1 h2=>exact ⟨_,_,_,_,_,rfl,rfl,h1,h2⟩
section
variable {tt:TT} {S:Nat→Option Spec} {ops:List Oper} {tr:Nat→Tr} {G:St→Prop}
theorem anyE_same (hG:∀ s t,Same s t→G s→G t):∀ {n:Nat} {listed:Array Bool} {s t:St},Same s t→GtsOk s→anyE tt S ops tr G n listed s→anyE tt S ops tr G n listed t
 | 0,_,_,_,hs,_,h=>⟨h.1,hG _ _ hs h.2⟩
 | n+1,listed,s,t,hs,hg,h=>⟨fun h0=>hG _ _ hs (h.1 h0),fun i hi=>by
  obtain ⟨o,cs,dl,p,cs0,av,h1,h2,h3,h4⟩:=h.2 i hi
  obtain ⟨h5,h6⟩:=h2.same hs hg
  exact ⟨o,cs,dl,p,cs0,av,h1,h5,h3,anyE_same hG h6 (hg.app h2) h4⟩⟩
theorem anyE_first (hG:∀ s t,Same s t→G s→G t) {i:Nat} (T:Nat→Prop) (hT:∀ j,T j→∀ y,ops[j]?=some y→∃ e∈y.after,Region.binds .any e=true∧(e.on=i∨T e.on)) {x:Oper} (hi:ops[i]?=some x) {cx:List Prop} {px:List (Nat × Bool)} {cx0:List Prop} {ax:AV} (hcx:∀ q∈cx,q) :
 ∀ (n:Nat) (listed:Array Bool) (s:St) (dx:Dl),GtsOk s→(∀ j,T j→listed.getD j true=false) →
  (∀ j y,ops[j]?=some y→j≠i→listed.getD j true=false→¬ T j→Oper.apart ops.toArray x y=true∧indepX tt x y (tr i) (tr j)=true) →
  i∈Region.ready .any ops.toArray listed→StepD tt S ops x s cx dx (tr i) px cx0 ax →
  anyE tt S ops tr G n (listed.setIfInBounds i true) (s.app dx)→anyE tt S ops tr G (n+1) listed s:=by
 intro n
 induction n with
 | zero =>
   intro listed s dx hg _ _ hr hy H
   refine ⟨fun h=>(by rw [h] at hr;cases hr),fun j hj=>?_⟩
   by_cases hji:j=i
   ·subst hji;exact ⟨x,cx,dx,px,cx0,ax,hi,hy,hcx,H⟩
   ·have:=ready_mono hj hji
    rw [H.1] at this
    cases this
 | succ n ih =>
   intro listed s dx hg hL hfree hr hx H
   refine ⟨fun h=>(by rw [h] at hr;cases hr),fun j hj=>?_⟩
   by_cases hji:j=i
   ·subst hji;exact ⟨x,cx,dx,px,cx0,ax,hi,hx,hcx,H⟩
   ·obtain ⟨y,cy,dy,py,cy0,ay,hoj,hy,hcy,hrest⟩:=H.2 j (ready_mono hj hji)
    obtain ⟨hjun,oj,hoj',hall⟩:=mem_ready.1 hj
    rw [List.getElem?_toArray,hoj] at hoj'
    cases hoj'
    have hnot:¬ T j:=fun ht=>by
     obtain ⟨e,he,hb,heq⟩:=hT j ht y hoj
     have h1:=hall e he hb
     rcases heq with heq|heq
     case inr =>
      have h0:=hL _ heq
      rcases Nat.lt_or_ge e.on listed.size with h'|h'
      ·simp [h'] at h0 h1;rw [h0] at h1;cases h1
      ·simp [Array.getElem?_eq_none h'] at h1
     have h0:=(mem_ready.1 hr).1
     rw [heq] at h1
     rcases Nat.lt_or_ge i listed.size with h'|h'
     ·simp [h'] at h0 h1;rw [h0] at h1;cases h1
     ·simp [Array.getElem?_eq_none h'] at h1
    obtain ⟨hap,hin⟩:=hfree j y hoj hji hjun hnot
    obtain ⟨dx',dy',hy',hx',hsame,hg'⟩:=hx.swapX hy hg hap hin
    have hfree':∀ k z,ops[k]?=some z→k≠i→(listed.setIfInBounds j true).getD k true=false →
     ¬ T k→Oper.apart ops.toArray x z=true∧indepX tt x z (tr i) (tr k)=true:=fun k z hk hki hun hno=>by
     refine hfree k z hk hki ?_ hno
     by_cases hjk:j=k
     ·subst hjk;exact hjun
     ·rw [getD_set_ne true hjk] at hun;exact hun
    have hL':∀ k,T k→(listed.setIfInBounds j true).getD k true=false:=fun k hk=>by
     have:j≠k:=fun e=>hnot (e ▸ hk)
     rw [getD_set_ne true this];exact hL k hk
    refine ⟨y,cy,dy',py,cy0,ay,hoj,hy',hcy,ih _ _ dx' hg' hL' hfree' (ready_mono hr (Ne.symm hji)) hx' ?_⟩
    rw [Array.setIfInBounds_comm _ _ hji]
    exact anyE_same hG hsame ((hg.app hx).app hy) hrest
theorem readyAll_spec:∀ {l:List Oper} {k:Nat},readyAll k l=true→∀ j o,l[j]?=some o→∀ e∈o.after,Region.binds .any e=true→e.on < k+j
 | [],_,_,j,o,h=>by simp at h
 | x::l,k,h,j,o,hj=>by
   simp only [readyAll] at h
   split at h <;> try (cases h;done)
   rename_i h1
   cases j with
   | zero =>
     simp at hj;subst hj
     intro e he hb
     have:=List.all_eq_true.1 h1 e (Array.mem_toList_iff.2 he)
     simpa [hb] using this
   | succ j =>
     intro e he hb
     have:=readyAll_spec h j o (by simpa using hj) e he hb
     omega
theorem freeFrom_spec {x:Oper} {tx:Tr}:∀ {l:List Oper} {ts:List Tr} {wl:List Nat} {j0:Nat},freeFrom tt ops x tx wl j0 l ts=true →
 ∃ T:Nat→Prop,(∀ j,T j→j0≤j∧∃ y,l[j - j0]?=some y∧∃ e∈y.after,Region.binds .any e=true∧(mem wl e.on=true∨T e.on)) ∧
  ∀ (j:Nat) (y:Oper) (t:Tr),l[j]?=some y→ts[j]?=some t→T (j0+j)∨(Oper.apart ops.toArray x y=true∧indepX tt x y tx t=true)
 | [],_,_,_,h=>⟨fun _=>False,fun _ h=>h.elim,fun j y t h _=>by simp at h⟩
 | _::_,[],_,_,h=>by simp [freeFrom] at h
 | z::l,u::ts,wl,j0,h=>by
   simp only [freeFrom] at h
   split at h
   ·rename_i hw
    obtain ⟨T,h1,h2⟩:=freeFrom_spec h
    unfold waitsAny at hw
    rw [List.any_eq_true] at hw
    obtain ⟨e,he,hb⟩:=hw
    simp only [Bool.and_eq_true] at hb
    refine ⟨fun j=>j=j0∨T j,fun j hj=>?_,fun j y t hj ht=>?_⟩
    ·rcases hj with rfl|hj
     ·exact ⟨Nat.le_refl _,z,by simp,e,Array.mem_toList_iff.1 he,hb.1,.inl hb.2⟩
     ·obtain ⟨h3,y,h4,e2,h5,h6,h7⟩:=h1 j hj
      refine ⟨by omega,y,?_,e2,h5,h6,?_⟩
      ·rw [show j - j0=(j - (j0+1))+1 by omega];simpa using h4
      ·rcases h7 with h7|h7
       ·rw [mem_cons] at h7
        simp only [Bool.or_eq_true,decide_eq_true_eq] at h7
        rcases h7 with h7|h7
        ·exact .inr (.inl h7.symm)
        ·exact .inl h7
       ·exact .inr (.inr h7)
    ·cases j with
     | zero=>exact .inl (.inl rfl)
     | succ j =>
       rcases h2 j y t (by simpa using hj) (by simpa using ht) with h|h
       ·rw [show j0+1+j=j0+(j+1) by omega] at h
        exact .inl (.inr h)
       ·exact .inr h
   ·split at h <;> try (cases h;done)
    rename_i ha hb
    obtain ⟨T,h1,h2⟩:=freeFrom_spec h
    refine ⟨T,fun j hj=>?_,fun j y t hj ht=>?_⟩
    ·obtain ⟨h3,y,h4,h5⟩:=h1 j hj
     refine ⟨by omega,y,?_,h5⟩
     rw [show j - j0=(j - (j0+1))+1 by omega];simpa using h4
    ·cases j with
     | zero =>
       simp at hj ht;subst hj ht
       exact .inr ⟨ha,hb⟩
     | succ j =>
       rcases h2 j y t (by simpa using hj) (by simpa using ht) with h|h
       ·rw [show j0+1+j=j0+(j+1) by omega] at h
        exact .inl h
       ·exact .inr h
theorem getD_listed {k j:Nat} {listed:Array Bool} (hl:∀ j,listed.getD j true=decide (j < k∨ops.length≤j)) (hlen:listed.size=ops.length) (hj:j < k) (hk:k≤ops.length):listed.getD j false=true:=by
 have h:=hl j
 have hlt:j < listed.size:=by omega
 simp [hlt] at h ⊢
 simp [h,hj]
theorem anyE_lex (hG:∀ s t,Same s t→G s→G t):∀ {l:List Oper} {ts:List Tr} {k:Nat} {listed:Array Bool} {s s':St} {css:List Prop},l=ops.drop k→ts.length=l.length→(∀ j t,ts[j]?=some t→tr (k+j)=t) →
 readyAll 0 ops=true→freeAll tt ops k l ts=true→listed.size=ops.length→(∀ j,listed.getD j true=decide (j < k∨ops.length≤j))→GtsOk s→Lex tt S ops l s css s' ts→(∀ q∈css,q)→G s'→anyE tt S ops tr G l.length listed s
 | [],_,k,listed,s,_,_,hl,_,_,_,_,hsz,hlst,_,hx,_,h=>by
   cases hx
   refine ⟨?_,h⟩
   cases hr:Region.ready .any ops.toArray listed with
   | nil=>rfl
   | cons i l' =>
     have hi:i∈Region.ready .any ops.toArray listed:=by rw [hr];simp
     obtain ⟨h0,o,ho,_⟩:=mem_ready.1 hi
     have hlt:i < ops.length:=by
      have:=(Array.getElem?_eq_some_iff.1 ho).1
      simpa using this
     have hk:ops.length≤k:=by
      have:=congrArg List.length hl
      simp at this;omega
     rw [hlst i] at h0
     simp at h0;omega
 | o::l,_,k,listed,s,s',_,hl,hts,htr,hrd,hfr,hsz,hlst,hg,hx,hcs,h=>by
   obtain ⟨t,ts,c,cs,s1,rfl,rfl,h1,h2⟩:=hx.uncons
   have hk:ops[k]?=some o:=by
    have:=congrArg (·[0]?) hl
    simpa using this.symm
   have hklt:k < ops.length:=(List.getElem?_eq_some_iff.1 hk).1
   have hl':l=ops.drop (k+1):=by
    have:=congrArg List.tail hl
    simpa using this
   simp only [freeAll] at hfr
   split at hfr <;> try (cases hfr;done)
   rename_i hf
   obtain ⟨dl,p,cs0,av,hstep,rfl⟩:=stepD_of h1
   have htk:tr k=t:=by simpa using htr 0 t (by simp)
   have hready:k∈Region.ready .any ops.toArray listed:=by
    refine mem_ready.2 ⟨by rw [hlst k];simp;omega,o,by simpa using hk,fun e he hb=>?_⟩
    have:=readyAll_spec hrd k o hk e he hb
    exact getD_listed hlst hsz (by omega) (by omega)
   obtain ⟨T,hT1,hT2⟩:=freeFrom_spec hf
   have hTlt:∀ j,T j→k+1≤j∧j < ops.length:=fun j hj=>by
    obtain ⟨h3,y,h4,_⟩:=hT1 j hj
    rw [hl',List.getElem?_drop,show k+1+(j - (k+1))=j by omega] at h4
    exact ⟨h3,(List.getElem?_eq_some_iff.1 h4).1⟩
   refine anyE_first hG T (fun j hj y hy=>?_) hk (cx:=_) (fun q hq=>hcs q (List.mem_append_left _ hq)) l.length listed s dl hg ?_ ?_ hready (by rw [htk];exact hstep) ?_
   ·obtain ⟨h3,y',h4,e,h5,h6,h7⟩:=hT1 j hj
    rw [hl',List.getElem?_drop,show k+1+(j - (k+1))=j by omega,hy] at h4
    cases h4
    refine ⟨e,h5,h6,?_⟩
    rcases h7 with h7|h7
    ·rw [mem_cons] at h7
     simp only [Bool.or_eq_true,decide_eq_true_eq] at h7
     rcases h7 with h7|h7
     ·exact .inl h7.symm
     ·simp [mem] at h7
    ·exact .inr h7
   ·intro j hj
    have:=hTlt j hj
    rw [hlst j];simp;omega
   ·intro j y hj hjk hun hno
    rw [hlst j] at hun
    have hjlt:j < ops.length:=(List.getElem?_eq_some_iff.1 hj).1
    have hkj:k+1≤j:=by simp at hun;omega
    have hjl:l[j - (k+1)]?=some y:=by
     rw [hl',List.getElem?_drop]
     rw [show k+1+(j - (k+1))=j by omega];exact hj
    have hjt:j - (k+1) < ts.length:=by
     have:=(List.getElem?_eq_some_iff.1 hjl).1
     simp at hts;omega
    have hty:ts[j - (k+1)]?=some ts[j - (k+1)]:=List.getElem?_eq_getElem hjt
    have htj:tr j=ts[j - (k+1)]:=by
     have:=htr (j - (k+1)+1) ts[j - (k+1)] (by simp)
     rwa [show k+(j - (k+1)+1)=j by omega] at this
    rcases hT2 (j - (k+1)) y _ hjl hty with hw|⟨ha,hb⟩
    ·rw [show k+1+(j - (k+1))=j by omega] at hw
     exact absurd hw hno
    ·rw [htk,htj];exact ⟨ha,hb⟩
   ·refine anyE_lex hG hl' (by simpa using hts) (fun j t ht=>?_) hrd hfr (by simpa using hsz) (fun j=>?_) (hg.app hstep) h2 (fun q hq=>hcs q (List.mem_append_right _ hq)) h
    ·have:=htr (j+1) t (by simpa using ht)
     rwa [show k+(j+1)=k+1+j by omega] at this
    ·by_cases hjk:k=j
     ·subst hjk
      have:k < listed.size:=by omega
      simp [this]
     ·rw [getD_set_ne true hjk,hlst j]
      congr 1
      apply propext
      omega
end
end Go.AM
end

section
namespace Go.AM
theorem mem_iff:∀ {l:List Nat} {k:Nat},mem l k=true↔k∈l
 | [],_=>by simp [mem]
 | x::l,k=>by
   rw [mem_cons,List.mem_cons]
   simp only [Bool.or_eq_true,decide_eq_true_eq,mem_iff]
   exact or_congr eq_comm Iff.rfl
section
variable {g g' gL:Nat→Gh} {K R R2:Nat→Prop} {w:World} {src:Nat→Option (Option Nat)} {K':Nat→Prop}
structure SrcOk (src:Nat→Option (Option Nat)) (K':Nat→Prop) (g' gL:Nat→Gh):Prop where
 lt:∀ i x,src i=some x→K' i
 key:∀ i k,src i=some (some k)→gL i=g' k
 nil:∀ i,src i=some none→gL i=⟨0,.slice none 0 0⟩
theorem own_of {g:Nat→Gh} {K R:Nat→Prop} {w:World} {r:Nat} {v:Value} (hk:K r) (h:v.oneCell'=true) (e:(g r).v=v):RelV g K R w (.own r) v:=by
 subst e;exact .own hk h
mutual
theorem expV_rel (hs:SrcOk src K' g' gL):∀ {c x:AV} {v:Value},expV src c x→RelV g' K R w x v→RelV gL K' R w c v
 | .own i,x,v,h,hv=>by
   simp only [expV] at h
   split at h
   ·rename_i k k' hi
    subst h
    cases hv with
    | own hk h1=>exact own_of (hs.lt _ _ hi) h1 (by rw [hs.key _ _ hi])
   ·rename_i hi
    cases hv
    exact own_of (hs.lt _ _ hi) (by simp [Value.oneCell']) (by rw [hs.nil _ hi])
   ·exact h.elim
 | .ptr i j,x,v,h,hv=>by
   simp only [expV] at h
   split at h
   ·rename_i k j' k' hi
    obtain ⟨rfl,rfl⟩:=h
    cases hv with
    | ptr hk=>rw [← hs.key _ _ hi];exact .ptr (hs.lt _ _ hi)
   ·exact h.elim
 | .agg cs,x,v,h,hv=>by
   simp only [expV] at h
   split at h
   ·cases hv with
    | agg hv=>exact .agg (expL_rel hs h hv)
   ·exact h.elim
 | .tup cs,x,v,h,hv=>by
   simp only [expV] at h
   split at h
   ·cases hv with
    | tup hv=>exact .tup (expL_rel hs h hv)
   ·exact h.elim
 | .int k m,x,v,h,hv=>by
   simp only [expV] at h;subst h
   cases hv with
   | int h=>exact .int h
 | .bool b,x,v,h,hv=>by
   simp only [expV] at h;subst h
   cases hv;exact .bool
 | .str s,x,v,h,hv=>by
   simp only [expV] at h;subst h
   cases hv with
   | str h=>exact .str h
 | .sl t xs,x,v,h,hv=>by
   simp only [expV] at h
   split at h
   ·subst h
    cases hv
    exact .sl (Reads_nil _ _)
   ·subst h
    cases hv with
    | sl h=>exact .sl h
 | .nilsl,x,v,h,hv=>by
   simp only [expV] at h;subst h
   cases hv;exact .nilsl
 | .nilptr,x,v,h,hv=>by
   simp only [expV] at h;subst h
   cases hv;exact .nilptr
 | .ext .any,x,v,h,hv=>by
   simp only [expV] at h
   exact .ext (cell_one h hv)
 | .ext (.nn _ _),x,v,h,hv=>by
   simp only [expV] at h;subst h
   cases hv with
   | ext h=>exact .ext h
 | .ext (.cref _ _ _),x,v,h,hv=>by
   simp only [expV] at h;subst h
   cases hv with
   | ext h=>exact .ext h
 | .ext (.cvals _ _),x,v,h,hv=>by
   simp only [expV] at h;subst h
   cases hv with
   | ext h=>exact .ext h
 | .ext (.full _ _),x,v,h,hv=>by
   simp only [expV] at h;subst h
   cases hv with
   | ext h=>exact .ext h
 | .ext (.nl _),x,v,h,hv=>by
   simp only [expV] at h;subst h
   cases hv with
   | ext h=>exact .ext h
 | .ext (.fn1 _ _ _),x,v,h,hv=>by
   simp only [expV] at h;subst h
   cases hv with
   | ext h=>exact .ext h
 | .ext (.fn2 _ _ _),x,v,h,hv=>by
   simp only [expV] at h;subst h
   cases hv with
   | ext h=>exact .ext h
 | .ext (.opt _ _),x,v,h,hv=>by
   simp only [expV] at h;subst h
   cases hv with
   | ext h=>exact .ext h
 | .ext (.nilm),x,v,h,hv=>by
   simp only [expV] at h;subst h
   cases hv with
   | ext h=>exact .ext h
 | .ext (.mnil _),x,v,h,hv=>by
   simp only [expV] at h;subst h
   cases hv with
   | ext h=>exact .ext h
 | .junk,x,v,h,hv=>.junk
 | .el t xs i j,x,v,h,hv=>by
   simp only [expV] at h;subst h
   cases hv with
   | el h1 h2=>exact .el h1 h2
 | .oel _ _ _ _,x,v,h,hv=>by simp [expV] at h
 | .part _ _ _,x,v,h,hv=>by simp [expV] at h
 | .head _ _ _,x,v,h,hv=>by simp [expV] at h
 | .fn f cs ds,x,v,h,hv=>by
   simp only [expV] at h
   split at h
   ·obtain ⟨rfl,h1,h2⟩:=h
    cases hv with
    | fn h3 h4=>exact .fn (expL_rel hs h1 h3) (expL_rel hs h2 h4)
   ·exact h.elim
 | .nilfn,x,v,h,hv=>by simp [expV] at h
theorem expL_rel (hs:SrcOk src K' g' gL):∀ {cs ds:List AV} {vs:List Value},expL src cs ds→RelL g' K R w ds vs→RelL gL K' R w cs vs
 | [],[],vs,h,hv=>by cases hv;exact .nil
 | [],_::_,vs,h,hv=>by simp [expL] at h
 | _::_,[],vs,h,hv=>by simp [expL] at h
 | c::cs,d::ds,vs,h,hv=>by
   simp only [expL] at h
   cases hv with
   | cons h1 h2=>exact .cons (expV_rel hs h.1 h1) (expL_rel hs h.2 h2)
end
theorem nilsOf_rel {α:Type}:∀ {ds:List AV} {xss:List (List α)} {vs:List Value},nilsOf ds xss→RelL g' K R w ds vs→vs.length=xss.length∧∀ v∈vs,v=.slice none 0 0
 | [],[],vs,_,h=>by cases h;exact ⟨rfl,by simp⟩
 | [],_::_,vs,h,_=>by simp [nilsOf] at h
 | d::ds,xss,vs,h,hv=>by
   cases hv with
   | cons h1 h2 =>
     cases xss with
     | nil=>cases d <;> simp [nilsOf] at h
     | cons x xss =>
       cases d <;> cases x <;> try (simp [nilsOf] at h;done)
       simp only [nilsOf] at h
       obtain ⟨h3,h4⟩:=nilsOf_rel h h2
       cases h1
       exact ⟨by simp [h3],fun v hv=>by
        rcases List.mem_cons.1 hv with rfl|hv
        ·rfl
        ·exact h4 v hv⟩
theorem nilsOf_nil {α:Type}:∀ {ds:List AV} {xss:List (List α)} {i:Nat} {xs:List α},nilsOf ds xss→xss[i]?=some xs→xs=[]
 | [],[],_,_,_,h=>by simp at h
 | [],_::_,_,_,h,_=>by simp [nilsOf] at h
 | d::ds,[],_,_,h,_=>by cases d <;> simp [nilsOf] at h
 | d::ds,x::xss,i,xs,h,hx=>by
   cases d <;> cases x <;> try (simp [nilsOf] at h;done)
   simp only [nilsOf] at h
   cases i with
   | zero=>simp at hx;exact hx
   | succ i=>exact nilsOf_nil h (by simpa using hx)
theorem expO_rel (hs:SrcOk src K' g' gL) {i k:Nat} (hk:gL i=g' k) {o x:AObj} (h:expO src o x) (hx:RowH g' K R w k x):RowH gL K' R w i o∧∀ b,Own gL w i o b→Own g' w k x b:=by
 cases o with
 | box cs =>
   simp only [expO] at h
   split at h
   ·obtain ⟨vs,t,h1,h2,h3⟩:=hx
    exact ⟨⟨vs,t,by rw [hk];exact h1,expL_rel hs h h2,h3⟩,fun b hb=>by simpa [Own,hk] using hb⟩
   ·exact h.elim
 | seq t xs =>
   simp only [expO] at h
   subst h
   exact ⟨by unfold RowH at *;rw [hk];exact hx,fun b hb=>by simpa [Own,hk] using hb⟩
 | arr t xss hl =>
   simp only [expO] at h
   split at h
   ·obtain ⟨h1,h2⟩:=h
    subst h1
    obtain ⟨vs,ty,h3,h4,h5⟩:=hx
    obtain ⟨h6,h7⟩:=nilsOf_rel h2 h4
    have hbl:∀ (i:Nat) v,vs[i]?=some v→v=.slice none 0 0:=fun i v hv=>h7 v (List.mem_of_getElem? hv)
    refine ⟨⟨vs,ty,by rw [hk];exact h3,⟨h6,h5,fun i v xs hv hxs _=>?_,fun i v hv _=>by rw [hbl i v hv];simp [blkOf],fun i j v u c hv hu _ _ hb _=>by rw [hbl i v hv] at hb;simp [blkOf] at hb⟩⟩,fun b hb=>?_⟩
    ·rw [hbl i v hv,nilsOf_nil h2 hxs]
     exact ⟨ty,[],ownsSeq_nil w ty t.size none,rfl,by simp⟩
    ·rcases hb with rfl|⟨vs',ty',i,v,h8,h9,_,h10⟩
     ·rw [hk];rfl
     ·rw [hk,h3] at h8
      have:vs=vs':=by
       have:=congrArg (fun o=>match o with|some (Obj.cells c _ _)=>c.toList|_=>[]) h8
       simpa using this
      subst this
      rw [hbl i v h9] at h10
      simp [blkOf] at h10
   ·subst h
    refine ⟨by simp only [RowH] at *;rw [hk];exact hx,fun b hb=>?_⟩
    simp only [Own,hk] at hb ⊢
    exact hb
 | map a b l =>
   simp only [expO] at h
   subst h
   exact ⟨by simp only [RowH] at *;rw [hk];exact hx,fun b hb=>by simpa [Own,hk] using hb⟩
 | mit m0 a b l cur G =>
   simp only [expO] at h
   split at h
   ·rename_i m1 a' b' l' cur' G'
    obtain ⟨h1,h2⟩:=h
    cases h1
    split at h2
    ·rename_i q hi
     subst h2
     obtain ⟨⟨h3,h4⟩,h5⟩:=hx
     refine ⟨⟨⟨hs.lt _ _ hi,by rw [hk,hs.key _ _ hi];exact h4⟩,by rw [hk];exact h5⟩,fun b hb=>?_⟩
     simp only [Own,hk] at hb ⊢
     exact hb
    ·exact h2.elim
   ·exact h.elim
 | bag t xs =>
   simp only [expO] at h
   split at h
   ·obtain ⟨h1,h2⟩:=h
    subst h1
    refine ⟨⟨_,h2,?_⟩,fun b hb=>by simpa [Own,hk] using hb⟩
    simp only [RowH] at hx
    rw [hk]
    exact hx
   ·obtain ⟨h1,h2⟩:=h
    subst h1
    obtain ⟨ys,h3,h4⟩:=hx
    refine ⟨⟨ys,h3.trans h2,by rw [hk];exact h4⟩,fun b hb=>by simpa [Own,hk] using hb⟩
   ·exact h.elim
 | bld T e u l =>
   simp only [expO] at h
   subst h
   exact ⟨by simp only [RowH] at *;rw [hk];exact hx,fun b hb=>by simpa [Own,hk] using hb⟩
 | mit0 =>
   simp only [expO] at h
   subst h
   exact ⟨by simp only [RowH] at *;rw [hk];exact hx,fun b hb=>by simpa [Own,hk] using hb⟩
 | pend m0 a b l j =>
   simp only [expO] at h
   split at h
   ·rename_i m1 a' b' l' j'
    obtain ⟨h1,h2⟩:=h
    cases h1
    split at h2
    ·rename_i q hi
     subst h2
     obtain ⟨⟨h3,h4⟩,h5⟩:=hx
     refine ⟨⟨⟨hs.lt _ _ hi,by rw [hk,hs.key _ _ hi];exact h4⟩,by rw [hk];exact h5⟩,fun b hb=>?_⟩
     simp only [Own,hk] at hb ⊢
     exact hb
    ·exact h2.elim
   ·exact h.elim
 | mmap a b c l h0 =>
   cases h0 with
   | some q =>
     obtain ⟨j,d⟩:=q
     simp only [expO] at h
     split at h
     ·rename_i k' a' b' l' j' d'
      obtain ⟨h1,h2⟩:=h
      cases h1
      split at h2
      ·rename_i q hi
       subst h2
       obtain ⟨bm,es,clock,ns,h3,h4,h5,h6⟩:=hx
       obtain ⟨h7,h8,n,h9,h10⟩:=h6 _ _ rfl
       refine ⟨⟨bm,es,clock,ns,by rw [hk];exact h3,h4,h5,fun j' d' hd=>?_⟩,fun b hb=>?_⟩
       ·cases hd
        exact ⟨h7,hs.lt _ _ hi,n,h9,by rw [hs.key _ _ hi];exact h10⟩
       ·simp only [Own,hk] at hb ⊢
        exact hb
      ·exact h2.elim
     ·exact h.elim
   | none =>
     simp only [expO] at h
     subst h
     obtain ⟨bm,es,clock,ns,h1,h2,h3,_⟩:=hx
     exact ⟨⟨bm,es,clock,ns,by rw [hk];exact h1,h2,h3,fun j d h=>by cases h⟩,fun b hb=>by simpa [Own,hk] using hb⟩
 | yp j =>
   simp only [expO] at h
   split at h
   ·rename_i k0
    split at h
    ·rename_i k' hi
     subst h
     obtain ⟨h1,h2⟩:=hx
     exact ⟨⟨hs.lt _ _ hi,by rw [hk,hs.key _ _ hi];exact h2⟩,fun b hb=>by simp [Own] at hb⟩
    ·exact h.elim
   ·exact h.elim
 | yld t two Y p =>
   simp only [expO] at h
   subst h
   exact ⟨by simp only [RowH] at *;rw [hk];exact hx,fun b hb=>by simpa [Own,hk] using hb⟩
 | dead=>exact ⟨trivial,fun b hb=>by simp [Own] at hb⟩
end
theorem nth_someK:∀ {l:List (Option Nat)} {i k:Nat},l[i]?=some (some k)→k∈someK l
 | [],_,_,h=>by simp at h
 | none::l,0,k,h=>by simp at h
 | some x::l,0,k,h=>by simp at h;subst h;simp [someK]
 | none::l,i+1,k,h=>by simp only [someK];exact nth_someK (by simpa using h)
 | some x::l,i+1,k,h=>by simp only [someK];exact List.mem_cons_of_mem _ (nth_someK (by simpa using h))
theorem someK_inj:∀ {l:List (Option Nat)} {i j k:Nat},nodupK (someK l)=true→l[i]?=some (some k)→l[j]?=some (some k)→i=j
 | [],_,_,_,_,h,_=>by simp at h
 | none::l,0,_,_,_,h,_=>by simp at h
 | none::l,_+1,0,_,_,_,h=>by simp at h
 | none::l,i+1,j+1,k,hn,h1,h2=>by
   simp only [someK] at hn
   have:=someK_inj hn (i:=i) (j:=j) (k:=k) (by simpa using h1) (by simpa using h2)
   omega
 | some x::l,0,0,_,_,_,_=>rfl
 | some x::l,0,j+1,k,hn,h1,h2=>by
   simp at h1;subst h1
   simp only [someK,nodupK] at hn
   split at hn
   ·cases hn
   ·rename_i hm
    have:=nth_someK (l:=l) (by simpa using h2)
    rw [← mem_iff] at this
    rw [this] at hm;cases hm
 | some x::l,i+1,0,k,hn,h1,h2=>by
   simp at h2;subst h2
   simp only [someK,nodupK] at hn
   split at hn
   ·cases hn
   ·rename_i hm
    have:=nth_someK (l:=l) (by simpa using h1)
    rw [← mem_iff] at this
    rw [this] at hm;cases hm
 | some x::l,i+1,j+1,k,hn,h1,h2=>by
   simp only [someK,nodupK] at hn
   split at hn
   ·cases hn
   ·have:=someK_inj hn (i:=i) (j:=j) (k:=k) (by simpa using h1) (by simpa using h2)
    omega
end Go.AM
end
