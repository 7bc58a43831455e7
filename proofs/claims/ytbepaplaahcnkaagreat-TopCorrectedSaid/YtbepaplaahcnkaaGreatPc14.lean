/- AmCode, AmRoot. -/
import Derived.Test.YtbepaplaahcnkaaGreatPc13
import Derived.RangeFuncLeaves

set_option linter.all false
section
namespace Go.AM
theorem appP_eq:∀ {a b:List Prop},appP a b=a++b
 | [],_=>rfl
 | _::_,_=>by simp [appP,appP_eq]
theorem runO_spec {β:Type} {tt:TT} {S:Nat→Option Spec} {ops:List Oper}:∀ {l:List Oper} {st:St} {cs:List Prop} {ts:List Tr} {k:List Prop→St→List Tr→Option β} {y:β},runO tt S ops l st cs ts k=some y →
 ∃ c s t,Lex tt S ops l st c s t∧k (cs++c) s (t.reverse++ts)=some y
 | [],st,cs,ts,k,y,h=>⟨[],st,[],.nil,by simpa [runO] using h⟩
 | o::l,st,cs,ts,k,y,h=>by
   simp only [runO] at h
   obtain ⟨c,s1,t,h1,h2⟩:=stepO_spec h
   rw [forceL_eq,appP_eq] at h2
   obtain ⟨c',s2,t',h3,h4⟩:=runO_spec h2
   exact ⟨c++c',s2,t::t',.cons h1 h3,by simpa using h4⟩
def operandB:Operand→Bool
 | .const (.int k n)=>decide (k.wrap n=n)
 | .const (.string s)=>Nat.ble s.size maxLen
 | _=>true
def codeOk:Code→Bool
 | .region _ ops _=>ops.toList.all fun o=>notDefer o.op&&o.op.operands.toList.all operandB
 | .seq a b=>codeOk a&&codeOk b
 | .cond c a b=>operandB c&&codeOk a&&codeOk b
 | .block _ c=>codeOk c
 | .loop c=>codeOk c
 | .scope c=>codeOk c
 | .rangeFunc _ _ a b=>codeOk a&&codeOk b
 | _=>true
theorem operandB_spec {x:Operand} (h:operandB x=true):constOk x:=by
 unfold operandB at h
 unfold constOk
 split at h <;> simp_all
section
variable {P:Program} {C:Ctx} {tt:TT} {S:Nat→Option Spec}
theorem runs_sound {ro:Option Nat} (hT:TTok P tt) (hS:SigOk P S) {ops:List Oper} (hok:∀ o∈ops,operOk o∧notDefer o.op=true) {Q:Exit→Act→World→Prop}:∀ {l:List Oper} {st s:St} {cs:List Prop} {ts:List Tr} (k:Nat),Lex tt S ops l st cs s ts→l=ops.drop k→(∀ p∈cs,p) →
 ∀ {g:Nat→Gh} {R:Nat→Prop} {a:Act} {w:World},Rel C g R st a w→(∀ g' R' a' w',Rel C g' R' s a' w'→Q .normal a' w')→wpOpsIn (FR ro) 0 P ops.toArray Q (List.range' k l.length) a w
 | _,_,_,_,_,k,.nil,_,_,g,R,a,w,hrel,hq=>by simpa [wpOpsIn] using hq g R a w hrel
 | _,_,_,_,_,k,.cons (o:=o) (l:=l) (c:=c) (cs:=cs) h1 h2,hl,hcs,g,R,a,w,hrel,hq=>by
   have hk:ops[k]?=some o:=by
    have:=congrArg (·[0]?) hl
    simpa using this.symm
   have hl':l=ops.drop (k+1):=by
    have:=congrArg List.tail hl
    simpa using this
   simp only [List.length_cons,List.range'_succ,wpOpsIn,List.getElem?_toArray,hk]
   have:=stepS_sound (C:=C) (Q:=Q) (ro:=ro) (next:=wpOpsIn (FR ro) 0 P ops.toArray Q (List.range' (k+1) l.length)) hT hS h1 (hok o (List.mem_of_getElem? hk)).1 (hok o (List.mem_of_getElem? hk)).2 hrel (fun p hp=>hcs p (List.mem_append_left _ hp))
    (fun g' R' a' w' hr=>runs_sound hT hS hok (k+1) h2 hl' (fun p hp=>hcs p (List.mem_append_right _ hp)) hr hq)
   split at this
   ·rename_i hw;rw [if_pos hw];exact this
   ·rename_i hw;rw [if_neg hw];exact ⟨fun _ _=>trivial,this⟩
theorem look_dropPaths:∀ {l:List (Nat × Ent)} {dr:List Nat} {t:Nat} {e:Ent},look (dropPaths dr l) t=some e→mem dr t=false∧look l t=some e∧e.path=[]
 | [],_,_,_,h=>by simp [dropPaths,look] at h
 | (u,x)::r,dr,t,e,h=>by
   simp only [dropPaths] at h
   split at h
   ·rename_i hx
    split at h
    ·rename_i hm
     obtain ⟨h1,h2,h3⟩:=look_dropPaths h
     refine ⟨h1,?_,h3⟩
     rw [look_cons,if_neg (fun e=>by subst e;rw [hm] at h1;cases h1)]
     exact h2
    ·rename_i hm
     rw [look_cons] at h
     by_cases hu:u=t
     ·subst hu;simp at h;subst h;exact ⟨hm,by rw [look_cons];simp,hx⟩
     ·simp [hu] at h
      obtain ⟨h1,h2,h3⟩:=look_dropPaths h
      exact ⟨h1,by rw [look_cons,if_neg hu];exact h2,h3⟩
   ·obtain ⟨h1,h2,h3⟩:=look_dropPaths h
    rw [mem_cons] at h1
    simp at h1
    exact ⟨h1.2,by rw [look_cons,if_neg h1.1];exact h2,h3⟩
theorem done_sound {st:St} {Z:St→Prop} {g:Nat→Gh} {R:Nat→Prop} {a:Act} {w:World} (h:st.done Z) (hrel:Rel C g R st a w):∃ s,Z s∧Rel C g R s a w:=by
 obtain ⟨n,slots,gt,ks,rows⟩:=st
 unfold St.done at h
 dsimp only at h
 split at h
 ·exact ⟨_,h,hrel⟩
 ·rw [forceL_eq] at h
  refine ⟨_,h,hrel.size,hrel.defers,fun t e he=>?_,fun t e he u x hx=>?_,hrel.heap⟩
  ·exact hrel.slots t e (look_dropPaths he).2.1
  ·rw [(look_dropPaths he).2.2] at hx;simp at hx
theorem allP_spec:∀ {cs:List Prop} {q:Prop},allP cs q→(∀ p∈cs,p)∧q
 | [],q,h=>⟨by simp,h⟩
 | c::cs,q,h=>by
   obtain ⟨h1,h2⟩:=allP_spec h.2
   exact ⟨fun p hp=>by rcases List.mem_cons.1 hp with rfl|hp;exact h.1;exact h1 p hp,h2⟩
theorem subSlots_look {st:St}:∀ {l:List (Nat × Ent)} {t:Nat} {e:Ent},subSlots st l→look l t=some e→look st.slots t=some e
 | [],_,_,_,h=>by simp [look] at h
 | (u,x)::r,t,e,hs,h=>by
   rw [look_cons] at h
   by_cases hu:u=t
   ·subst hu;simp at h;subst h;exact hs.1
   ·simp [hu] at h;exact subSlots_look hs.2 h
theorem subRows_look {st:St}:∀ {l:List (Nat × AObj)} {t:Nat} {o:AObj},subRows st l→look l t=some o→look st.rows t=some o
 | [],_,_,_,h=>by simp [look] at h
 | (u,x)::r,t,e,hs,h=>by
   rw [look_cons] at h
   by_cases hu:u=t
   ·subst hu;simp at h;subst h;exact hs.1
   ·simp [hu] at h;exact subRows_look hs.2 h
theorem withinSlots_look {p:Nat→Bool}:∀ {l:List (Nat × Ent)} {t:Nat} {e:Ent},withinSlots p l=true→look l t=some e→AV.within p e.av=true
 | [],_,_,_,h=>by simp [look] at h
 | (u,x)::r,t,e,hs,h=>by
   simp only [withinSlots] at hs
   split at hs
   ·rename_i h1
    rw [look_cons] at h
    by_cases hu:u=t
    ·simp [hu] at h;subst h;exact h1
    ·simp [hu] at h;exact withinSlots_look hs h
   ·cases hs
theorem withinRows_look {p:Nat→Bool}:∀ {l:List (Nat × AObj)} {t:Nat} {o:AObj},withinRows p l=true→look l t=some o→p t=true∧withinOs p [o]=true
 | [],_,_,_,h=>by simp [look] at h
 | (u,x)::r,t,o,hs,h=>by
   rw [look_cons] at h
   cases x with
   | box cs =>
     simp only [withinRows] at hs
     split at hs <;> try (cases hs;done)
     rename_i h1 h2
     by_cases hu:u=t
     ·simp [hu] at h;subst h;subst hu;exact ⟨h1,by simp [withinOs,h2]⟩
     ·simp [hu] at h;exact withinRows_look hs h
   | seq ty xs =>
     simp only [withinRows] at hs
     split at hs <;> try (cases hs;done)
     rename_i h1
     by_cases hu:u=t
     ·simp [hu] at h;subst h;subst hu;exact ⟨h1,rfl⟩
     ·simp [hu] at h;exact withinRows_look hs h
   | arr ty xss hl =>
     simp only [withinRows] at hs
     split at hs <;> try (cases hs;done)
     rename_i h1
     by_cases hu:u=t
     ·simp [hu] at h;subst h;subst hu;exact ⟨h1,rfl⟩
     ·simp [hu] at h;exact withinRows_look hs h
   | map a b l =>
     simp only [withinRows] at hs
     split at hs <;> try (cases hs;done)
     rename_i h1
     by_cases hu:u=t
     ·simp [hu] at h;subst h;subst hu;exact ⟨h1,rfl⟩
     ·simp [hu] at h;exact withinRows_look hs h
   | yp k =>
     simp only [withinRows] at hs
     split at hs <;> try (cases hs;done)
     rename_i h1 h2
     by_cases hu:u=t
     ·simp [hu] at h;subst h;subst hu;exact ⟨h1,by simp [withinOs,h2]⟩
     ·simp [hu] at h;exact withinRows_look hs h
   | mit j a b l cur G =>
     simp only [withinRows] at hs
     split at hs <;> try (cases hs;done)
     rename_i h1 h2
     by_cases hu:u=t
     ·simp [hu] at h;subst h;subst hu;exact ⟨h1,by simp [withinOs,h2]⟩
     ·simp [hu] at h;exact withinRows_look hs h
   | pend j a b l i =>
     simp only [withinRows] at hs
     split at hs <;> try (cases hs;done)
     rename_i h1 h2
     by_cases hu:u=t
     ·simp [hu] at h;subst h;subst hu;exact ⟨h1,by simp [withinOs,h2]⟩
     ·simp [hu] at h;exact withinRows_look hs h
   | mmap a b c l h0 =>
     cases h0 with
     | none =>
       simp only [withinRows] at hs
       split at hs <;> try (cases hs;done)
       rename_i h1
       by_cases hu:u=t
       ·simp [hu] at h;subst h;subst hu;exact ⟨h1,rfl⟩
       ·simp [hu] at h;exact withinRows_look hs h
     | some q =>
       obtain ⟨i,j⟩:=q
       simp only [withinRows] at hs
       split at hs <;> try (cases hs;done)
       rename_i h1 h2
       by_cases hu:u=t
       ·simp [hu] at h;subst h;subst hu;exact ⟨h1,by simp [withinOs,h2]⟩
       ·simp [hu] at h;exact withinRows_look hs h
   | bag t0 xs0 =>
     simp only [withinRows] at hs
     split at hs <;> try (cases hs;done)
     rename_i h1
     by_cases hu:u=t
     ·simp [hu] at h;subst h;subst hu;exact ⟨h1,rfl⟩
     ·simp [hu] at h;exact withinRows_look hs h
   | bld T e u0 l =>
     simp only [withinRows] at hs
     split at hs <;> try (cases hs;done)
     rename_i h1
     by_cases hu:u=t
     ·simp [hu] at h;subst h;subst hu;exact ⟨h1,rfl⟩
     ·simp [hu] at h;exact withinRows_look hs h
   | mit0 =>
     simp only [withinRows] at hs
     split at hs <;> try (cases hs;done)
     rename_i h1
     by_cases hu:u=t
     ·simp [hu] at h;subst h;subst hu;exact ⟨h1,rfl⟩
     ·simp [hu] at h;exact withinRows_look hs h
   | yld ty two Y p =>
     simp only [withinRows] at hs
     split at hs <;> try (cases hs;done)
     rename_i h1
     by_cases hu:u=t
     ·simp [hu] at h;subst h;subst hu;exact ⟨h1,rfl⟩
     ·simp [hu] at h;exact withinRows_look hs h
   | dead =>
     simp only [withinRows] at hs
     split at hs <;> try (cases hs;done)
     rename_i h1
     by_cases hu:u=t
     ·simp [hu] at h;subst h;subst hu;exact ⟨h1,rfl⟩
     ·simp [hu] at h;exact withinRows_look hs h
theorem subKs_mem {st:St}:∀ {l:List Nat} {k:Nat},subKs st l=true→mem l k=true→mem st.ks k=true
 | [],_,_,h=>by simp [mem] at h
 | x::r,k,hs,h=>by
   simp only [subKs] at hs
   split at hs
   ·rename_i h1
    rw [mem_cons] at h
    by_cases hx:x=k
    ·subst hx;exact h1
    ·simp [hx] at h;exact subKs_mem hs h
   ·cases hs
theorem sub_sound {st m:St} (hs:Sub st m) {g:Nat→Gh} {R:Nat→Prop} {a:Act} {w:World} (hrel:Rel C g R st a w):Rel C g R m a w:=by
 have hK:∀ r,mem m.ks r=true→mem st.ks r=true:=fun r h=>subKs_mem hs.ks h
 have heq:(fun r=>mem m.ks r=true∧mem st.ks r=true)=(fun r=>mem m.ks r=true):=funext fun r=>propext ⟨fun h=>h.1,fun h=>⟨h,hK r h⟩⟩
 refine ⟨by rw [hrel.size,hs.n],hrel.defers,fun t e he=>?_,fun t e he u x hx=>?_,?_⟩
 ·have h1:=subSlots_look hs.slots he
  have h2:=withinSlots_look hs.inSlots he
  obtain ⟨h3,h4⟩:=hrel.slots t e h1
  refine ⟨fun hp=>?_,h4⟩
  obtain ⟨v,h5,h6⟩:=h3 hp
  have:=RelV_within h2 h6
  rw [heq] at this
  exact ⟨v,h5,this⟩
 ·have:=hrel.gts t e (subSlots_look hs.slots he) u x hx
  rw [hs.gt0] at this
  simp [mem] at this
 ·have h:=hrel.heap
  refine ⟨h.hsize,h.os,h.tape,h.output,h.frame,h.rsub,h.rlt,h.rnew,fun r hr hm=>h.gfix r hr (hK r hm),fun r o ho=>(withinRows_look hs.inRows ho).1,fun r o ho=>?_,fun r o b ho hb=>h.own r o b (subRows_look hs.rows ho) hb,fun r r' o o' b h1 h2=>h.sep r r' o o' b (subRows_look hs.rows h1) (subRows_look hs.rows h2)⟩
  have:=RowH_within (withinRows_look hs.inRows ho).2 (h.held r o (subRows_look hs.rows ho))
  rw [heq] at this
  exact this
theorem slotsX_look {st:St} {src:Nat→Option (Option Nat)}:∀ {l:List (Nat × Ent)} {t:Nat} {e:Ent},slotsX st src l→look l t=some e→e.path=[]∧∃ e',look st.slots t=some e'∧e'.path=[]∧expV src e.av e'.av
 | [],_,_,_,h=>by simp [look] at h
 | (u,x)::r,t,e,hs,h=>by
   rw [look_cons] at h
   by_cases hu:u=t
   ·subst hu;simp at h;subst h
    obtain ⟨h1,h2⟩:=hs
    obtain ⟨p,av⟩:=x
    cases p with
    | cons _ _=>exact h1.elim
    | nil =>
      simp only at h1
      split at h1
      ·rename_i v hl;exact ⟨rfl,⟨[],v⟩,hl,rfl,h1⟩
      ·exact h1.elim
   ·simp [hu] at h;exact slotsX_look hs.2 h
theorem rowsX_look {st:St} {src:Nat→Option (Option Nat)}:∀ {l:List (Nat × AObj)} {t:Nat} {o:AObj},rowsX st src l→look l t=some o→expRow st src t o
 | [],_,_,_,h=>by simp [look] at h
 | (u,x)::r,t,e,hs,h=>by
   rw [look_cons] at h
   by_cases hu:u=t
   ·subst hu;simp at h;subst h;exact hs.1
   ·simp [hu] at h;exact rowsX_look hs.2 h
theorem ksX_spec {st:St}:∀ {L:List (Nat × Option Nat)},ksX st L=true→∀ k x,look L k=some x→(∀ k',x=some k'→mem st.ks k'=true)∧(100000≤k→x=some k)
 | [],_,_,_,h=>by simp [look] at h
 | (u,y)::r,h,k,x,hl=>by
   rw [look_cons] at hl
   simp only [ksX] at h
   split at h <;> try (cases h;done)
   rename_i h1 h2
   by_cases hu:u=k
   ·subst hu;simp at hl;subst hl
    refine ⟨fun k' hk=>by subst hk;exact h1,fun h5=>?_⟩
    simp only [Bool.or_eq_true] at h2
    rcases h2 with h2|h2
    ·simp at h2;omega
    ·cases y with
     | none=>cases h2
     | some k'=>rw [beq_eq h2]
   ·simp [hu] at hl;exact ksX_spec h k x hl
theorem look_inj:∀ {L:List (Nat × Option Nat)} {i j k:Nat},nodupK (someK (sndL L))=true→look L i=some (some k)→look L j=some (some k)→i=j:=by
 intro L i j k hn hi hj
 have key:∀ {L:List (Nat × Option Nat)} {i:Nat} {x:Option Nat},look L i=some x→∃ m:Nat,(sndL L)[m]?=some x∧(L[m]?).map Prod.fst=some i:=by
  intro L
  induction L with
  | nil=>intro i x h;simp [look] at h
  | cons y L ih =>
    intro i x h
    obtain ⟨u,y⟩:=y
    rw [look_cons] at h
    by_cases hu:u=i
    ·subst hu;simp at h;subst h;exact ⟨0,by simp [sndL],by simp⟩
    ·simp [hu] at h
     obtain ⟨m,h1,h2⟩:=ih h
     exact ⟨m+1,by simpa [sndL] using h1,by simpa using h2⟩
 obtain ⟨m,h1,h2⟩:=key hi
 obtain ⟨m',h3,h4⟩:=key hj
 have:=someK_inj hn h1 h3
 subst this
 rw [h2] at h4
 exact Option.some.inj h4
theorem subX_sound {st m:St} {L:List (Nat × Option Nat)} (hs:SubX st m L) {g:Nat→Gh} {R:Nat→Prop} {a:Act} {w:World} (hrel:Rel C g R st a w):∃ g',Rel C g' R m a w:=by
 have hh:=hrel.heap
 have hks:=ksX_spec hs.keys
 obtain ⟨gL,hgL⟩:∃ gL:Nat→Gh,gL=fun i=>match look L i with|some (some k)=>g k|_=>⟨0,.slice none 0 0⟩:=⟨_,rfl⟩
 have hK:∀ k,mem m.ks k=true↔∃ x,look L k=some x:=fun k=>by
  rw [hs.ks,← Option.isSome_iff_exists,Option.isSome_iff_ne_none]
  constructor
  ·intro h h0
   have:∀ {L:List (Nat × Option Nat)},mem (fstL L) k=true→look L k≠none:=by
    intro L
    induction L with
    | nil=>intro h;simp [fstL,mem] at h
    | cons y L ih =>
      obtain ⟨u,y⟩:=y
      intro h
      simp only [fstL,mem_cons] at h
      rw [look_cons]
      by_cases hu:u=k
      ·simp [hu]
      ·simp [hu] at h ⊢;exact ih h
   exact this h h0
  ·intro h
   have:∀ {L:List (Nat × Option Nat)},look L k≠none→mem (fstL L) k=true:=by
    intro L
    induction L with
    | nil=>intro h;simp [look] at h
    | cons y L ih =>
      obtain ⟨u,y⟩:=y
      intro h
      simp only [fstL,mem_cons]
      rw [look_cons] at h
      by_cases hu:u=k
      ·simp [hu]
      ·simp [hu] at h ⊢;exact ih h
   exact this h
 have hok:SrcOk (look L) (fun r=>mem m.ks r=true) g gL:=⟨fun i x h=>(hK i).2 ⟨x,h⟩,fun i k h=>by rw [hgL];simp [h],fun i h=>by rw [hgL];simp [h]⟩
 have hheld:∀ i o,look m.rows i=some o→RowH gL (fun r=>mem m.ks r=true) R w i o∧(∀ b,Own gL w i o b→∃ k o',look L i=some (some k)∧look st.rows k=some o'∧Own g w k o' b)∧mem m.ks i=true:=fun i o ho=>by
  have h1:=rowsX_look hs.rows ho
  unfold expRow at h1
  split at h1
  ·rename_i k hk
   have hmk:mem m.ks i=true:=(hK i).2 ⟨_,hk⟩
   split at h1
   ·rename_i o' ho'
    obtain ⟨h2,h3⟩:=expO_rel hok (hok.key i k hk) h1 (hh.held k o' ho')
    exact ⟨h2,fun b hb=>⟨k,o',hk,ho',h3 b hb⟩,hmk⟩
   ·split at h1
    ·exact ⟨trivial,fun b hb=>by simp [Own] at hb,hmk⟩
    ·exact h1.elim
  ·rename_i hk
   have hmk:mem m.ks i=true:=(hK i).2 ⟨_,hk⟩
   split at h1
   ·rename_i t xs
    subst h1
    have e:(gL i).v=.slice none 0 0:=by rw [hok.nil i hk]
    refine ⟨⟨0,[],?_,rfl,by simp⟩,fun b hb=>?_,hmk⟩
    ·rw [e];exact ownsSeq_nil w 0 t.size none
    ·simp [Own,e,blkOf] at hb
   ·exact ⟨trivial,fun b hb=>by simp [Own] at hb,hmk⟩
   ·exact h1.elim
  ·exact h1.elim
 refine ⟨gL,by rw [hrel.size,hs.n],hrel.defers,fun t e he=>?_,fun t e he u x hx=>?_,⟨hh.hsize,hh.os,hh.tape,hh.output,hh.frame,hh.rsub,hh.rlt,hh.rnew,fun r hr hm=>?_,fun r o ho=>(hheld r o ho).2.2,fun r o ho=>(hheld r o ho).1,fun r o b ho hb=>?_,fun r r' o o' b h1 h2 h3 h4=>?_⟩⟩
 ·obtain ⟨hp,e',h1,h2,h3⟩:=slotsX_look hs.slots he
  obtain ⟨h4,_⟩:=hrel.slots t e' h1
  refine ⟨fun _=>?_,fun h=>absurd (fun t x hx=>by rw [hp] at hx;simp at hx) h⟩
  obtain ⟨v,h5,h6⟩:=h4 (fun t x hx=>by rw [h2] at hx;simp at hx)
  exact ⟨v,h5,expV_rel hok h3 h6⟩
 ·obtain ⟨hp,_⟩:=slotsX_look hs.slots he
  rw [hp] at hx;simp at hx
 ·obtain ⟨x,hx⟩:=(hK r).1 hm
  have:=(hks r x hx).2 hr
  subst this
  rw [hok.key r r hx]
  exact hh.gfix r hr ((hks r _ hx).1 r rfl)
 ·obtain ⟨k,o',h1,h2,h3⟩:=(hheld r o ho).2.1 b hb
  exact hh.own k o' b h2 h3
 ·obtain ⟨k,x,h5,h6,h7⟩:=(hheld r o h1).2.1 b h3
  obtain ⟨k',x',h8,h9,h10⟩:=(hheld r' o' h2).2.1 b h4
  have:=hh.sep k k' x x' b h6 h9 h7 h10
  subst this
  exact look_inj hs.nodup h5 h8
theorem subA_sound {st m:St} (hs:SubA st m) {g:Nat→Gh} {R:Nat→Prop} {a:Act} {w:World} (hrel:Rel C g R st a w):∃ g',Rel C g' R m a w:=by
 cases hs with
 | same h=>exact ⟨g,sub_sound h hrel⟩
 | ren L h=>exact subX_sound h hrel
theorem stepR_scope {b:Frame} {a:Act} {k:List Item} {cs:List Frame} {w:World} {c:Code}:step P (lone (b.atR a (.code (.scope c)::k)) cs w)=.next (lone (b.atR a (.code c::.inScope c::k)) cs w) :=
 step_lone_go (by simp [stepG,stepG.exec,Frame.atR])
theorem stepR_inScope {b:Frame} {a:Act} {k:List Item} {cs:List Frame} {w:World} {c:Code}:step P (lone (b.atR a (.inScope c::k)) cs w)=.next (lone (b.atR a k) cs w) :=
 step_lone_go (by simp [stepG,stepG.exec,Frame.atR])
theorem wpIn_scope_straight {F:Fence} {n:Nat} {c:Code} {Q:Exit→Act→World→Prop} {a:Act} {w:World} (h:c.wpIn F n P (Exit.noGoto Q) a w):(Code.scope c).wpIn F n P Q a w:=by
 intro b k cs hro hb hr
 have h0:(lone (b.atR a (.code (.scope c)::k)) cs w).fenced P F:=fenced_calm hb hr rfl
 obtain ⟨e,a₁,w₁,hq,harr⟩:=h b (.inScope c::k) cs hro hb hr
 cases e with
 | normal=>exact ⟨.normal,a₁,w₁,hq,.head h0 stepR_scope (StepsIn.trans harr (.one (fenced_calm hb hr rfl) stepR_inScope))⟩
 | exit id =>
   exact ⟨.exit id,a₁,w₁,hq,fun k' hk=>.head h0 stepR_scope (harr.1 k' (by simp [exitTo,hk])),fun hr' hk=>let ⟨k₁,h1,h2⟩:=harr.2 hr' (by simp [exitTo,hk]);⟨k₁,h1,.head h0 stepR_scope h2⟩⟩
 | goto l=>exact hq.elim
 | ret=>exact ⟨_,a₁,w₁,hq,.of_steps (.one h0 stepR_scope) harr⟩
 | panic ch=>exact ⟨_,a₁,w₁,hq,.of_steps (.one h0 stepR_scope) harr⟩
 | outgrown=>exact ⟨_,a₁,w₁,hq,.of_steps (.one h0 stepR_scope) harr⟩
theorem wp_loop_ghost {F:Fence} {n:Nat} {c:Code} {Q:Exit→Act→World→Prop} {σ:Type} (J:σ→Act→World→Prop) (μ:σ→Nat) {a:Act} {w:World} (s₀:σ) (h₀:J s₀ a w)
 (round:∀ s a w,J s a w→c.wpIn F n P (Exit.then (fun a' w'=>∃ s',J s' a' w'∧μ s' < μ s) Q) a w):(Code.loop c).wpIn F n P Q a w:=by
 intro b k cs hro hb hr
 have go:∀ j s a w,μ s=j→J s a w→∃ e a' w',Q e a' w'∧ArrivesIn (Machine.fenced P F) P (lone (b.atR a (.code c::.inLoop c::k)) cs w) b k cs e a' w':=by
  intro j
  induction j using Nat.strongRecOn with
  | _ j ih =>
    intro s a w hn hJ
    obtain ⟨e,a1,w1,hq,harr⟩:=round s a w hJ b (.inLoop c::k) cs hro hb hr
    cases e with
    | normal =>
      obtain ⟨s',h1,h2⟩:=hq
      obtain ⟨e2,a2,w2,hq2,harr2⟩:=ih (μ s') (hn ▸ h2) s' a1 w1 rfl h1
      exact ⟨e2,a2,w2,hq2,.of_steps (StepsIn.trans harr (.one (fenced_calm hb hr rfl) stepR_inLoop)) harr2⟩
    | _=>exact ⟨_,a1,w1,hq,.pass (x:=.inLoop c) rfl (fun _ _=>.inl (by simp)) harr⟩
 obtain ⟨e,a',w',hq,harr⟩:=go _ s₀ a w rfl h₀
 exact ⟨e,a',w',hq,.of_steps (.one (fenced_calm hb hr rfl) stepR_loop) harr⟩
def toExit:AExit→Exit
 | .normal=>.normal
 | .exit id=>.exit id
 | .ret=>.ret
theorem revT_eq:∀ {a b:List Tr},revT a b=a.reverse++b
 | [],_=>rfl
 | x::a,b=>by simp [revT,revT_eq]
theorem Lex_len {ops:List Oper}:∀ {l:List Oper} {st s:St} {cs:List Prop} {ts:List Tr},Lex tt S ops l st cs s ts→ts.length=l.length
 | _,_,_,_,_,.nil=>rfl
 | _,_,_,_,_,.cons _ h=>by simp [Lex_len h]
theorem rel_drew {g:Nat→Gh} {R:Nat→Prop} {st:St} {a:Act} {w:World} (h:Rel C g R st a w):Rel C g R st a { w with drawn:=w.drawn+1 }:=by
 have hc:∀ ad:Addr,R ad.block→({ w with drawn:=w.drawn+1 }:World).cell? ad=w.cell? ad:=fun ad _=>cell_of_heap rfl
 have hh:=h.heap
 have:=h.gen (g':=g) (R':=R) (w':={ w with drawn:=w.drawn+1 }) (ks':=st.ks) (rows':=st.rows) (fun _ _=>rfl) (fun _ h=>h) (fun _ h=>h)
  ⟨⟨hh.hsize,hh.os,hh.tape,hh.output,hh.frame,hh.rsub,hh.rlt,hh.rnew,hh.gfix,hh.keys,fun r o ho=>RowH_mono (w:=w) (fun _ _=>rfl) rfl (fun _ h=>h) (fun _ h=>h) (fun _ _=>rfl) (fun _ _=>rfl) ⟨rfl,rfl,rfl,Nat.le_refl _⟩ (hh.held r o ho),hh.own,hh.sep⟩,hc⟩
 exact this
theorem wpAny_of_anyE {ro:Option Nat} (hT:TTok P tt) (hS:SigOk P S) {ops:List Oper} (hok:∀ o∈ops,operOk o∧notDefer o.op=true) {tr:Nat→Tr} {G:St→Prop} {Q:Exit→Act→World→Prop} (hG:∀ s g R a w,G s→Rel C g R s a w→Q .normal a w) :
 ∀ {n:Nat} {listed:Array Bool} {s:St},anyE tt S ops tr G n listed s→∀ {g:Nat→Gh} {R:Nat→Prop} {a:Act} {w:World},Rel C g R s a w→wpAnyIn (FR ro) 0 P .any ops.toArray Q n listed a w
 | 0,_,_,h,_,_,_,_,hrel=>⟨h.1,hG _ _ _ _ _ h.2 hrel⟩
 | n+1,listed,s,h,g,R,a,w,hrel=>⟨fun h0=>hG _ _ _ _ _ (h.1 h0) hrel,fun i hi=>by
  obtain ⟨o,cs,dl,p,cs0,av,h1,h2,h3,h4⟩:=h.2 i hi
  have:=stepS_sound (C:=C) (Q:=Q) (ro:=ro) (next:=wpAnyIn (FR ro) 0 P .any ops.toArray Q n (listed.setIfInBounds i true)) hT hS (stepS_of h2) (hok o (List.mem_of_getElem? h1)).1 (hok o (List.mem_of_getElem? h1)).2 hrel h3 (fun g' R' a' w' hr=>wpAny_of_anyE hT hS hok hG h4 hr)
  unfold wpOpIn
  simp only [List.getElem?_toArray,h1]
  split at this
  ·rename_i hw;rw [if_pos hw];exact this
  ·rename_i hw;rw [if_neg hw];exact ⟨fun _ _=>trivial,this⟩⟩
theorem region_draw_sound {ro:Option Nat} (hT:TTok P tt) (hS:SigOk P S) (hm:P.follows .mixedOrders=true) {id:Nat} {ops:Array Oper} (hok:∀ o∈ops.toList,operOk o∧notDefer o.op=true) {Q:Exit→Act→World→Prop} {st s:St} {cs:List Prop} {ts:List Tr}
 (hr:Lex tt S ops.toList ops.toList st cs s ts) (hd:drawOk tt true ops.toList (ts.reverse++[])=true) (hcs:∀ p∈cs,p) {g:Nat→Gh} {R:Nat→Prop} {a:Act} {w:World} (hrel:Rel C g R st a w)
 (hq:∀ g' R' a' w',Rel C g' R' s a' w'→Q .normal a' w'):(Code.region id ops true).wpIn (FR ro) 0 P Q a w:=by
 unfold drawOk at hd
 dsimp only at hd
 split at hd <;> try (cases hd;done)
 rename_i hs1 hrd
 have hlen:=Lex_len hr
 have he:revT (ts.reverse++[]) []=ts:=by rw [revT_eq];simp
 rw [he] at hd
 refine wpIn_region_any hm ?_
 have hfin:∀ s' t',Same s' t'→(∀ g R a w,Rel C g R s' a w→Q .normal a w)→∀ g R a w,Rel C g R t' a w→Q .normal a w:=fun s' t' hst h g R a w hr=>h g R a w (Rel_same hst.symm hr)
 have hany:=anyE_lex (tt:=tt) (S:=S) (ops:=ops.toList) (tr:=fun j=>ts.getD j ⟨[],[]⟩) (G:=fun s'=>∀ g R a w,Rel C g R s' a w→Q .normal a w) (k:=0) (listed:=Array.replicate ops.size false) hfin (by simp) hlen
  (fun j t ht=>by simp [ht]) hrd hd (by simp) (fun j=>?_) (fun t e h u x hx=>hrel.gts t e h u x hx) hr hcs (fun g R a w h=>hq g R a w h)
 ·have:=wpAny_of_anyE (ro:=ro) (Q:=Q) hT hS hok (fun s' g R a w h hr=>h g R a w hr) hany (rel_drew hrel)
  simpa using this
 ·by_cases hj:j < ops.size
  ·simp [hj]
  ·simp [hj];omega
theorem wp_sound {ro:Option Nat} (hT:TTok P tt) (hS:SigOk P S) (hm:P.follows .mixedOrders=true):∀ {c:Code},codeOk c=true→∀ {st:St} {Z:AExit→St→Prop},wp tt S c st Z→∀ {g:Nat→Gh} {R:Nat→Prop} {a:Act} {w:World} {Q:Exit→Act→World→Prop},Rel C g R st a w →
 (∀ e s g' R' a' w',Z e s→Rel C g' R' s a' w'→Q (toExit e) a' w')→c.wpIn (FR ro) 0 P Q a w
 | .skip,_,st,Z,h,g,R,a,w,Q,hrel,hq=>wpIn_skip (hq .normal _ _ _ _ _ h hrel)
 | .label l,_,st,Z,h,g,R,a,w,Q,hrel,hq=>wpIn_label (hq .normal _ _ _ _ _ h hrel)
 | .exit id,_,st,Z,h,g,R,a,w,Q,hrel,hq=>wpIn_exit (hq (.exit id) _ _ _ _ _ h hrel)
 | .ret,_,st,Z,h,g,R,a,w,Q,hrel,hq=>wpIn_ret (hq .ret _ _ _ _ _ h hrel)
 | .region id ops draw,hc,st,Z,h,g,R,a,w,Q,hrel,hq=>by
   simp only [wp] at h
   split at h
   ·rename_i p hp
    obtain ⟨cs,s,ts,hr,hk⟩:=runO_spec hp
    split at hk
    ·rename_i hd
     cases hk
     obtain ⟨hcs,hz⟩:=allP_spec h
     simp only [List.nil_append] at hcs
     have hok:∀ o∈ops.toList,operOk o∧notDefer o.op=true:=fun o ho=>by
      simp only [codeOk] at hc
      have h1:=List.all_eq_true.1 hc o ho
      rw [Bool.and_eq_true] at h1
      exact ⟨fun x hx=>operandB_spec (List.all_eq_true.1 h1.2 x hx),h1.1⟩
     have hend:∀ g' R' a' w',Rel C g' R' s a' w'→Q .normal a' w':=fun g' R' a' w' hr'=>by
      obtain ⟨s',h1,h2⟩:=done_sound hz hr'
      exact hq .normal s' g' R' a' w' h1 h2
     cases draw
     ·refine wpIn_region ?_
      have:=runs_sound (ro:=ro) (Q:=Q) hT hS hok 0 hr rfl hcs hrel hend
      simpa [List.range_eq_range'] using this
     ·exact region_draw_sound hT hS hm hok hr hd hcs hrel hend
    ·cases hk
   ·exact h.elim
 | .seq x y,hc,st,Z,h,g,R,a,w,Q,hrel,hq=>by
   simp only [codeOk,Bool.and_eq_true] at hc
   simp only [wp] at h
   refine wpIn_seq (wp_sound hT hS hm hc.1 h hrel ?_)
   intro e s g' R' a' w' hz hr
   cases e with
   | normal=>exact wp_sound hT hS hm hc.2 hz hr hq
   | exit id=>exact hq (.exit id) s g' R' a' w' hz hr
   | ret=>exact hq .ret s g' R' a' w' hz hr
 | .cond c x y,hc,st,Z,h,g,R,a,w,Q,hrel,hq=>by
   simp only [codeOk,Bool.and_eq_true] at hc
   simp only [wp] at h
   split at h
   ·rename_i t hp ht
    have hv:=get_rel hrel (operandB_spec hc.1.1) (by rw [hp];exact fun t x h=>by simp at h)
    rw [ht] at hv
    generalize hec:a.eval c=vc at hv
    cases hv
    obtain ⟨h1,h2⟩:=h
    exact wpIn_cond_split hec (fun e=>wp_sound hT hS hm hc.1.2 (h1 e) hrel hq) (fun e=>wp_sound hT hS hm hc.2 (h2 e) hrel hq)
   ·exact h.elim
 | .block id c,hc,st,Z,h,g,R,a,w,Q,hrel,hq=>by
   simp only [codeOk] at hc
   simp only [wp] at h
   refine wpIn_block (wp_sound hT hS hm hc h hrel ?_)
   intro e s g' R' a' w' hz hr
   cases e with
   | normal=>exact hq .normal s g' R' a' w' hz hr
   | ret=>exact hq .ret s g' R' a' w' hz hr
   | exit i =>
     dsimp only at hz
     show Exit.inBlock id Q (.exit i) a' w'
     simp only [Exit.inBlock]
     split at hz
     ·rename_i hi
      rw [if_pos (beq_eq hi)]
      exact hq .normal s g' R' a' w' hz hr
     ·rename_i hi
      rw [if_neg (beq_ne hi)]
      exact hq (.exit i) s g' R' a' w' hz hr
 | .loop c,hc,st,Z,h,g,R,a,w,Q,hrel,hq=>by
   simp only [codeOk] at hc
   simp only [wp,LoopVC] at h
   obtain ⟨σ,mk,I,μ,s₀,h1,h2,h3⟩:=h
   refine wp_loop_ghost (fun s a w=>I s∧∃ g R,Rel C g R (mk s) a w) μ s₀ ⟨h1,(subA_sound h2 hrel).imp fun g' h=>⟨R,h⟩⟩ ?_
   rintro s a w ⟨hI,g,R,hrel⟩
   refine wp_sound hT hS hm hc (h3 s hI) hrel ?_
   intro e st' g' R' a' w' hz hr
   cases e with
   | normal =>
     obtain ⟨s',h4,h5,h6⟩:=hz
     exact ⟨s',⟨h4,(subA_sound h6 hr).imp fun g' h=>⟨R',h⟩⟩,h5⟩
   | exit id=>exact hq (.exit id) st' g' R' a' w' hz hr
   | ret=>exact hq .ret st' g' R' a' w' hz hr
 | .scope c,hc,st,Z,h,g,R,a,w,Q,hrel,hq=>by
   simp only [codeOk] at hc
   simp only [wp] at h
   refine wpIn_scope_straight (wp_sound hT hS hm hc h hrel ?_)
   intro e s g' R' a' w' hz hr
   cases e with
   | normal=>exact hq .normal s g' R' a' w' hz hr
   | exit id=>exact hq (.exit id) s g' R' a' w' hz hr
   | ret=>exact hq .ret s g' R' a' w' hz hr
 | .goto l,_,st,Z,h,_,_,_,_,_,_,_=>by simp [wp] at h
 | .rangeFunc f p x y,_,st,Z,h,_,_,_,_,_,_,_=>by simp [wp] at h
 | .refuse s,_,st,Z,h,_,_,_,_,_,_,_=>by simp [wp] at h
end
section
variable {P:Program} {tt:TT} {S:Nat→Option Spec}
theorem look_slotsOf:∀ {l:List AV} {i t:Nat} {e:Ent},look (slotsOf i l) t=some e→∃ j c,t=i+j∧l[j]?=some c∧e=⟨[],c⟩
 | [],_,_,_,h=>by simp [slotsOf,look] at h
 | c::l,i,t,e,h=>by
   simp only [slotsOf,look_cons] at h
   by_cases hi:i=t
   ·simp [hi] at h;exact ⟨0,c,by omega,by simp,h.symm⟩
   ·simp [hi] at h
    obtain ⟨j,c',h1,h2,h3⟩:=look_slotsOf h
    exact ⟨j+1,c',by omega,by simpa using h2,h3⟩
theorem look_rowsOf:∀ {l:List AObj} {i t:Nat} {o:AObj},look (rowsOf i l) t=some o→∃ j,t=i+j∧l[j]?=some o
 | [],_,_,_,h=>by simp [rowsOf,look] at h
 | c::l,i,t,o,h=>by
   simp only [rowsOf,look_cons] at h
   by_cases hi:i=t
   ·simp [hi] at h;exact ⟨0,by omega,by simpa using h⟩
   ·simp [hi] at h
    obtain ⟨j,h1,h2⟩:=look_rowsOf h
    exact ⟨j+1,by omega,by simpa using h2⟩
theorem mem_upTo:∀ {n i k:Nat},mem (upTo n i) k=true↔i≤k∧k < i+n
 | 0,i,k=>by simp [upTo,mem]
 | n+1,i,k=>by
   simp only [upTo,mem_cons,Bool.or_eq_true,decide_eq_true_eq]
   rw [mem_upTo];omega
theorem mapRen_length {f:Nat→Nat}:∀ {l:List AObj},(mapRen f l).length=l.length
 | []=>rfl
 | _::l=>by simp [mapRen,mapRen_length]
theorem renL_get {f:Nat→Nat}:∀ {l:List AV} {i:Nat},(renL f l)[i]?=(l[i]?).map (AV.ren f)
 | [],_=>by simp [renL]
 | _::r,0=>by simp [renL]
 | _::r,i+1=>by simp [renL,renL_get]
theorem init_rel {n:Nat} {args:List AV} {rows:List AObj} {vals:List Value} {w0:World} {g0:Nat→Gh} {R0:Nat→Prop} (hn:args.length≤n) (hR:∀ b,R0 b→b < w0.heap.size)
 (hrow:∀ i o,rows[i]?=some o→RowH g0 (locK rows) R0 w0 i o) (hown:∀ i o b,rows[i]?=some o→Own g0 w0 i o b→¬ R0 b)
 (hsep:∀ i j o o' b,rows[i]?=some o→rows[j]?=some o'→Own g0 w0 i o b→Own g0 w0 j o' b→i=j) (hargs:RelL g0 (locK rows) R0 w0 args vals) :
 Rel ⟨w0,pasOf g0 w0 rows,R0,fun r=>g0 (r - 100000),[]⟩ (fun r=>g0 (r - 100000)) R0 (St.init n args rows) ⟨vals.toArray++Array.replicate (n - vals.toArray.size) undef,[]⟩ w0:=by
 have hl:=RelL_len hargs
 have hren:∀ r,locK rows r→mem (upTo (lenL rows) 100000) (100000+r)=true∧(fun r=>g0 (r - 100000)) (100000+r)=g0 r:=fun r hr=>⟨by rw [mem_upTo,lenL_spec];unfold locK at hr;omega,by simp⟩
 have hrows:∀ r o,look (rowsOf 100000 (mapRen (100000+·) rows)) r=some o→∃ j x,r=100000+j∧rows[j]?=some x∧o=x.ren (100000+·):=fun r o h=>by
  obtain ⟨j,h1,h2⟩:=look_rowsOf h
  rw [mapRen_get] at h2
  cases hx:rows[j]? with
  | none=>rw [hx] at h2;cases h2
  | some x=>rw [hx] at h2;simp at h2;exact ⟨j,x,h1,hx,h2.symm⟩
 refine ⟨by simp [St.init];omega,rfl,fun t e he=>?_,fun t e he u x hx=>?_,⟨Nat.le_refl _,rfl,rfl,rfl,fun _ _ _=>rfl,fun _ h=>h,hR,fun _ h _=>.inl h,fun _ _ _=>rfl,fun r o h=>?_,fun r o h=>?_,fun r o b h hb=>?_,fun r r' o o' b h1 h2 h3 h4=>?_⟩⟩
 ·obtain ⟨j,c,h1,h2,rfl⟩:=look_slotsOf he
  simp only [Nat.zero_add] at h1
  subst h1
  rw [renL_get] at h2
  cases hc:args[t]? with
  | none=>rw [hc] at h2;cases h2
  | some c0 =>
    rw [hc] at h2
    simp at h2
    subst h2
    obtain ⟨v,hv,hr⟩:=RelL_get hargs hc
    have hlt:t < vals.length:=(List.getElem?_eq_some_iff.1 hv).1
    refine ⟨fun _=>⟨v,?_,RelV_ren hren hr⟩,fun h=>absurd (fun t x h=>by simp at h) h⟩
    rw [Array.getElem?_append_left (by simpa using hlt)]
    simpa using hv
 ·obtain ⟨j,c,_,_,rfl⟩:=look_slotsOf he
  simp at hx
 ·obtain ⟨j,x,rfl,hx,_⟩:=hrows r o h
  have:=(List.getElem?_eq_some_iff.1 hx).1
  show mem (upTo (lenL rows) 100000) (100000+j)=true
  rw [mem_upTo,lenL_spec];omega
 ·obtain ⟨j,x,rfl,hx,rfl⟩:=hrows r o h
  exact RowH_ren hren (by simp) (hrow j x hx)
 ·obtain ⟨j,x,rfl,hx,rfl⟩:=hrows r o h
  rw [Own_ren (g:=g0) (r:=j) (by simp)] at hb
  exact ⟨hown j x b hx hb,.inr ⟨j,x,hx,hb⟩⟩
 ·obtain ⟨j,x,rfl,hx,rfl⟩:=hrows r o h1
  obtain ⟨j',x',rfl,hx',rfl⟩:=hrows r' o' h2
  rw [Own_ren (g:=g0) (r:=j) (by simp)] at h3
  rw [Own_ren (g:=g0) (r:=j') (by simp)] at h4
  rw [hsep j j' x x' b hx hx' h3 h4]
section
variable {C:Ctx} {g:Nat→Gh} {R:Nat→Prop} {st:St} {a:Act} {w:World}
theorem res_sound (hT:TTok P tt) (hrel:Rel C g R st a w) {x:ResultVar} {v:AV} (h:resOf tt st x=some v) :
 ∃ u,(match x with|.tmp t=>pure (a.tmps.getD t undef)|.cell t ty=>(do loadVar ty (← asAddr (a.tmps.getD t undef))):Sem Value).run P w=.ok u w∧RelV g (fun r=>mem st.ks r=true) R w v u:=by
 have hnil:PathC a []:=fun t x h=>by simp at h
 unfold resOf at h
 split at h
 ·rename_i t
  split at h <;> try (cases h;done)
  rename_i v' hl
  cases h
  obtain ⟨u,h1,h2⟩:=(hrel.slots t _ hl).1 hnil
  exact ⟨u,by simp [getD_of h1],h2⟩
 ·rename_i t ty
  split at h <;> try (cases h;done)
  rename_i r ti hl hti
  split at h <;> try (cases h;done)
  rename_i cs hrow
  split at h <;> try (cases h;done)
  rename_i c v' up nw rd hload
  cases h
  obtain ⟨u,h1,h2⟩:=(hrel.slots t _ hl).1 hnil
  cases h2 with
  | ptr hk =>
    obtain ⟨vs,e,hh,hr,_⟩:=hrel.heap.held _ _ hrow
    obtain ⟨_,_,v2,h3,h4⟩:=loadC_sound (P:=P) (g:=g) (K:=fun r=>mem st.ks r=true) hT hti (ad:=⟨(g r).b,0,none⟩) hload hr (cell_box hh)
    refine ⟨v2,?_,h4⟩
    rw [add_none rfl] at h3
    simp only [getD_of h1]
    simpa [Instr.loadAt,Instr.sureAddr,asAddr] using h3
theorem resL_sound (hT:TTok P tt) (hrel:Rel C g R st a w):∀ {l:List ResultVar} {vs:List AV},resL tt st l=some vs →
 ∃ us,(l.mapM fun x=>(match x with|.tmp t=>pure (a.tmps.getD t undef)|.cell t ty=>(do loadVar ty (← asAddr (a.tmps.getD t undef))):Sem Value)).run P w=.ok us w∧RelL g (fun r=>mem st.ks r=true) R w vs us
 | [],vs,h=>by cases h;exact ⟨[],by simp,.nil⟩
 | x::l,vs,h=>by
   simp only [resL] at h
   split at h <;> try (cases h;done)
   rename_i v vs' h1 h2
   cases h
   obtain ⟨u,h3,h4⟩:=res_sound hT hrel h1
   obtain ⟨us,h5,h6⟩:=resL_sound hT hrel h2
   refine ⟨u::us,?_,.cons h4 h6⟩
   rw [List.mapM_cons]
   simp only [Sem.run_bind]
   rw [h3,Result.andThen_ok,h5,Result.andThen_ok]
   rfl
theorem results_sound (hT:TTok P tt) (hrel:Rel C g R st a w) {fn:Func} {vs:List AV} (h:resL tt st fn.results.toList=some vs) :
 ∃ u,(results fn a.tmps).run P w=.ok u w∧RelV g (fun r=>mem st.ks r=true) R w (tupOf vs) u:=by
 obtain ⟨us,h1,h2⟩:=resL_sound hT hrel h
 have hm:(fn.results.mapM fun x=>(match x with|.tmp t=>pure (a.tmps.getD t undef)|.cell t ty=>(do loadVar ty (← asAddr (a.tmps.getD t undef))):Sem Value)).run P w=.ok us.toArray w:=by
  rw [Array.mapM_eq_mapM_toList]
  simp only [Sem.run_map,h1,Result.andThen_ok]
 have hrun:(results fn a.tmps).run P w=.ok (if h:us.toArray.size=1 then us.toArray[0] else .tuple us.toArray) w:=by
  have e:results fn a.tmps=((fn.results.mapM fun x=>(match x with|.tmp t=>pure (a.tmps.getD t undef)|.cell t ty=>(do loadVar ty (← asAddr (a.tmps.getD t undef))):Sem Value)) >>= fun vs=>pure (if h:vs.size=1 then vs[0] else .tuple vs)):=by
   unfold results
   congr 1
  rw [e,Sem.run_bind,hm]
  rfl
 refine ⟨_,hrun,?_⟩
 have hlen:=RelL_len h2
 cases h2 with
 | nil=>simpa [tupOf] using RelV.tup (RelL.nil (g:=g) (K:=fun r=>mem st.ks r=true) (R:=R) (w:=w))
 | cons h3 h4 =>
   cases h4 with
   | nil=>simpa [tupOf] using h3
   | cons h5 h6 =>
     rw [dif_neg (by simp)]
     exact .tup (.cons h3 (.cons h5 h6))
end
end
end Go.AM
end

section
namespace Go.AM
section
variable {C:Ctx} {g:Nat→Gh} {R R':Nat→Prop} {K:Nat→Prop} {row:Nat→Option AObj} {w w':World}
theorem HeapR.move (h:HeapR C g R K row w) (hw:SameW w w') (hR:∀ b,R b→w'.heap[b]?=w.heap[b]?) (hO:∀ r o b,row r=some o→Own g w r o b→w'.heap[b]?=w.heap[b]?)
 (hF:∀ b,b < C.w0.heap.size→¬ C.pas b→w'.heap[b]?=w.heap[b]?):HeapR C g R K row w':=by
 have hown:∀ r o b,row r=some o→(Own g w' r o b↔Own g w r o b):=fun r o b ho=>Own_mono rfl (fun b hb=>hO r o b ho hb) b
 refine ⟨Nat.le_trans h.hsize hw.2.2.2,hw.1.trans h.os,hw.2.1.trans h.tape,hw.2.2.1.trans h.output,fun b h1 h2=>(hF b h1 h2).trans (h.frame b h1 h2),h.rsub,fun b hb=>Nat.lt_of_lt_of_le (h.rlt b hb) hw.2.2.2,h.rnew,h.gfix,h.keys,fun r o ho=>?_,fun r o b ho hb=>?_,fun r r' o o' b h1 h2 h3 h4=>?_⟩
 ·exact RowH_mono (fun _ _=>rfl) rfl (fun _ h=>h) (fun _ h=>h) hR (fun b hb=>hO r o b ho hb) hw (h.held r o ho)
 ·exact h.own r o b ho ((hown r o b ho).1 hb)
 ·exact h.sep r r' o o' b h1 h2 ((hown r o b h1).1 h3) ((hown r' o' b h2).1 h4)
theorem sameW_put (w:World) (l:Nat) (o:Obj):SameW w (w.putObj l o):=⟨rfl,rfl,rfl,by rw [World.putObj_size];exact Nat.le_refl _⟩
theorem HeapR.putFree (h:HeapR C g R K row w) {l:Nat} {ob:Obj} (hR:¬ R l) (hO:∀ r o,row r=some o→¬ Own g w r o l) (hC:l < C.w0.heap.size→C.pas l):HeapR C g R K row (w.putObj l ob):=by
 refine h.move (sameW_put w l ob) (fun b hb=>World.putObj_heap_other fun e=>hR (e ▸ hb)) (fun r o b ho hb=>World.putObj_heap_other fun e=>hO r o ho (e ▸ hb)) (fun b h1 h2=>World.putObj_heap_other fun e=>?_)
 subst e
 exact h2 (hC h1)
theorem HeapR.weakenR (h:HeapR C g R K row w) (hR:∀ b,R b→R' b) (hlt:∀ b,R' b→b < w.heap.size) (hnew:∀ b,R' b→b < C.w0.heap.size→C.R0 b∨C.pas b) (hO:∀ r o b,row r=some o→Own g w r o b→¬ R' b):HeapR C g R' K row w :=
 ⟨h.hsize,h.os,h.tape,h.output,h.frame,fun b hb=>hR b (h.rsub b hb),hlt,hnew,h.gfix,h.keys,fun r o ho=>RowH_weaken (fun _ h=>h) hR (h.held r o ho),fun r o b ho hb=>⟨hO r o b ho hb,(h.own r o b ho hb).2⟩,h.sep⟩
theorem HeapR.root (h:HeapR C g R K row w) {C':Ctx} (hw:C'.w0=w) (hR:C'.R0=R) (hp:∀ r o b,row r=some o→Own g w r o b→C'.pas b) (hg:∀ r,100000≤r→K r→g r=C'.g0 r):HeapR C' g R K row w:=by
 subst hw
 subst hR
 exact ⟨Nat.le_refl _,rfl,rfl,rfl,fun _ _ _=>rfl,fun _ h=>h,h.rlt,fun b hb _=>.inl hb,hg,h.keys,h.held,fun r o b ho hb=>⟨(h.own r o b ho hb).1,.inr (hp r o b ho hb)⟩,h.sep⟩
theorem HeapR.unroot (h:HeapR C g R K row w) {C':Ctx} {g':Nat→Gh} {K':Nat→Prop} {row':Nat→Option AObj} (h':HeapR C' g' R' K' row' w') (hw:C'.w0=w) (hR:C'.R0=R) (hp:∀ b,C'.pas b→C.w0.heap.size≤b∨C.pas b)
 (hg:∀ r,100000≤r→K' r→g' r=C.g0 r):HeapR C g' R' K' row' w':=by
 subst hw
 subst hR
 refine ⟨Nat.le_trans h.hsize h'.hsize,h'.os.trans h.os,h'.tape.trans h.tape,h'.output.trans h.output,fun b h1 h2=>?_,fun b hb=>h'.rsub b (h.rsub b hb),h'.rlt,fun b hb hlt=>?_,hg,h'.keys,h'.held,fun r o b ho hb=>⟨(h'.own r o b ho hb).1,?_⟩,h'.sep⟩
 ·refine (h'.frame b (Nat.lt_of_lt_of_le h1 h.hsize) fun hp'=>?_).trans (h.frame b h1 h2)
  rcases hp b hp' with h3|h3
  ·omega
  ·exact h2 h3
 ·rcases h'.rnew b hb (Nat.lt_of_lt_of_le hlt h.hsize) with h3|h3
  ·exact h.rnew b h3 hlt
  ·exact .inr ((hp b h3).resolve_left (by omega))
 ·rcases (h'.own r o b ho hb).2 with h3|h3
  ·exact .inl (Nat.le_trans h.hsize h3)
  ·exact hp b h3
theorem HeapR.notOwn (h:HeapR C g R K row w) {l:Nat} (h1:l < C.w0.heap.size) (h2:¬ C.pas l):∀ r o,row r=some o→¬ Own g w r o l:=fun r o ho hb=>by
 rcases (h.own r o l ho hb).2 with h3|h3
 ·omega
 ·exact h2 h3
theorem HeapR.notR (h:HeapR C g R K row w) {l:Nat} (h1:l < C.w0.heap.size) (h2:¬ C.pas l) (h3:¬ C.R0 l):¬ R l:=fun hb=>(h.rnew l hb h1).elim h3 h2
theorem HeapR.stable (h:HeapR C g R K row w) {K1:Nat→Prop} {av:AV} {v:Value} (hv:RelV C.g0 K1 C.R0 C.w0 av v) (hin:AV.within (fun k=>Nat.ble 100000 k) av=true) (hK:∀ r,K1 r→K r) (hRp:∀ b,C.R0 b→b < C.w0.heap.size∧¬ C.pas b):RelV g K R w av v:=by
 refine RelV_mono (fun r hr=>?_) (fun r hr=>hK r hr.2) (fun b hb=>h.rsub b hb) (fun ad had=>cell_of_heap (h.frame _ (hRp _ had).1 (hRp _ had).2)) (RelV_within hin hv)
 exact h.gfix r (Nat.le_of_ble_eq_true hr.1) (hK r hr.2)
end
def markD (D:Nat):Deferred:={ target:=.collected D,args:=#[] }
structure MarkIn (C:Ctx) (D:Nat):Prop where
 lt:D < C.w0.heap.size
 pas:¬ C.pas D
 rd:¬ C.R0 D
 cell:C.w0.heap[D]?=some (.deferred (some []))
structure Later (C C':Ctx):Prop where
 heap:∀ {g:Nat→Gh} {R:Nat→Prop} {K:Nat→Prop} {row:Nat→Option AObj} {w:World},HeapR C' g R K row w→HeapR C g R K row w
 marks:∃ Ds:List Nat,C'.marks=Ds.map markD++C.marks∧Ds.Nodup∧∀ D∈Ds,MarkIn C' D∧C.w0.heap.size≤D
 keep:∀ D,MarkIn C D→MarkIn C' D
 size:C.w0.heap.size≤C'.w0.heap.size
theorem Later.refl (C:Ctx):Later C C:=⟨fun h=>h,⟨[],rfl,by simp,by simp⟩,fun _ h=>h,Nat.le_refl _⟩
theorem Later.trans {A B C:Ctx} (h:Later A B) (k:Later B C):Later A C:=by
 obtain ⟨m1,e1,n1,h1⟩:=h.marks
 obtain ⟨m2,e2,n2,h2⟩:=k.marks
 refine ⟨fun x=>h.heap (k.heap x),⟨m2++m1,by rw [e2,e1,List.map_append,List.append_assoc],?_,fun D hd=>?_⟩,fun D hd=>k.keep D (h.keep D hd),Nat.le_trans h.size k.size⟩
 ·rw [List.nodup_append]
  refine ⟨n2,n1,fun a ha b hb e=>?_⟩
  subst e
  have:=(h2 a ha).2
  have:=(h1 a hb).1.lt
  omega
 ·rcases List.mem_append.1 hd with hd|hd
  ·exact ⟨(h2 D hd).1,Nat.le_trans h.size (h2 D hd).2⟩
  ·exact ⟨k.keep D (h1 D hd).1,(h1 D hd).2⟩
theorem Rel.putFree {C:Ctx} {g:Nat→Gh} {R:Nat→Prop} {st:St} {a:Act} {w:World} (h:Rel C g R st a w) {l:Nat} {ob:Obj} (hR:¬ R l) (hO:∀ r o,look st.rows r=some o→¬ Own g w r o l) (hC:l < C.w0.heap.size→C.pas l):Rel C g R st a (w.putObj l ob) :=
 ⟨h.size,h.defers,fun t e he=>by
  obtain ⟨h1,h2⟩:=h.slots t e he
  exact ⟨fun hp=>by
   obtain ⟨v,h3,h4⟩:=h1 hp
   exact ⟨v,h3,RelV_mono (fun _ _=>rfl) (fun _ h=>h) (fun _ h=>h) (fun ad had=>cell_of_heap (World.putObj_heap_other fun (e:ad.block=l)=>hR (by rw [← e];exact had))) h4⟩,h2⟩,h.gts,h.heap.putFree hR hO hC⟩
theorem close_marks {P:Program} {F:Fence} {n:Nat} {C C':Ctx} {g:Nat→Gh} {R:Nat→Prop} {st:St} {a:Act} {w:World} (hrel:Rel C' g R st a w) (hl:Later C C') (hm:C.marks=[]) :
 ∃ w',Rel C g R st ⟨a.tmps,[]⟩ w'∧∀ (fn:Func) (Q:Ending→World→Prop),LeavesInM F n P fn a.tmps Q [] .returning w'→LeavesInM F n P fn a.tmps Q a.defers .returning w:=by
 obtain ⟨Ds,h1,h2,h3⟩:=hl.marks
 rw [hm,List.append_nil] at h1
 have h0:Rel C g R st ⟨a.tmps,[]⟩ w:=⟨hrel.size,hm.symm,hrel.slots,hrel.gts,hl.heap hrel.heap⟩
 have hD:∀ D∈Ds,w.heap[D]?=some (.deferred (some []))∧¬ R D∧(∀ r o,look st.rows r=some o→¬ Own g w r o D)∧C.w0.heap.size≤D:=fun D hd=>by
  obtain ⟨m,h5⟩:=h3 D hd
  exact ⟨(hrel.heap.frame D m.lt m.pas).trans m.cell,hrel.heap.notR m.lt m.pas m.rd,hrel.heap.notOwn m.lt m.pas,h5⟩
 have e:a.defers=Ds.map markD:=hrel.defers.trans h1
 rw [e]
 clear h1 h3 e hrel
 revert h0 hD
 induction Ds generalizing w with
 | nil=>exact fun h0 _=>⟨w,h0,fun fn Q h=>h⟩
 | cons D Ds ih =>
   intro h0 hD
   obtain ⟨k1,k2,k3,k4⟩:=hD D (by simp)
   rw [List.nodup_cons] at h2
   have h0':=h0.putFree (ob:=.deferred none) k2 k3 (fun h=>by omega)
   obtain ⟨w',h5,h6⟩:=ih (w:=w.putObj D (.deferred none)) h2.2 h0' fun D' hd'=>by
    obtain ⟨m1,m2,m3,m4⟩:=hD D' (by simp [hd'])
    have hne:D'≠D:=fun e=>h2.1 (e ▸ hd')
    refine ⟨(World.putObj_heap_other hne).trans m1,m2,fun r o ho hb=>m3 r o ho ?_,m4⟩
    exact (Own_mono rfl (fun b hb=>World.putObj_heap_other fun (e:b=D)=>k3 r o ho (by rw [← e];exact hb)) D').1 hb
   exact ⟨w',h5,fun fn Q h=>⟨by simp,.inl ⟨D,_,rfl,run_takeDeferred k1,h6 fn Q h⟩⟩⟩
def mapN (f:Nat→Nat):List Nat→List Nat
 | []=>[]
 | k::r=>f k::mapN f r
def renR (f:Nat→Nat):List (Nat × AObj)→List (Nat × AObj)
 | []=>[]
 | (k,o)::r=>(f k,o.ren f)::renR f r
theorem mem_mapN {f:Nat→Nat}:∀ {ks:List Nat} {q:Nat},mem (mapN f ks) q=true↔∃ k,mem ks k=true∧f k=q
 | [],q=>by simp [mapN,mem]
 | k::r,q=>by
   simp only [mapN,mem_cons,Bool.or_eq_true,decide_eq_true_eq,mem_mapN (ks:=r)]
   constructor
   ·rintro (h|⟨k',h1,h2⟩)
    ·exact ⟨k,.inl rfl,h⟩
    ·exact ⟨k',.inr h1,h2⟩
   ·rintro ⟨k',rfl|h1,h2⟩
    ·exact .inl h2
    ·exact .inr ⟨k',h1,h2⟩
theorem mapN_inj {f:Nat→Nat}:∀ {ks:List Nat} {i j:Nat},nodupK (mapN f ks)=true→mem ks i=true→mem ks j=true→f i=f j→i=j
 | [],i,j,_,h,_,_=>by simp [mem] at h
 | k::r,i,j,hn,hi,hj,e=>by
   simp only [mapN,nodupK] at hn
   split at hn <;> try (cases hn;done)
   rename_i hm
   rw [mem_cons] at hi hj
   simp only [Bool.or_eq_true,decide_eq_true_eq] at hi hj
   rcases hi with rfl|hi
   ·rcases hj with rfl|hj
    ·rfl
    ·have:mem (mapN f r) (f k)=true:=mem_mapN.2 ⟨j,hj,e.symm⟩
     rw [this] at hm;cases hm
   ·rcases hj with rfl|hj
    ·have:mem (mapN f r) (f k)=true:=mem_mapN.2 ⟨i,hi,e⟩
     rw [this] at hm;cases hm
    ·exact mapN_inj hn hi hj e
theorem look_renR {f:Nat→Nat}:∀ {rows:List (Nat × AObj)} {q:Nat} {o:AObj},look (renR f rows) q=some o→∃ r x,look rows r=some x∧f r=q∧o=x.ren f
 | [],_,_,h=>by simp [renR,look] at h
 | (k,x)::l,q,o,h=>by
   simp only [renR,look_cons] at h
   by_cases hk:f k=q
   ·simp [hk] at h
    exact ⟨k,x,by simp [look_cons],hk,h.symm⟩
   ·simp [hk] at h
    obtain ⟨r,y,h1,h2,h3⟩:=look_renR h
    refine ⟨r,y,?_,h2,h3⟩
    rw [look_cons,if_neg (fun (e:k=r)=>hk (by rw [e];exact h2))]
    exact h1
theorem HeapR.rename {C:Ctx} {g:Nat→Gh} {R:Nat→Prop} {ks:List Nat} {rows:List (Nat × AObj)} {w:World} (h:HeapR C g R (fun r=>mem ks r=true) (look rows) w) (f:Nat→Nat) (hn:nodupK (mapN f ks)=true) :
 ∃ g':Nat→Gh,(∀ r,mem ks r=true→g' (f r)=g r)∧HeapR { C with g0:=g' } g' R (fun r=>mem (mapN f ks) r=true) (look (renR f rows)) w:=by
 classical
 obtain ⟨g',hg'⟩:∃ g':Nat→Gh,g'=fun q=>if h:∃ r,mem ks r=true∧f r=q then g h.choose else ⟨0,.slice none 0 0⟩:=⟨_,rfl⟩
 have hgf:∀ r,mem ks r=true→g' (f r)=g r:=fun r hr=>by
  have hex:∃ r',mem ks r'=true∧f r'=f r:=⟨r,hr,rfl⟩
  rw [hg']
  simp only [hex,dif_pos]
  have:=hex.choose_spec
  rw [mapN_inj hn this.1 hr this.2]
 have hren:∀ r,mem ks r=true→mem (mapN f ks) (f r)=true∧g' (f r)=g r:=fun r hr=>⟨mem_mapN.2 ⟨r,hr,rfl⟩,hgf r hr⟩
 refine ⟨g',hgf,h.hsize,h.os,h.tape,h.output,h.frame,h.rsub,h.rlt,h.rnew,fun _ _ _=>rfl,fun q o ho=>?_,fun q o ho=>?_,fun q o b ho hb=>?_,fun q q' o o' b h1 h2 h3 h4=>?_⟩
 ·obtain ⟨r,x,h1,h2,_⟩:=look_renR ho
  exact mem_mapN.2 ⟨r,h.keys r x h1,h2⟩
 ·obtain ⟨r,x,h1,rfl,rfl⟩:=look_renR ho
  exact RowH_ren hren (hgf r (h.keys r x h1)) (h.held r x h1)
 ·obtain ⟨r,x,h1,rfl,rfl⟩:=look_renR ho
  rw [Own_ren (hgf r (h.keys r x h1))] at hb
  exact h.own r x b h1 hb
 ·obtain ⟨r,x,h5,rfl,rfl⟩:=look_renR h1
  obtain ⟨r',x',h6,rfl,rfl⟩:=look_renR h2
  rw [Own_ren (hgf r (h.keys r x h5))] at h3
  rw [Own_ren (hgf r' (h.keys r' x' h6))] at h4
  rw [h.sep r r' x x' b h5 h6 h3 h4]
end Go.AM
end
