/- AmRange3, GrC. -/
import Derived.Test.YtbepaplaahcnkaaGreatPc18

set_option linter.all false
section
namespace Go.AM
def isRange:Code→Bool
 | .rangeFunc _ _ _ _=>true
 | _=>false
def rfF:Code→Operand
 | .rangeFunc f _ _ _=>f
 | _=>.const (.bool false)
def rfP:Code→Array Tmp
 | .rangeFunc _ p _ _=>p
 | _=>#[]
def rfA:Code→Code
 | .rangeFunc _ _ a _=>a
 | c=>c
def rfB:Code→Code
 | .rangeFunc _ _ _ b=>b
 | c=>c
def sh (k:Nat):Nat:=match Nat.blt k 50000 with
 | true=>k+200000
 | false=>k
def us (k:Nat):Nat:=match Nat.blt k 200000 with
 | true=>k
 | false=>k - 200000
theorem us_sh {k:Nat} (h:k < 200000):us (sh k)=k:=by
 unfold sh
 cases h1:Nat.blt k 50000 with
 | true =>
   simp only
   unfold us
   rw [show Nat.blt (k+200000) 200000=false by rw [Bool.eq_false_iff];intro h;have:=Nat.le_of_ble_eq_true h;omega]
   simp
 | false =>
   simp only
   unfold us
   rw [show Nat.blt k 200000=true by exact Nat.ble_eq_true_of_le h]
theorem sh_big {k:Nat} (h:50000≤k):sh k=k:=by
 unfold sh
 rw [show Nat.blt k 50000=false by rw [Bool.eq_false_iff];intro h;have:=Nat.le_of_ble_eq_true h;omega]
def renE (f:Nat→Nat):List (Nat × Ent)→List (Nat × Ent)
 | []=>[]
 | (t,⟨p,v⟩)::r=>(t,⟨p,v.ren f⟩)::renE f r
def renSt (f:Nat→Nat) (st:St):Option St:=match st with
 | ⟨n,slots,_,ks,rows⟩=>forceE (renE f slots) fun slots=>forceL (mapN f ks) fun ks=>forceR (renR f rows) fun rows=>some ⟨n,slots,[],ks,rows⟩
theorem renSt_eq {f:Nat→Nat} {st m:St} (h:renSt f st=some m):m=⟨st.n,renE f st.slots,[],mapN f st.ks,renR f st.rows⟩:=by
 obtain ⟨n,slots,gt,ks,rows⟩:=st
 unfold renSt at h
 simp only at h
 rw [forceE_eq,forceL_eq,forceR_eq] at h
 cases h
 rfl
theorem look_renE {f:Nat→Nat}:∀ {l:List (Nat × Ent)} {t:Nat} {e:Ent},look (renE f l) t=some e→∃ e',look l t=some e'∧e=⟨e'.path,e'.av.ren f⟩
 | [],_,_,h=>by simp [renE,look] at h
 | (u,⟨p,v⟩)::r,t,e,h=>by
   simp only [renE,look_cons] at h
   by_cases hu:u=t
   ·simp [hu] at h
    exact ⟨⟨p,v⟩,by simp [look_cons,hu],h.symm⟩
   ·simp [hu] at h
    obtain ⟨e',h1,h2⟩:=look_renE h
    exact ⟨e',by rw [look_cons,if_neg hu];exact h1,h2⟩
def capK (st:St) (cs:List AV):Option (List Nat × List AObj):=match (keysLK cs [] fun l=>(grow 60 l l).bind fun all=>(askAll all).bind fun objs=>.ret (all,objs)).run (look st.rows) [] with
 | some (x,_)=>some x
 | none=>none
theorem capK_spec {st:St} {cs:List AV} {all:List Nat} {objs:List AObj} (h:capK st cs=some (all,objs)):∃ li rd,(askAll all).run (look st.rows) li=some (objs,rd):=by
 unfold capK at h
 obtain ⟨ls,hls⟩:=keysLK_ex cs []
 rw [hls] at h
 split at h <;> try (cases h;done)
 rename_i x rd hx
 cases h
 rw [run_bind] at hx
 split at hx <;> try (cases hx;done)
 rename_i all' l' _
 rw [run_bind] at hx
 split at hx <;> try (cases hx;done)
 rename_i objs' l'' hask
 have:=ret_run hx
 cases this
 exact ⟨_,_,hask⟩
def remN (t:Nat):List Nat→List Nat
 | []=>[]
 | k::r=>match Nat.beq k t with
   | true=>remN t r
   | false=>k::remN t r
def allBelow (n:Nat):List Nat→Bool
 | []=>true
 | k::r=>match Nat.blt k n with
   | true=>allBelow n r
   | false=>false
theorem allBelow_mem {n:Nat}:∀ {l:List Nat} {k:Nat},allBelow n l=true→mem l k=true→k < n
 | [],_,_,h=>by simp [mem] at h
 | x::r,k,h,hm=>by
   simp only [allBelow] at h
   split at h <;> try (cases h;done)
   rename_i hx
   rw [mem_cons] at hm
   simp only [Bool.or_eq_true,decide_eq_true_eq] at hm
   rcases hm with rfl|hm
   ·simpa using hx
   ·exact allBelow_mem h hm
theorem disj_mem:∀ {a b:List Nat} {k:Nat},disj a b=true→mem a k=true→mem b k=false
 | [],_,_,_,h=>by simp [mem] at h
 | x::r,b,k,h,hm=>by
   simp only [disj] at h
   split at h <;> try (cases h;done)
   rename_i hx
   rw [mem_cons] at hm
   simp only [Bool.or_eq_true,decide_eq_true_eq] at hm
   rcases hm with rfl|hm
   ·exact hx
   ·exact disj_mem h hm
def rangeOk (fs cs:List AV) (all:List Nat) (objs:List AObj) (m mR:St) (ps:List Nat):Bool :=
 nodupK all&&(withinL (mem all) fs&&(withinL (mem all) cs&&(withinOs (mem all) objs&&(disj all m.ks&&(allBelow 200000 m.ks&&(nodupK mR.ks&&(withinSlots (fun k=>Nat.ble 100000 k) mR.slots&&allBelow m.n ps)))))))
def capN (all:List Nat) (k:Nat):Nat:=toLoc all k+2
section
variable {tt:TT} {S:Nat→Option Spec} {E:Env PG tt S} {K:List Nat} {c:Code} {st:St} {Q:AExit→St→Prop}
theorem allBelow_list {n:Nat} {l:List Nat} (h:allBelow n l=true):∀ q∈l,q < n:=fun q hq=>allBelow_mem h (by rw [mem_iff];exact hq)
set_option maxHeartbeats 2000000 in
theorem rangeG (t:Ty) (two:Bool) (rv:List t.El→List (Nat × AObj)) (jump:List t.El→Option AExit) (ok:List t.El→Prop) (inv:(List t.El→(Nat→Prop)→(Nat→Prop)→World→Prop)→Prop) (pf:List t.El) (fsl:Nat)
 {mA z:St} {mk mkR:List t.El→St} {pA:Prop} {f:Nat} {fs cs:List AV} {s:Spec} {all:List Nat} {objs:List AObj} {n:Nat} {slots:List (Nat × Ent)} {ks:List Nat} {rows:List t.El→List (Nat × AObj)}
 (hr:isRange c=true) (hro:E.ro=none) (hA:mkL st K [] (rv [])=some mA) (eA:subE st mA=some pA) (hF:mA.get (rfF c)=.fn f fs cs) (hFp:mA.pathOf (rfF c)=[]) (hS:S f=some s) (hraw:s.raw=true)
 (hcap:capK mA (fs++cs)=some (all,objs)) (hm:∀ p,mkL mA (remN fsl K) [] (rv p)=some (mk p)) (hmR:∀ p,renSt sh (mk p)=some (mkR p)) (hshape:∀ p,mkR p=⟨n,slots,[],ks,rows p⟩)
 (hz:renSt us (mkR pf)=some z) (hck:rangeOk fs cs all objs (mk []) (mkR []) (rfP c).toList=true) (hopb:operandB (rfF c)=true)
 (hsub:Sub mA (mk [])) (hpA:pA) (hj:jump []=none)
 (hok:∀ p x,ok (p++[x])→jump p=none) (hinv:∀ Cl pown l rc,inv (JOf Cl pown l rc ks rows jump))
 (hcall:∀ J,inv J→∃ out j,s.f (renL (capN all) fs++(.own 0::renL (capN all) cs)) (.yp 1::.yld t two ⟨ok,contOf jump,J⟩ []::mapRen (capN all) objs)=some out ∧
  out.pre∧out.rows[0]?=some (.yp j)∧out.rows[j]?=some (.yld t two ⟨ok,contOf jump,J⟩ pf))
 (hround:∀ l p x,ok (p++[x])→OkEl t x→∃ sl,parS t two x (rfP c).toList=some sl ∧
  WP (E.inRound l) K (rfA c) ⟨n,sl++slots,[],ks,rows p⟩ (asPost (E.inRound l) K (rfB c) (yPost jump ks (rows (p++[x])) (p++[x]))))
 (hend:match jump pf with
  | none=>Q .normal z
  | some e=>Q e z):WP E K c st Q:=by
 cases c <;> simp [isRange] at hr
 rename_i gop ps asg bd
 simp only [rfF,rfP,rfA,rfB] at hF hFp hround hck hopb
 intro hc C g0 R a w Z hrel0 hq
 simp only [codeOk,Bool.and_eq_true] at hc
 obtain ⟨g,hrelA0⟩:=subA_sound (subE_sound eA hpA) hrel0
 simp only [rangeOk,Bool.and_eq_true] at hck
 obtain ⟨ck1,ck2,ck3,ck4,ck5,ck6,ck7,ck8,ck9⟩:=hck
 obtain ⟨li,rd,hask⟩:=capK_spec hcap
 obtain ⟨hlen,hobj⟩:=askAll_spec hask
 have hgf:=get_rel hrelA0 (operandB_spec hopb) (by rw [hFp];exact fun t x h=>by simp at h)
 rw [hF] at hgf
 generalize hef:a.eval gop=vf at hgf
 cases hgf with
 | fn hfs hcs =>
 rename_i vs us'
 obtain ⟨hsound,hcallf⟩:=E.hS f s hS
 rw [hro]
 refine wpIn_rangeFunc ?_
 intro fn _
 obtain ⟨D,hD⟩:∃ D,D=w.heap.size:=⟨_,rfl⟩
 obtain ⟨l,hl⟩:∃ l,l=w.heap.size+1:=⟨_,rfl⟩
 obtain ⟨w1,hw1⟩:∃ w1,w1=(w.alloc (.deferred (some []))).alloc (.loop (recOf fn a.tmps ps asg bd w.heap.size none)):=⟨_,rfl⟩
 have hold:∀ k,k < w.heap.size→w1.heap[k]?=w.heap[k]?:=fun k hk=>by rw [hw1];exact (Go.RowKit.Below.heap_alloc _ _ k (by simp;omega)).trans (Go.RowKit.Below.heap_alloc _ _ k hk)
 have hsz1:w1.heap.size=w.heap.size+2:=by rw [hw1];simp
 have hL1:w1.heap[l]?=some (.loop (recOf fn a.tmps ps asg bd D none)):=by
  rw [hw1,hl,hD];have:=World.alloc_heap_new (w.alloc (.deferred (some []))) (.loop (recOf fn a.tmps ps asg bd w.heap.size none));rwa [World.size_alloc] at this
 have hD1:w1.heap[D]?=some (.deferred (some [])):=by
  rw [hw1,hD];exact (Go.RowKit.Below.heap_alloc _ _ _ (by simp)).trans (World.alloc_heap_new w _)
 have hos:w1.os=w.os∧w1.tape=w.tape∧w1.output=w.output:=by rw [hw1];exact ⟨rfl,rfl,rfl⟩
 have hrelA:Rel C g R mA a w1:=hrelA0.world hos.1 hos.2.1 hos.2.2 (by omega) hold
 have hhw:=hrelA0.heap
 have hOwnA:∀ r o b,look mA.rows r=some o→Own g w1 r o b→b < w.heap.size:=fun r o b ho hb=>by
  refine Own_lt (hrelA0.heap.held r o ho) ((Own_mono rfl (fun b hb=>hold b ?_) b).1 hb)
  exact Own_lt (hrelA0.heap.held r o ho) hb
 have hrelM:Rel C g R (mk []) a w1:=sub_sound hsub hrelA
 have hR0:=renSt_eq (hmR [])
 rw [hshape []] at hR0
 injection hR0 with e1 e2 e3 e4 e5
 have ck7':nodupK (mapN sh (mk []).ks)=true:=by rw [← e4];rw [hshape []] at ck7;exact ck7
 obtain ⟨g1,hg1,hh1⟩:=hrelM.heap.rename sh ck7'
 rw [← e4,← e5] at hh1
 obtain ⟨pown,hpown⟩:∃ pown:Nat→Prop,pown=fun b=>∃ r o,mem all r=true∧look mA.rows r=some o∧Own g w1 r o b:=⟨_,rfl⟩
 have hpo:∀ b,pown b→∃ r o,mem all r=true∧look mA.rows r=some o∧Own g w1 r o b:=fun b h=>by rw [hpown] at h;exact h
 obtain ⟨Cl,hCl⟩:∃ Cl:Ctx,Cl=⟨w1,fun b=>b=l∨pown b∨∃ r o,look (rows []) r=some o∧Own g1 w1 r o b,R,g1,[]⟩:=⟨_,rfl⟩
 have hCw:Cl.w0=w1:=by rw [hCl]
 have hCR:Cl.R0=R:=by rw [hCl]
 have hCg:Cl.g0=g1:=by rw [hCl]
 have hCp:∀ b,Cl.pas b↔(b=l∨pown b∨∃ r o,look (rows []) r=some o∧Own g1 w1 r o b):=fun b=>by rw [hCl]
 have hhC:HeapR Cl g1 R (fun r=>mem ks r=true) (look (rows [])) w1:=hh1.root hCw hCR (fun r o b ho hb=>(hCp b).2 (.inr (.inr ⟨r,o,ho,hb⟩))) (fun r _ _=>by rw [hCg])
 have hOwn1:∀ r o b,look (rows []) r=some o→Own g1 w1 r o b→∃ r' o',look (mk []).rows r'=some o'∧Own g w1 r' o' b:=fun r o b ho hb=>by
  rw [e5] at ho
  obtain ⟨r',x,h1,rfl,rfl⟩:=look_renR ho
  rw [Own_ren (hg1 r' (hrelM.heap.keys r' x h1))] at hb
  exact ⟨r',x,h1,hb⟩
 have hlow:∀ r o b,look (rows []) r=some o→Own g1 w1 r o b→b < w.heap.size:=fun r o b ho hb=>by
  obtain ⟨r',o',h1,h2⟩:=hOwn1 r o b ho hb
  exact hOwnA r' o' b (subRows_look hsub.rows h1) h2
 have hplow:∀ b,pown b→b < w.heap.size:=fun b hb=>by
  obtain ⟨r,o,_,h1,h2⟩:=hpo b hb
  exact hOwnA r o b h1 h2
 have hRlow:∀ b,R b→b < w.heap.size:=fun b hb=>hrelA0.heap.rlt b hb
 have hl1:l < w1.heap.size:=by omega
 have hpR:∀ b,pown b→¬ R b:=fun b hb=>by
  obtain ⟨r,o,_,h1,h2⟩:=hpo b hb
  exact (hrelA.heap.own r o b h1 h2).1
 have hRp:∀ b,Cl.R0 b→b < Cl.w0.heap.size∧¬ Cl.pas b:=fun b hb=>by
  rw [hCR] at hb
  have hlt:=hRlow b hb
  refine ⟨by rw [hCw];omega,fun hp=>?_⟩
  rcases (hCp b).1 hp with h|h|⟨r,o,h1,h2⟩
  ·omega
  ·exact hpR b h hb
  ·exact (hhC.own r o b h1 h2).1 hb
 have hCC:∀ b,Cl.pas b→C.w0.heap.size≤b∨C.pas b:=fun b hp=>by
  rcases (hCp b).1 hp with h|h|⟨r,o,h1,h2⟩
  ·have:=hrelA0.heap.hsize;exact .inl (by omega)
  ·obtain ⟨r,o,_,h1,h2⟩:=hpo b h
   exact (hrelA.heap.own r o b h1 h2).2
  ·obtain ⟨r',o',h3,h4⟩:=hOwn1 r o b h1 h2
   exact (hrelM.heap.own r' o' b h3 h4).2
 have hslot0:∀ te e,look slots te=some e→e.path=[]∧AV.within (fun k=>Nat.ble 100000 k) e.av=true∧∃ v,a.tmps[te]?=some v∧RelV Cl.g0 (fun r=>mem ks r=true) Cl.R0 Cl.w0 e.av v:=fun te e he=>by
  have hin:AV.within (fun k=>Nat.ble 100000 k) e.av=true:=withinSlots_look (l:=slots) (by rw [hshape []] at ck8;exact ck8) he
  rw [e2] at he
  obtain ⟨e',h1,rfl⟩:=look_renE he
  have hgt:e'.path=[]:=by
   cases hp:e'.path with
   | nil=>rfl
   | cons y r =>
     obtain ⟨u,b⟩:=y
     have:=hrelM.gts te e' h1 u b (by rw [hp];simp)
     rw [hsub.gt] at this
     simp [mem] at this
  obtain ⟨v,h2,h3⟩:=(hrelM.slots te e' h1).1 (by rw [hgt];exact fun t x h=>by simp at h)
  refine ⟨hgt,hin,v,h2,?_⟩
  rw [hCg,hCR,hCw]
  refine RelV_ren (fun r hr=>⟨?_,hg1 r hr⟩) h3
  rw [e4]
  exact mem_mapN.2 ⟨r,hr,rfl⟩
 have hn:a.tmps.size=n:=by rw [e1];exact hrelM.size
 have hlaw:=yld_law (two:=two) E K (ps:=ps) (ok:=ok) (jump:=jump) (rows:=rows) (ks:=ks) (slots:=slots) (Cl:=Cl) (pown:=pown) (l:=l) (D:=D) (fn:=fn) (T:=a.tmps) hc.1 hc.2 hok (hround l) hn (fun q hq=>by rw [e1];exact allBelow_list ck9 q hq) hslot0
  (by rw [hCw];exact hl1) (by rw [hCR];intro h;have:=hRlow l h;omega) (fun h=>by have:=hplow l h;omega) ((hCp l).2 (.inl rfl)) (fun b hb=>(hCp b).2 (.inr (.inl hb))) hRp
 obtain ⟨J,hJ⟩:∃ J,J=JOf Cl pown l (recOf fn a.tmps ps asg bd D) ks rows jump:=⟨_,rfl⟩
 rw [← hJ] at hlaw
 obtain ⟨O0,hO0⟩:∃ O0:Nat→Prop,O0=fun b=>b < w1.heap.size∧¬ R b∧¬ pown b:=⟨_,rfl⟩
 have hOo:∀ b,O0 b↔b < w1.heap.size∧¬ R b∧¬ pown b:=fun b=>by rw [hO0]
 have hJ0:J [] O0 R w1:=by
  rw [hJ]
  refine ⟨g1,R,hhC,by rw [hj];exact hL1,fun h=>(by have:=hRlow l h;omega),fun r o ho hb=>(by have:=hlow r o l ho hb;omega),fun b hb=>.inr hb,fun r o b ho hb=>?_,fun b h1 h2 h3=>?_,fun b hb=>((hOo b).1 hb).1⟩
  ·refine (hOo b).2 ⟨by have:=hlow r o b ho hb;omega,(hhC.own r o b ho hb).1,fun hp=>?_⟩
   obtain ⟨r',o',h1,h2⟩:=hOwn1 r o b ho hb
   obtain ⟨q,y,h3,h4,h5⟩:=hpo b hp
   have h6:=subRows_look hsub.rows h1
   have h7:=hrelA.heap.sep r' q o' y b h6 h4 h2 h5
   subst h7
   have h8:=hrelM.heap.keys r' o' h1
   have h9:=disj_mem ck5 h3
   rw [h8] at h9
   cases h9
  ·rw [hCw] at h1
   rw [hCR] at h2
   exact (hOo b).2 ⟨h1,h2,h3⟩
 obtain ⟨vO,hvO⟩:=VHas_of O0 w1.heap.size (fun b hb=>((hOo b).1 hb).1)
 have hvOe:VHas vO=O0:=funext fun b=>propext (hvO b)
 obtain ⟨gi,hgi⟩:∃ gi:Nat→Gh,gi=fun i=>match i with
  | 0=>⟨0,.func (.yield l) #[] #[]⟩
  | 1=>⟨l,vO⟩
  | i+2=>g (all.getD i 0):=⟨_,rfl⟩
 have hgi0:gi 0=⟨0,.func (.yield l) #[] #[]⟩:=by rw [hgi]
 have hgi1:gi 1=⟨l,vO⟩:=by rw [hgi]
 have hgi2:∀ i r,all[i]?=some r→gi (i+2)=g r:=fun i r h=>by rw [hgi];simp [List.getD,h]
 obtain ⟨Y,hY⟩:∃ Y:YD t,Y=⟨ok,contOf jump,J⟩:=⟨_,rfl⟩
 obtain ⟨out,j,hf,hpre,ho0,hoj⟩:=hcall J (by rw [hJ];exact hinv _ _ _ _)
 rw [← hY] at hf hoj hlaw
 have hYc:Y.cont=contOf jump:=by rw [hY]
 have hYJ:Y.J=J:=by rw [hY]
 obtain ⟨rws,hrws⟩:∃ rws,rws=AObj.yp 1::AObj.yld t two Y []::mapRen (capN all) objs:=⟨_,rfl⟩
 rw [← hrws] at hf
 have hrlen:rws.length=all.length+2:=by rw [hrws];simp [mapRen_length,hlen]
 have hrw:∀ i o,rws[i]?=some o→(i=0∧o=.yp 1)∨(i=1∧o=.yld t two Y [])∨∃ k r y,i=k+2∧all[k]?=some r∧look mA.rows r=some y∧objs[k]?=some y∧o=y.ren (capN all):=fun i o h=>by
  rw [hrws] at h
  match i,h with
  | 0,h=>exact .inl ⟨rfl,by simpa using h.symm⟩
  | 1,h=>exact .inr (.inl ⟨rfl,by simpa using h.symm⟩)
  | k+2,h =>
    simp only [List.getElem?_cons_succ] at h
    rw [mapRen_get] at h
    cases hy:objs[k]? with
    | none=>rw [hy] at h;cases h
    | some y =>
      rw [hy] at h
      simp at h
      have hk:k < all.length:=by rw [← hlen];exact (List.getElem?_eq_some_iff.1 hy).1
      exact .inr (.inr ⟨k,all[k],y,rfl,List.getElem?_eq_getElem hk,hobj k _ y (List.getElem?_eq_getElem hk) hy,hy,h.symm⟩)
 have hren:∀ r,(mem all r=true∧mem mA.ks r=true)→locK rws (capN all r)∧gi (capN all r)=g r:=fun r ⟨h1,_⟩=>by
  obtain ⟨h2,h3⟩:=mem_get h1
  refine ⟨?_,hgi2 _ _ h2⟩
  unfold locK capN
  omega
 have hgl:∀ i o,rws[i]?=some o→∀ b,Own gi w1 i o b→(i=1∧O0 b)∨∃ k r y,i=k+2∧all[k]?=some r∧look mA.rows r=some y∧Own g w1 r y b:=fun i o h b hb=>by
  rcases hrw i o h with ⟨rfl,rfl⟩|⟨rfl,rfl⟩|⟨k,r,y,rfl,h1,h2,h3,rfl⟩
  ·simp [Own] at hb
  ·simp only [Own,hgi1] at hb
   exact .inl ⟨rfl,(hvO b).1 hb⟩
  ·rw [Own_ren (hgi2 k r h1)] at hb
   exact .inr ⟨k,r,y,rfl,h1,h2,hb⟩
 have hargs:RelL gi (locK rws) R w1 (renL (capN all) fs++(.own 0::renL (capN all) cs)) (vs++(.func (.yield l) #[] #[]::us')):=by
  have hw1c:∀ ad:Addr,R ad.block→w1.cell? ad=w.cell? ad:=fun ad had=>cell_of_heap (hold _ (hRlow _ had))
  refine RelL_append (RelL_ren hren (RelL_within ck2 (RelL_mono (fun _ _=>rfl) (fun _ h=>h) (fun _ h=>h) hw1c hfs))) (.cons ?_ (RelL_ren hren (RelL_within ck3 (RelL_mono (fun _ _=>rfl) (fun _ h=>h) (fun _ h=>h) hw1c hcs))))
  have h0:locK rws 0:=by unfold locK;omega
  have:=RelV.own (g:=gi) (K:=locK rws) (R:=R) (w:=w1) (r:=0) h0 (by rw [hgi0];rfl)
  rwa [hgi0] at this
 have hspec:=hsound _ rws out hf hpre (fun h=>by rw [hraw] at h;cases h) w1 gi R (vs++(.func (.yield l) #[] #[]::us')) (fun b hb=>by have:=hRlow b hb;omega)
  (fun i o h=>by
   rcases hrw i o h with ⟨rfl,rfl⟩|⟨rfl,rfl⟩|⟨k,r,y,rfl,h1,h2,h3,rfl⟩
   ·exact ⟨by show 1 < rws.length;omega,by rw [hgi0,hgi1]⟩
   ·show YLaw two Y (gi 1).b∧Y.J [] (VHas (gi 1).v) R w1
    rw [hgi1,hvOe,hYJ]
    exact ⟨hlaw,hJ0⟩
   ·exact RowH_ren hren (hgi2 k r h1) (RowH_within (withinOs_get ck4 h3) (hrelA.heap.held r y h2)))
  (fun i o b h hb=>by
   rcases hgl i o h b hb with ⟨_,h1⟩|⟨k,r,y,_,_,h2,h3⟩
   ·exact ((hOo b).1 h1).2.1
   ·exact (hrelA.heap.own r y b h2 h3).1)
  (fun i i' o o' b h h' hb hb'=>by
   have hp:∀ k r y,all[k]?=some r→look mA.rows r=some y→Own g w1 r y b→pown b:=fun k r y h1 h2 h3=>by rw [hpown];exact ⟨r,y,get_mem h1,h2,h3⟩
   rcases hgl i o h b hb with ⟨e,h1⟩|⟨k,r,y,e,h2,h3,h4⟩
   ·rcases hgl i' o' h' b hb' with ⟨e',_⟩|⟨k',r',y',e',h5,h6,h7⟩
    ·omega
    ·exact absurd (hp k' r' y' h5 h6 h7) ((hOo b).1 h1).2.2
   ·rcases hgl i' o' h' b hb' with ⟨e',h1⟩|⟨k',r',y',e',h5,h6,h7⟩
    ·exact absurd (hp k r y h2 h3 h4) ((hOo b).1 h1).2.2
    ·have:=hrelA.heap.sep r r' y y' b h3 h6 h4 h7
     subst this
     have e6:=nodupK_get ck1 h2
     have e7:=nodupK_get ck1 h5
     omega)
  hargs
 refine ⟨l,[markD D],w1,{ target:=.fn (.func f) us'.toArray,args:=vs.toArray++#[.func (.yield l) #[] #[]] },w1,f,(vs++(.func (.yield l) #[] #[]::us')).toArray,w1,?_,?_,fun _ _=>trivial,?_,fun h=>absurd h (by simp [Fence.wide]),callsFR (hspec.mono ?_)⟩
 ·rw [hw1,hl,hD];exact run_enterLoop_outer _ _ _ _ _
 ·have hy:a.eval (.const (.func (.yield l) #[] #[]))=.func (.yield l) #[] #[]:=rfl
  simp only [resolve,rangeCall,hef,Deferred.ofValue,Sem.run_pure,List.map_toArray,List.map_cons,List.map_nil,hy]
 ·simp only [invoke,hcallf]
  congr 2
  apply Array.ext'
  simp
 ·rintro e w' ⟨v,g',R',rfl,hh,hgp,hlr,_,_⟩
  rw [hrlen] at hgp hlr
  have h0:=hh.held 0 _ ho0
  obtain ⟨hKj,hgv⟩:=h0
  rw [hgp 0 (by omega),hgi0] at hgv
  have hlj:(g' j).b=l:=by
   simp only [Value.func.injEq,Fn.yield.injEq] at hgv
   exact hgv.1.symm
  obtain ⟨_,hJf⟩:=hh.held j _ hoj
  rw [hYJ,hJ] at hJf
  obtain ⟨gJ,Rc,k1,k2,k3,k4,k5,k6,k7,k8⟩:=hJf
  have hlw:l < w'.heap.size:=by have:=k1.hsize;rw [hCw] at this;omega
  refine ⟨_,_,run_endLoop k2 (by cases jump pf <;> simp [recOf]),?_⟩
  obtain ⟨w4,hw4⟩:∃ w4,w4=w'.putObj l (.loop { recOf fn a.tmps ps asg bd D (jump pf) with state:=.exhausted }):=⟨_,rfl⟩
  rw [← hw4]
  have hh4:HeapR Cl gJ Rc (fun r=>mem ks r=true) (look (rows pf)) w4:=by rw [hw4];exact k1.putFree k3 k4 (fun _=>(hCp l).2 (.inl rfl))
  have hz':=renSt_eq hz
  rw [hshape pf] at hz'
  dsimp only at hz'
  have ck6':∀ k,mem (mk []).ks k=true→k < 200000:=fun k hk=>allBelow_mem ck6 hk
  have hnz:nodupK (mapN us ks)=true:=by
   have:∀ l:List Nat,(∀ k,mem l k=true→k < 200000)→mapN us (mapN sh l)=l:=fun l=>by
    induction l with
    | nil=>intro _;rfl
    | cons x l ih =>
      intro h
      simp only [mapN]
      rw [us_sh (h x (by simp [mem_cons])),ih (fun k hk=>h k (by rw [mem_cons,hk];simp))]
   rw [e4,this _ ck6']
   have hn2:∀ l:List Nat,nodupK (mapN sh l)=true→nodupK l=true:=fun l=>by
    induction l with
    | nil=>intro _;rfl
    | cons x l ih =>
      intro h
      simp only [mapN,nodupK] at h ⊢
      split at h <;> try (cases h;done)
      rename_i hx
      have:mem l x=false:=by
       cases hm:mem l x with
       | false=>rfl
       | true=>rw [mem_mapN.2 ⟨x,hm,rfl⟩] at hx;cases hx
      rw [this]
      exact ih h
   exact hn2 _ ck7'
  obtain ⟨g2,hg2,hh5⟩:=hh4.rename us hnz
  have hzks:∀ r,mem (mapN us ks) r=true→∃ k,mem (mk []).ks k=true∧r=k∧mem ks (sh k)=true∧g2 k=gJ (sh k):=fun r hr=>by
   obtain ⟨q,h1,h2⟩:=mem_mapN.1 hr
   have h1':=h1
   rw [e4] at h1'
   obtain ⟨k,h3,h4⟩:=mem_mapN.1 h1'
   have hk:=us_sh (ck6' k h3)
   subst h4
   refine ⟨k,h3,by rw [← h2,hk],h1,?_⟩
   have:=hg2 (sh k) h1
   rwa [hk] at this
  have hh6:HeapR C g2 Rc (fun r=>mem z.ks r=true) (look z.rows) w4:=by
   rw [hz']
   refine hrelM.heap.unroot hh5 hCw hCR hCC (fun r hr hk=>?_)
   obtain ⟨k,h1,rfl,h2,h3⟩:=hzks r hk
   have hs:sh r=r:=sh_big (by omega)
   rw [hs] at h2 h3
   rw [h3,hh4.gfix r hr h2,hCg]
   have h4:=hg1 r h1
   rw [hs] at h4
   rw [h4]
   exact hrelM.heap.gfix r hr h1
  obtain ⟨C',hC'⟩:∃ C':Ctx,C'=⟨w4,fun b=>∃ r o,look z.rows r=some o∧Own g2 w4 r o b,Rc,C.g0,markD D::C.marks⟩:=⟨_,rfl⟩
  have hXw:C'.w0=w4:=by rw [hC']
  have hXR:C'.R0=Rc:=by rw [hC']
  have hXg:C'.g0=C.g0:=by rw [hC']
  have hXp:∀ b,C'.pas b↔∃ r o,look z.rows r=some o∧Own g2 w4 r o b:=fun b=>by rw [hC']
  have hh7:HeapR C' g2 Rc (fun r=>mem z.ks r=true) (look z.rows) w4:=hh6.root hXw hXR (fun r o b ho hb=>(hXp b).2 ⟨r,o,ho,hb⟩) (fun r hr hk=>by rw [hXg];exact hh6.gfix r hr hk)
  have hDw:D < w4.heap.size:=by have:=hh4.hsize;rw [hCw] at this;omega
  have hCD:¬ Cl.pas D:=fun h=>by
   rcases (hCp D).1 h with h|h|⟨r,o,h1,h2⟩
   ·omega
   ·have:=hplow D h;omega
   ·have:=hlow r o D h1 h2;omega
  have hDl:D < Cl.w0.heap.size:=by rw [hCw];omega
  have hRD:¬ Rc D:=hh4.notR hDl hCD (by rw [hCR];intro h;have:=hRlow D h;omega)
  have hXD:¬ C'.pas D:=fun h=>by
   obtain ⟨r,o,h1,h2⟩:=(hXp D).1 h
   rw [hz'] at h1
   dsimp only at h1
   obtain ⟨r',x,h3,h4,h5⟩:=look_renR h1
   subst h4 h5
   rw [Own_ren (hg2 r' (hh4.keys r' x h3))] at h2
   exact hh4.notOwn hDl hCD r' x h3 h2
  have hXC:∀ b,C'.pas b→C.w0.heap.size≤b∨C.pas b:=fun b h=>by
   obtain ⟨r,o,h1,h2⟩:=(hXp b).1 h
   exact (hh6.own r o b h1 h2).2
  have hlater:Later C C':=by
   refine ⟨fun h=>hh6.unroot h hXw hXR hXC (fun r hr hk=>by rw [h.gfix r hr hk,hXg]),⟨[D],by rw [hC'];rfl,by simp,fun D' hD'=>?_⟩,fun D' m=>?_,?_⟩
   ·rw [List.mem_singleton.1 hD']
    refine ⟨⟨by rw [hXw];exact hDw,hXD,by rw [hXR];exact hRD,?_⟩,by have:=hrelA0.heap.hsize;omega⟩
    rw [hXw,hh4.frame D hDl hCD,hCw]
    exact hD1
   ·refine ⟨by rw [hXw];exact Nat.lt_of_lt_of_le m.lt hh6.hsize,fun h=>?_,?_,?_⟩
    ·rcases hXC D' h with h1|h1
     ·have:=m.lt;omega
     ·exact m.pas h1
    ·rw [hXR];exact hh6.notR m.lt m.pas m.rd
    ·rw [hXw,hh6.frame D' m.lt m.pas];exact m.cell
   ·rw [hXw];exact hh6.hsize
  have hrelZ:Rel C' g2 Rc z { a with defers:=[markD D]++a.defers } w4:=by
   refine ⟨?_,?_,fun te e he=>?_,fun te e he u y hy=>?_,hh7⟩
   ·rw [hz'];exact hn
   ·show [markD D]++a.defers=C'.marks
    rw [hC',hrelA0.defers];rfl
   ·rw [hz'] at he
    dsimp only at he
    obtain ⟨e',h1,rfl⟩:=look_renE he
    obtain ⟨h2,h3,v,h4,h5⟩:=hslot0 te e' h1
    refine ⟨fun _=>⟨v,h4,?_⟩,fun h=>absurd (fun t x h=>by rw [show (⟨e'.path,e'.av.ren us⟩:Ent).path=e'.path from rfl,h2] at h;simp at h) h⟩
    refine RelV_ren (fun r hr=>⟨?_,hg2 r hr⟩) (hh4.stable h5 h3 (fun _ h=>h) hRp)
    rw [hz']
    exact mem_mapN.2 ⟨r,hr,rfl⟩
   ·rw [hz'] at he
    dsimp only at he
    obtain ⟨e',h1,rfl⟩:=look_renE he
    have:=(hslot0 te e' h1).1
    rw [show (⟨e'.path,e'.av.ren us⟩:Ent).path=e'.path from rfl,this] at hy
    simp at hy
  cases hjf:jump pf with
  | none =>
    rw [hjf] at hend
    exact hq C' .normal z g2 Rc _ w4 hlater hend hrelZ
  | some e =>
    rw [hjf] at hend
    have hfin:=hq C' e z g2 Rc _ w4 hlater hend hrelZ
    cases e with
    | normal=>exact wpIn_skip hfin
    | exit i=>exact wpIn_exit hfin
    | ret=>exact wpIn_ret hfin
theorem rangeI (t:Ty) (two:Bool) (rv:List t.El→List (Nat × AObj)) (jump:List t.El→Option AExit) (L:List t.El) (fsl:Nat)
 {mA z:St} {mk mkR:List t.El→St} {pA:Prop} {f:Nat} {fs cs:List AV} {s:Spec} {all:List Nat} {objs:List AObj} {n:Nat} {slots:List (Nat × Ent)} {ks:List Nat} {rows:List t.El→List (Nat × AObj)}
 (hr:isRange c=true) (hro:E.ro=none) (hA:mkL st K [] (rv [])=some mA) (eA:subE st mA=some pA) (hF:mA.get (rfF c)=.fn f fs cs) (hFp:mA.pathOf (rfF c)=[]) (hS:S f=some s) (hraw:s.raw=true)
 (hcap:capK mA (fs++cs)=some (all,objs)) (hm:∀ p,mkL mA (remN fsl K) [] (rv p)=some (mk p)) (hmR:∀ p,renSt sh (mk p)=some (mkR p)) (hshape:∀ p,mkR p=⟨n,slots,[],ks,rows p⟩)
 (hz:renSt us (mkR (cut (contOf jump) [] L).1)=some z) (hck:rangeOk fs cs all objs (mk []) (mkR []) (rfP c).toList=true) (hopb:operandB (rfF c)=true)
 (hsub:Sub mA (mk [])) (hpA:pA) (hj:jump []=none)
 (hcall:∀ J,∃ out j,s.f (renL (capN all) fs++(.own 0::renL (capN all) cs)) (.yp 1::.yld t two ⟨okOf L jump,contOf jump,J⟩ []::mapRen (capN all) objs)=some out ∧
  (YGo ⟨okOf L jump,contOf jump,J⟩ [] L→out.pre)∧out.rows[0]?=some (.yp j)∧out.rows[j]?=some (.yld t two ⟨okOf L jump,contOf jump,J⟩ (cut (contOf jump) [] L).1))
 (hround:∀ l p x,p++[x] <+: L→jump p=none→OkEl t x→∃ sl,parS t two x (rfP c).toList=some sl ∧
  WP (E.inRound l) K (rfA c) ⟨n,sl++slots,[],ks,rows p⟩ (asPost (E.inRound l) K (rfB c) (yPost jump ks (rows (p++[x])) (p++[x]))))
 (hend:match jump (cut (contOf jump) [] L).1 with
  | none=>Q .normal z
  | some e=>Q e z):WP E K c st Q :=
 rangeG t two rv jump (okOf L jump) (fun _=>True) (cut (contOf jump) [] L).1 fsl hr hro hA eA hF hFp hS hraw hcap hm hmR hshape hz hck hopb hsub hpA hj (fun p x h=>by simpa using h.2) (fun _ _ _ _=>trivial)
  (fun J _=>by
   obtain ⟨out,j,h1,h2,h3⟩:=hcall J
   exact ⟨out,j,h1,h2 (go_of J (by simp) hj),h3⟩)
  (fun l p x h hx=>hround l p x h.1 (by simpa using h.2) hx) hend
def bagO:AObj→AObj→Prop
 | .bag t xs,o=>∃ ys,o=.bag t ys∧xs.Perm ys
 | o,o'=>o=o'
def bagL:List (Nat × AObj)→List (Nat × AObj)→Prop
 | [],[]=>True
 | (i,o)::r,(j,o')::r'=>i=j∧bagO o o'∧bagL r r'
 | _,_=>False
theorem bagO_row {g:Nat→Gh} {K0 R:Nat→Prop} {w:World} {r:Nat} {o o':AObj} (h:bagO o o'):(RowH g K0 R w r o→RowH g K0 R w r o')∧∀ b,Own g w r o' b↔Own g w r o b:=by
 cases o with
 | bag t xs =>
   obtain ⟨ys,rfl,hp⟩:=h
   exact ⟨fun ⟨zs,h1,h2⟩=>⟨zs,h1.trans hp,h2⟩,fun b=>Iff.rfl⟩
 | _=>simp only [bagO] at h;subst h;exact ⟨id,fun b=>Iff.rfl⟩
theorem bagL_look:∀ {l l':List (Nat × AObj)} {i:Nat} {o':AObj},bagL l l'→look l' i=some o'→∃ o,look l i=some o∧bagO o o'
 | [],[],_,_,_,h=>by simp [look] at h
 | (k,o)::r,(j,o2)::r',i,o',⟨h1,h2,h3⟩,h=>by
   subst h1
   rw [look_cons] at h
   by_cases hk:k=i
   ·simp [hk] at h
    subst h
    exact ⟨o,by rw [look_cons,if_pos hk],h2⟩
   ·simp [hk] at h
    obtain ⟨o1,h4,h5⟩:=bagL_look h3 h
    exact ⟨o1,by rw [look_cons,if_neg hk];exact h4,h5⟩
 | [],_::_,_,_,h,_=>h.elim
 | _::_,[],_,_,h,_=>h.elim
theorem HeapR.like {C:Ctx} {g:Nat→Gh} {R K0:Nat→Prop} {l l':List (Nat × AObj)} {w:World} (h:HeapR C g R K0 (look l) w) (hl:bagL l l'):HeapR C g R K0 (look l') w:=by
 refine ⟨h.hsize,h.os,h.tape,h.output,h.frame,h.rsub,h.rlt,h.rnew,h.gfix,fun i o hi=>?_,fun i o hi=>?_,fun i o b hi hb=>?_,fun i j o o' b h1 h2 h3 h4=>?_⟩
 ·obtain ⟨o1,h1,_⟩:=bagL_look hl hi
  exact h.keys i o1 h1
 ·obtain ⟨o1,h1,h2⟩:=bagL_look hl hi
  exact (bagO_row h2).1 (h.held i o1 h1)
 ·obtain ⟨o1,h1,h2⟩:=bagL_look hl hi
  exact h.own i o1 b h1 (((bagO_row (K0:=K0) (R:=R) h2).2 b).1 hb)
 ·obtain ⟨o1,h5,h6⟩:=bagL_look hl h1
  obtain ⟨o2,h7,h8⟩:=bagL_look hl h2
  exact h.sep i j o1 o2 b h5 h7 (((bagO_row (K0:=K0) (R:=R) h6).2 b).1 h3) (((bagO_row (K0:=K0) (R:=R) h8).2 b).1 h4)
def okP {α:Type} (L:List α) (q:List α):Prop:=∃ r,(q++r).Perm L
theorem rangeP (t:Ty) (two:Bool) (rv:List t.El→List (Nat × AObj)) (L:List t.El) (fsl:Nat)
 {mA z:St} {mk mkR:List t.El→St} {pA:Prop} {f:Nat} {fs cs:List AV} {s:Spec} {all:List Nat} {objs:List AObj} {n:Nat} {slots:List (Nat × Ent)} {ks:List Nat} {rows:List t.El→List (Nat × AObj)}
 (hr:isRange c=true) (hro:E.ro=none) (hA:mkL st K [] (rv [])=some mA) (eA:subE st mA=some pA) (hF:mA.get (rfF c)=.fn f fs cs) (hFp:mA.pathOf (rfF c)=[]) (hS:S f=some s) (hraw:s.raw=true)
 (hcap:capK mA (fs++cs)=some (all,objs)) (hm:∀ p,mkL mA (remN fsl K) [] (rv p)=some (mk p)) (hmR:∀ p,renSt sh (mk p)=some (mkR p)) (hshape:∀ p,mkR p=⟨n,slots,[],ks,rows p⟩)
 (hz:renSt us (mkR L)=some z) (hck:rangeOk fs cs all objs (mk []) (mkR []) (rfP c).toList=true) (hopb:operandB (rfF c)=true)
 (hsub:Sub mA (mk [])) (hpA:pA) (hrows:∀ p q,p.Perm q→bagL (rows p) (rows q))
 (hcall:∀ J,(∀ p q O R w,p.Perm q→J p O R w→J q O R w)→∃ out j,s.f (renL (capN all) fs++(.own 0::renL (capN all) cs)) (.yp 1::.yld t two ⟨okP L,fun _=>true,J⟩ []::mapRen (capN all) objs)=some out ∧
  out.pre∧out.rows[0]?=some (.yp j)∧out.rows[j]?=some (.yld t two ⟨okP L,fun _=>true,J⟩ L))
 (hround:∀ l p x,okP L (p++[x])→OkEl t x→∃ sl,parS t two x (rfP c).toList=some sl ∧
  WP (E.inRound l) K (rfA c) ⟨n,sl++slots,[],ks,rows p⟩ (asPost (E.inRound l) K (rfB c) (yPost (fun _=>none) ks (rows (p++[x])) (p++[x]))))
 (hend:Q .normal z):WP E K c st Q :=
 rangeG t two rv (fun _=>none) (okP L) (fun J=>∀ p q O R w,p.Perm q→J p O R w→J q O R w) L fsl hr hro hA eA hF hFp hS hraw hcap hm hmR hshape hz hck hopb hsub hpA rfl (fun _ _ _=>rfl)
  (fun Cl pown l rc p q O R w hpq ⟨g,Rc,h1,h2,h3,h4,h5,h6,h7,h8⟩=>by
   have hl:=hrows p q hpq
   refine ⟨g,Rc,h1.like hl,h2,h3,fun r o ho hb=>?_,h5,fun r o b ho hb=>?_,h7,h8⟩
   ·obtain ⟨o1,h9,h10⟩:=bagL_look hl ho
    exact h4 r o1 h9 (((bagO_row (K0:=fun _=>True) (R:=R) h10).2 l).1 hb)
   ·obtain ⟨o1,h9,h10⟩:=bagL_look hl ho
    exact h6 r o1 b h9 (((bagO_row (K0:=fun _=>True) (R:=R) h10).2 b).1 hb))
  hcall hround hend
theorem asN {E:Env PG tt S} {K:List Nat} {bd:Code} {s:St} {Q:AExit→St→Prop} (k:WP E K bd s Q):asPost E K bd Q .normal s:=k
theorem yN {α:Type} {jump:List α→Option AExit} {ks:List Nat} {rows:List (Nat × AObj)} {q:List α} {s:St} {p:Prop} (e:subE s ⟨s.n,[],[],ks,rows⟩=some p) (hj:jump q=none) (hp:p):yPost jump ks rows q .normal s:=⟨hj,subE_sound e hp⟩
theorem yR {α:Type} {jump:List α→Option AExit} {ks:List Nat} {rows:List (Nat × AObj)} {q:List α} {s:St} {p:Prop} (e:subE s ⟨s.n,[],[],ks,rows⟩=some p) (hj:jump q=some .ret) (hp:p):yPost jump ks rows q .ret s:=⟨hj,subE_sound e hp⟩
end
end Go.AM
end

section
namespace Go.AM.YtbepaplaahcnkaaGreat.Fl
open Go.Proofs
set_option maxRecDepth 100000
set_option maxHeartbeats 4000000
def aftL:Int→List Int→List Int
 | b,[]=>bif decide (b≥0) then [b] else []
 | b,n::r=>bif decide (b≥0)&&decide (b < n) then b::n::aftL (-1) r else n::aftL (bif decide (b≤n) then -1 else b) r
def afterL (s:StepT):List Int:=aftL (stBk s) (stNx s)
def aft1S:Spec:=⟨true,fun args rows=>match args,rows with
 | [.own 0,.ptr 2 0],[.yp 1,.yld (.int .i64) false Y p,.box [.int .i64 rc,.sl (.int .i64) tl,.int .i64 mn,.int .i64 mx,.sl (.int .i64) nx,.int .i64 bk,.int .i64 lm]] =>
   some ⟨YGo Y p (aftL bk nx),.tup [],
    [.yp 3,.dead,.box [.int .i64 rc,.sl tInt tl,.int .i64 mn,.int .i64 mx,.sl tInt nx,.int .i64 bk,.int .i64 lm],.yld tInt false Y (cut Y.cont p (aftL bk nx)).1],true⟩
 | _,_=>none⟩
theorem aft1Ok:SpecSound Tryz.prog 191 aft1S:=by
 refine soundR (envOf sigNil) Tryz.func191 (c:=body Tryz.f191) rfl (by kernel_rfl) rfl ?_
 intro args rows out hf hpre
 split at hf <;> try (cases hf;done)
 rename_i Y p rc tl mn mx nx bk lm
 cases hf
 refine ⟨Nat.le_of_ble_eq_true rfl,initI (args:=[.own 0,.ptr 2 0]) (rows:=[.yp 1,.yld tInt false Y p,.box [.int .i64 rc,.sl tInt tl,.int .i64 mn,.int .i64 mx,.sl tInt nx,.int .i64 bk,.int .i64 lm]]) rfl ?_⟩
 obtain ⟨tot,htot⟩:∃ tot,tot=(cut Y.cont p (aftL bk nx)).1:=⟨_,rfl⟩
 rw [← htot]
 refine factBoxL (r:=100002) (j:=4) (ty:=tInt) rfl rfl (fun hxs=>?_)
 have hmx:List.length (α:=Int) nx≤9223372036854775807:=by have:=hxs.1;unfold maxLen at this;exact this
 refine renameI 100001 3000 rfl ?_
 repeat' (first|refine zN ?_|refine zE ?_|refine zP ?_|refine pD ?_|refine zQ ?_|refine zR ?_|refine zW ?_)
 refine loopI (σ:=Nat × List Int × Int) (fun s=>[(11,.int .i64 s.1),(3,.int .i64 s.2.2)]) (fun s=>[(100000,.yp 3000),(3000,.yld tInt false Y s.2.1)]) (fun s=>s.1≤List.length (α:=Int) nx∧YGo Y s.2.1 (aftL s.2.2 (List.drop (α:=Int) s.1 nx))∧tot=(cut Y.cont s.2.1 (aftL s.2.2 (List.drop (α:=Int) s.1 nx))).1) (fun s=>List.length (α:=Int) nx - s.1) (0,p,bk) rfl (fun _=>rfl) rfl ?_ ?_ ?_
 ·exact ⟨Nat.zero_le _,hpre,htot⟩
 ·repeat' (first|exact trivial|exact rfl|refine ⟨rfl,?_⟩|refine And.intro ?_ ?_)
 rintro ⟨i,q,b⟩ ⟨hi,hA,hB⟩
 dsimp only at hi hA hB ⊢
 repeat' (first|refine zN ?_|refine zE ?_|refine zP ?_|refine pD ?_|refine zQ ?_|refine zR ?_|refine zW ?_)
 refine condI rfl (fun c1=>?_) (fun c1=>?_)
 ·simp only [decide_eq_true_eq] at c1
  have hil:i < List.length (α:=Int) nx:=by omega
  have hin:((i:Int)).toNat=i:=by omega
  rw [drop_get hil] at hA hB
  unfold aftL at hA hB
  repeat' (first|refine zN ?_|refine zE ?_|refine zP ?_|refine zQ ?_|refine zW ?_)
  refine zR ?_
  repeat' (first|with_reducible refine pN ?_|refine pD ?_|fail)
  repeat with_reducible refine cN ?_
  cases hc:(decide (b≥0)&&decide (b < getI nx 0 i))
  ·rw [hc] at hA hB
   obtain ⟨hA1,hA2⟩:Y.ok (q++[getI nx 0 i])∧(Y.cont (q++[getI nx 0 i])=true→YGo Y (q++[getI nx 0 i]) (aftL (bif decide (b≤getI nx 0 i) then -1 else b) (nx.drop (i+1)))):=hA
   have hB:tot=(bif Y.cont (q++[getI nx 0 i]) then cut Y.cont (q++[getI nx 0 i]) (aftL (bif decide (b≤getI nx 0 i) then -1 else b) (nx.drop (i+1))) else (q++[getI nx 0 i],false)).1:=hB
   repeat' (first|with_reducible refine cN ?_|refine skipI rfl ?_|refine zS ?_|fail)
   refine regH [(22,false)] rfl ?_
   repeat' (first|with_reducible refine pN ?_|refine pC (by first|exact True.intro|exact rfl|(simp only [hin];exact hc)|(intros;omega)) ?_)
   repeat' (first|refine zN ?_|refine zE ?_|refine zP ?_|refine pD ?_|refine zQ ?_|refine zR ?_|refine zW ?_)
   refine condF rfl ?_
   repeat' (first|refine zN ?_|refine zE ?_|refine zP ?_|refine pD ?_|refine zQ ?_|refine zR ?_|refine zW ?_)
   refine condI rfl (fun c2=>?_) (fun c2=>?_)
   ·simp only [hin] at c2
    have c2:decide (b≤getI nx 0 i)=true:=c2
    rw [c2] at hA2 hB
    obtain ⟨q2,rfl⟩:∃ q2,q2=q:=⟨_,rfl⟩
    obtain ⟨b2,hb2⟩:∃ b2:Int,b2=-1:=⟨_,rfl⟩
    have hA2:Y.cont (q2++[getI nx 0 i])=true→YGo Y (q2++[getI nx 0 i]) (aftL b2 (nx.drop (i+1))):=by rw [hb2];exact hA2
    have hB:tot=(bif Y.cont (q2++[getI nx 0 i]) then cut Y.cont (q2++[getI nx 0 i]) (aftL b2 (nx.drop (i+1))) else (q2++[getI nx 0 i],false)).1:=by rw [hb2];exact hB
    repeat' (first|refine zN ?_|refine zE ?_|refine zP ?_|refine pD ?_|refine pC (by exact hA1) ?_|refine zQ ?_|refine zR ?_|refine zW ?_)
    refine condI rfl (fun c5=>?_) (fun c5=>?_)
    ·simp only [hin] at c5
     have c5':Y.cont (q2++[getI nx 0 i])=false:=(Bool.not_eq_true' _).mp c5
     rw [c5'] at hB
     repeat' (first|refine zN ?_|refine zE ?_|refine zP ?_|refine pD ?_|refine zQ ?_|refine zR ?_|refine zW ?_)
     refine endR rfl ?_
     repeat' (first|exact trivial|exact rfl|refine ⟨rfl,?_⟩|refine And.intro ?_ ?_)
     simp only [hin]
     exact hB
    ·simp only [hin] at c5
     have c5':Y.cont (q2++[getI nx 0 i])=true:=(Bool.not_eq_false' _).mp c5
     rw [c5'] at hB
     repeat' (first|refine zN ?_|refine zE ?_|refine zP ?_|refine pD ?_|refine zQ ?_|refine zR ?_|refine zW ?_)
     refine roundI (i+1,q2++[getI nx 0 i],b2) rfl ?_ ?_ ?_
     ·exact ⟨by show i+1≤List.length (α:=Int) nx;omega,hA2 c5',hB⟩
     ·show List.length (α:=Int) nx - (i+1) < List.length (α:=Int) nx - i
      omega
     ·repeat' (first|exact trivial|with_reducible exact rfl|refine And.intro ?_ ?_)
      all_goals (simp only [hin];first|rfl|exact hb2)
   ·simp only [hin] at c2
    have c2:decide (b≤getI nx 0 i)=false:=c2
    rw [c2] at hA2 hB
    obtain ⟨q2,rfl⟩:∃ q2,q2=q:=⟨_,rfl⟩
    obtain ⟨b2,hb2⟩:∃ b2:Int,b2=b:=⟨_,rfl⟩
    have hA2:Y.cont (q2++[getI nx 0 i])=true→YGo Y (q2++[getI nx 0 i]) (aftL b2 (nx.drop (i+1))):=by rw [hb2];exact hA2
    have hB:tot=(bif Y.cont (q2++[getI nx 0 i]) then cut Y.cont (q2++[getI nx 0 i]) (aftL b2 (nx.drop (i+1))) else (q2++[getI nx 0 i],false)).1:=by rw [hb2];exact hB
    repeat' (first|refine zN ?_|refine zE ?_|refine zP ?_|refine pD ?_|refine pC (by exact hA1) ?_|refine zQ ?_|refine zR ?_|refine zW ?_)
    refine condI rfl (fun c5=>?_) (fun c5=>?_)
    ·simp only [hin] at c5
     have c5':Y.cont (q2++[getI nx 0 i])=false:=(Bool.not_eq_true' _).mp c5
     rw [c5'] at hB
     repeat' (first|refine zN ?_|refine zE ?_|refine zP ?_|refine pD ?_|refine zQ ?_|refine zR ?_|refine zW ?_)
     refine endR rfl ?_
     repeat' (first|exact trivial|exact rfl|refine ⟨rfl,?_⟩|refine And.intro ?_ ?_)
     simp only [hin]
     exact hB
    ·simp only [hin] at c5
     have c5':Y.cont (q2++[getI nx 0 i])=true:=(Bool.not_eq_false' _).mp c5
     rw [c5'] at hB
     repeat' (first|refine zN ?_|refine zE ?_|refine zP ?_|refine pD ?_|refine zQ ?_|refine zR ?_|refine zW ?_)
     refine roundI (i+1,q2++[getI nx 0 i],b2) rfl ?_ ?_ ?_
     ·exact ⟨by show i+1≤List.length (α:=Int) nx;omega,hA2 c5',hB⟩
     ·show List.length (α:=Int) nx - (i+1) < List.length (α:=Int) nx - i
      omega
     ·repeat' (first|exact trivial|with_reducible exact rfl|refine And.intro ?_ ?_)
      all_goals (simp only [hin];first|rfl|exact hb2)
  ·rw [hc] at hA hB
   obtain ⟨hk1,hk2⟩:Y.ok (q++[b])∧(Y.cont (q++[b])=true→YGo Y (q++[b]) (getI nx 0 i::aftL (-1) (nx.drop (i+1)))):=hA
   have hB:tot=(bif Y.cont (q++[b]) then cut Y.cont (q++[b]) (getI nx 0 i::aftL (-1) (nx.drop (i+1))) else (q++[b],false)).1:=hB
   have hbn:b < getI nx 0 i:=by rw [Bool.and_eq_true] at hc;exact of_decide_eq_true hc.2
   repeat' (first|with_reducible refine cN ?_|refine skipI rfl ?_|refine zS ?_|fail)
   refine regH [(22,true)] rfl ?_
   repeat' (first|with_reducible refine pN ?_|refine pC (by first|exact True.intro|exact hk1|(intros;exact hk1)|exact rfl|(simp only [hin];exact hc)|(intros;omega)) ?_)
   repeat' (first|refine zN ?_|refine zE ?_|refine zP ?_|refine pD ?_|refine zQ ?_|refine zR ?_|refine zW ?_)
   refine condI rfl (fun c3=>?_) (fun c3=>?_)
   ·have c3':Y.cont (q++[b])=false:=(Bool.not_eq_true' _).mp c3
    rw [c3'] at hB
    repeat' (first|refine zN ?_|refine zE ?_|refine zP ?_|refine pD ?_|refine zQ ?_|refine zR ?_|refine zW ?_)
    refine endR rfl ?_
    repeat' (first|exact trivial|exact rfl|refine ⟨rfl,?_⟩|refine And.intro ?_ ?_)
    exact hB
   ·have c3':Y.cont (q++[b])=true:=(Bool.not_eq_false' _).mp c3
    rw [c3'] at hB
    have hk2:=hk2 c3'
    obtain ⟨q2,hq2⟩:∃ q2,q2=q++[b]:=⟨_,rfl⟩
    rw [← hq2] at hk2 hB
    obtain ⟨hA1,hA2⟩:Y.ok (q2++[getI nx 0 i])∧(Y.cont (q2++[getI nx 0 i])=true→YGo Y (q2++[getI nx 0 i]) (aftL (-1) (nx.drop (i+1)))):=hk2
    have hB:tot=(bif Y.cont (q2++[getI nx 0 i]) then cut Y.cont (q2++[getI nx 0 i]) (aftL (-1) (nx.drop (i+1))) else (q2++[getI nx 0 i],false)).1:=hB
    obtain ⟨b2,hb2⟩:∃ b2:Int,b2=-1:=⟨_,rfl⟩
    rw [← hb2] at hA2 hB
    repeat' (first|refine zN ?_|refine zE ?_|refine zP ?_|refine pD ?_|refine zQ ?_|refine zR ?_|refine zW ?_)
    refine condI rfl (fun _=>?_) (fun c4=>?_)
    ·rw [← hq2]
     repeat' (first|refine zN ?_|refine zE ?_|refine zP ?_|refine pD ?_|refine pC (by exact hA1) ?_|refine zQ ?_|refine zR ?_|refine zW ?_)
     refine condI rfl (fun c5=>?_) (fun c5=>?_)
     ·simp only [hin] at c5
      have c5':Y.cont (q2++[getI nx 0 i])=false:=(Bool.not_eq_true' _).mp c5
      rw [c5'] at hB
      repeat' (first|refine zN ?_|refine zE ?_|refine zP ?_|refine pD ?_|refine zQ ?_|refine zR ?_|refine zW ?_)
      refine endR rfl ?_
      repeat' (first|exact trivial|exact rfl|refine ⟨rfl,?_⟩|refine And.intro ?_ ?_)
      simp only [hin]
      exact hB
     ·simp only [hin] at c5
      have c5':Y.cont (q2++[getI nx 0 i])=true:=(Bool.not_eq_false' _).mp c5
      rw [c5'] at hB
      repeat' (first|refine zN ?_|refine zE ?_|refine zP ?_|refine pD ?_|refine zQ ?_|refine zR ?_|refine zW ?_)
      refine roundI (i+1,q2++[getI nx 0 i],b2) rfl ?_ ?_ ?_
      ·exact ⟨by show i+1≤List.length (α:=Int) nx;omega,hA2 c5',hB⟩
      ·show List.length (α:=Int) nx - (i+1) < List.length (α:=Int) nx - i
       omega
      ·repeat' (first|exact trivial|with_reducible exact rfl|refine And.intro ?_ ?_)
       all_goals (simp only [hin];first|rfl|exact hb2)
    ·exfalso
     simp only [hin] at c4
     have:=of_decide_eq_false c4
     exact this (Int.le_of_lt hbn)
 ·simp only [decide_eq_false_iff_not] at c1
  rw [List.drop_eq_nil_of_le (show List.length (α:=Int) nx≤i by omega)] at hA hB
  unfold aftL at hA hB
  repeat' (first|refine zN ?_|refine zE ?_|refine zP ?_|refine pD ?_|refine zQ ?_|refine zR ?_|refine zW ?_)
  refine condI rfl (fun c2=>?_) (fun c2=>?_)
  ·have c2:decide (b≥0)=true:=c2
   rw [c2] at hA hB
   obtain ⟨hk1,hk2⟩:Y.ok (q++[b])∧(Y.cont (q++[b])=true→True):=hA
   have hB:tot=(bif Y.cont (q++[b]) then (q++[b],true) else (q++[b],false)).1:=hB
   repeat' (first|refine zN ?_|refine zE ?_|refine zP ?_|refine pD ?_|refine pC (by exact hk1) ?_|refine zQ ?_|refine zR ?_|refine zW ?_)
   refine endN rfl ?_
   repeat' (first|exact trivial|with_reducible exact rfl|refine And.intro ?_ ?_)
   rw [hB]
   cases Y.cont (q++[b]) <;> rfl
  ·have c2:decide (b≥0)=false:=c2
   rw [c2] at hA hB
   repeat' (first|refine zN ?_|refine zE ?_|refine zP ?_|refine pD ?_|refine zQ ?_|refine zR ?_|refine zW ?_)
   refine endN rfl ?_
   repeat' (first|exact trivial|with_reducible exact rfl|refine And.intro ?_ ?_)
   exact hB
def aftS:Spec:=⟨true,fun args rows=>match args,rows with
 | [.agg [.int .i64 rc,.sl (.int .i64) tl,.int .i64 mn,.int .i64 mx,.sl (.int .i64) nx,.int .i64 bk,.int .i64 lm]],[] =>
   some ⟨True,.fn 191 [] [.ptr 0 0],[.box [.int .i64 rc,.sl tInt tl,.int .i64 mn,.int .i64 mx,.sl tInt nx,.int .i64 bk,.int .i64 lm]],true⟩
 | _,_=>none⟩
theorem aftOk:SpecSound Tryz.prog 181 aftS:=by
 refine soundR (envOf sigNil) Tryz.func181 (c:=body Tryz.f181) rfl (by kernel_rfl) rfl ?_
 intro args rows out hf hpre
 split at hf <;> try (cases hf;done)
 rename_i rc tl mn mx nx bk lm
 cases hf
 refine ⟨Nat.le_of_ble_eq_true rfl,initI (args:=[.agg [.int .i64 rc,.sl tInt tl,.int .i64 mn,.int .i64 mx,.sl tInt nx,.int .i64 bk,.int .i64 lm]]) (rows:=[]) rfl ?_⟩
 repeat' (first|refine zN ?_|refine zE ?_|refine zP ?_|refine pD ?_|refine zQ ?_|refine zR ?_|refine zW ?_)
 refine endR rfl ?_
 repeat' (first|exact trivial|exact rfl|refine ⟨rfl,?_⟩|refine And.intro ?_ ?_)
end Go.AM.YtbepaplaahcnkaaGreat.Fl
end
