/- AmRange3, ReB, ReC. -/
import Derived.Test.YtmohhhbgcehnpaaGreatPm24
import Derived.Test.YtmohhhbgcehnpaaGreatPm23

section
set_option linter.all false
namespace Go.AM
def isRange:Code→Bool
 | .rangeFunc _ _ _ _=>true
 | _=>false
def rfF:Code→Operand
 | .rangeFunc f _ _ _=>f
 | _=>.const (.bool false)
def rfP:Code→Array Tmp
 | .rangeFunc _ p _ _=>p
 | _=>#[]
def rfA:Code→Code
 | .rangeFunc _ _ a _=>a
 | c=>c
def rfB:Code→Code
 | .rangeFunc _ _ _ b=>b
 | c=>c
def sh (k:Nat):Nat:=match Nat.blt k 50000 with
 | true=>k+200000
 | false=>k
def us (k:Nat):Nat:=match Nat.blt k 200000 with
 | true=>k
 | false=>k - 200000
theorem us_sh {k:Nat} (h:k < 200000):us (sh k)=k:=by
 unfold sh
 cases h1:Nat.blt k 50000 with
 | true =>
   simp only
   unfold us
   rw [show Nat.blt (k+200000) 200000=false by rw [Bool.eq_false_iff];intro h;have:=Nat.le_of_ble_eq_true h;omega]
   simp
 | false =>
   simp only
   unfold us
   rw [show Nat.blt k 200000=true by exact Nat.ble_eq_true_of_le h]
theorem sh_big {k:Nat} (h:50000≤k):sh k=k:=by
 unfold sh
 rw [show Nat.blt k 50000=false by rw [Bool.eq_false_iff];intro h;have:=Nat.le_of_ble_eq_true h;omega]
def renE (f:Nat→Nat):List (Nat × Ent)→List (Nat × Ent)
 | []=>[]
 | (t,⟨p,v⟩)::r=>(t,⟨p,v.ren f⟩)::renE f r
def renSt (f:Nat→Nat) (st:St):Option St:=match st with
 | ⟨n,slots,_,ks,rows⟩=>forceE (renE f slots) fun slots=>forceL (mapN f ks) fun ks=>forceR (renR f rows) fun rows=>some ⟨n,slots,[],ks,rows⟩
theorem renSt_eq {f:Nat→Nat} {st m:St} (h:renSt f st=some m):m=⟨st.n,renE f st.slots,[],mapN f st.ks,renR f st.rows⟩:=by
 obtain ⟨n,slots,gt,ks,rows⟩:=st
 unfold renSt at h
 simp only at h
 rw [forceE_eq,forceL_eq,forceR_eq] at h
 cases h
 rfl
theorem look_renE {f:Nat→Nat}:∀ {l:List (Nat × Ent)} {t:Nat} {e:Ent},look (renE f l) t=some e→∃ e',look l t=some e'∧e=⟨e'.path,e'.av.ren f⟩
 | [],_,_,h=>by simp [renE,look] at h
 | (u,⟨p,v⟩)::r,t,e,h=>by
   simp only [renE,look_cons] at h
   by_cases hu:u=t
   ·simp [hu] at h
    exact ⟨⟨p,v⟩,by simp [look_cons,hu],h.symm⟩
   ·simp [hu] at h
    obtain ⟨e',h1,h2⟩:=look_renE h
    exact ⟨e',by rw [look_cons,if_neg hu];exact h1,h2⟩
def capK (st:St) (cs:List AV):Option (List Nat × List AObj):=match (keysLK cs [] fun l=>(grow 60 l l).bind fun all=>(askAll all).bind fun objs=>.ret (all,objs)).run (look st.rows) [] with
 | some (x,_)=>some x
 | none=>none
theorem capK_spec {st:St} {cs:List AV} {all:List Nat} {objs:List AObj} (h:capK st cs=some (all,objs)):∃ li rd,(askAll all).run (look st.rows) li=some (objs,rd):=by
 unfold capK at h
 obtain ⟨ls,hls⟩:=keysLK_ex cs []
 rw [hls] at h
 split at h <;> try (cases h;done)
 rename_i x rd hx
 cases h
 rw [run_bind] at hx
 split at hx <;> try (cases hx;done)
 rename_i all' l' _
 rw [run_bind] at hx
 split at hx <;> try (cases hx;done)
 rename_i objs' l'' hask
 have:=ret_run hx
 cases this
 exact ⟨_,_,hask⟩
def remN (t:Nat):List Nat→List Nat
 | []=>[]
 | k::r=>match Nat.beq k t with
   | true=>remN t r
   | false=>k::remN t r
def allBelow (n:Nat):List Nat→Bool
 | []=>true
 | k::r=>match Nat.blt k n with
   | true=>allBelow n r
   | false=>false
theorem allBelow_mem {n:Nat}:∀ {l:List Nat} {k:Nat},allBelow n l=true→mem l k=true→k < n
 | [],_,_,h=>by simp [mem] at h
 | x::r,k,h,hm=>by
   simp only [allBelow] at h
   split at h <;> try (cases h;done)
   rename_i hx
   rw [mem_cons] at hm
   simp only [Bool.or_eq_true,decide_eq_true_eq] at hm
   rcases hm with rfl|hm
   ·simpa using hx
   ·exact allBelow_mem h hm
theorem disj_mem:∀ {a b:List Nat} {k:Nat},disj a b=true→mem a k=true→mem b k=false
 | [],_,_,_,h=>by simp [mem] at h
 | x::r,b,k,h,hm=>by
   simp only [disj] at h
   split at h <;> try (cases h;done)
   rename_i hx
   rw [mem_cons] at hm
   simp only [Bool.or_eq_true,decide_eq_true_eq] at hm
   rcases hm with rfl|hm
   ·exact hx
   ·exact disj_mem h hm
def rangeOk (fs cs:List AV) (all:List Nat) (objs:List AObj) (m mR:St) (ps:List Nat):Bool :=
 nodupK all&&(withinL (mem all) fs&&(withinL (mem all) cs&&(withinOs (mem all) objs&&(disj all m.ks&&(allBelow 200000 m.ks&&(nodupK mR.ks&&(withinSlots (fun k=>Nat.ble 100000 k) mR.slots&&allBelow m.n ps)))))))
def capN (all:List Nat) (k:Nat):Nat:=toLoc all k+2
section
variable {tt:TT} {S:Nat→Option Spec} {E:Env PG tt S} {K:List Nat} {c:Code} {st:St} {Q:AExit→St→Prop}
theorem allBelow_list {n:Nat} {l:List Nat} (h:allBelow n l=true):∀ q∈l,q < n:=fun q hq=>allBelow_mem h (by rw [mem_iff];exact hq)
set_option maxHeartbeats 2000000 in
theorem rangeI (t:Ty) (two:Bool) (rv:List t.El→List (Nat × AObj)) (jump:List t.El→Option AExit) (L:List t.El) (fsl:Nat)
 {mA z:St} {mk mkR:List t.El→St} {pA:Prop} {f:Nat} {fs cs:List AV} {s:Spec} {all:List Nat} {objs:List AObj} {n:Nat} {slots:List (Nat × Ent)} {ks:List Nat} {rows:List t.El→List (Nat × AObj)}
 (hr:isRange c=true) (hro:E.ro=none) (hA:mkL st K [] (rv [])=some mA) (eA:subE st mA=some pA) (hF:mA.get (rfF c)=.fn f fs cs) (hFp:mA.pathOf (rfF c)=[]) (hS:S f=some s) (hraw:s.raw=true)
 (hcap:capK mA (fs++cs)=some (all,objs)) (hm:∀ p,mkL mA (remN fsl K) [] (rv p)=some (mk p)) (hmR:∀ p,renSt sh (mk p)=some (mkR p)) (hshape:∀ p,mkR p=⟨n,slots,[],ks,rows p⟩)
 (hz:renSt us (mkR (cut (contOf jump) [] L).1)=some z) (hck:rangeOk fs cs all objs (mk []) (mkR []) (rfP c).toList=true) (hopb:operandB (rfF c)=true)
 (hsub:Sub mA (mk [])) (hpA:pA) (hj:jump []=none)
 (hcall:∀ J,∃ out j,s.f (renL (capN all) fs++(.own 0::renL (capN all) cs)) (.yp 1::.yld t two ⟨okOf L jump,contOf jump,J⟩ []::mapRen (capN all) objs)=some out ∧
  (YGo ⟨okOf L jump,contOf jump,J⟩ [] L→out.pre)∧out.rows[0]?=some (.yp j)∧out.rows[j]?=some (.yld t two ⟨okOf L jump,contOf jump,J⟩ (cut (contOf jump) [] L).1))
 (hround:∀ l p x,p++[x] <+: L→jump p=none→OkEl t x→∃ sl,parS t two x (rfP c).toList=some sl ∧
  WP (E.inRound l) K (rfA c) ⟨n,sl++slots,[],ks,rows p⟩ (asPost (E.inRound l) K (rfB c) (yPost jump ks (rows (p++[x])) (p++[x]))))
 (hend:match jump (cut (contOf jump) [] L).1 with
  | none=>Q .normal z
  | some e=>Q e z):WP E K c st Q:=by
 cases c <;> simp [isRange] at hr
 rename_i gop ps asg bd
 simp only [rfF,rfP,rfA,rfB] at hF hFp hround hck hopb
 intro hc C g0 R a w Z hrel0 hq
 simp only [codeOk,Bool.and_eq_true] at hc
 obtain ⟨g,hrelA0⟩:=subA_sound (subE_sound eA hpA) hrel0
 simp only [rangeOk,Bool.and_eq_true] at hck
 obtain ⟨ck1,ck2,ck3,ck4,ck5,ck6,ck7,ck8,ck9⟩:=hck
 obtain ⟨li,rd,hask⟩:=capK_spec hcap
 obtain ⟨hlen,hobj⟩:=askAll_spec hask
 have hgf:=get_rel hrelA0 (operandB_spec hopb) (by rw [hFp];exact fun t x h=>by simp at h)
 rw [hF] at hgf
 generalize hef:a.eval gop=vf at hgf
 cases hgf with
 | fn hfs hcs =>
 rename_i vs us'
 obtain ⟨hsound,hcallf⟩:=E.hS f s hS
 rw [hro]
 refine wpIn_rangeFunc ?_
 intro fn _
 obtain ⟨D,hD⟩:∃ D,D=w.heap.size:=⟨_,rfl⟩
 obtain ⟨l,hl⟩:∃ l,l=w.heap.size+1:=⟨_,rfl⟩
 obtain ⟨w1,hw1⟩:∃ w1,w1=(w.alloc (.deferred (some []))).alloc (.loop (recOf fn a.tmps ps asg bd w.heap.size none)):=⟨_,rfl⟩
 have hold:∀ k,k < w.heap.size→w1.heap[k]?=w.heap[k]?:=fun k hk=>by rw [hw1];exact (Go.RowKit.Below.heap_alloc _ _ k (by simp;omega)).trans (Go.RowKit.Below.heap_alloc _ _ k hk)
 have hsz1:w1.heap.size=w.heap.size+2:=by rw [hw1];simp
 have hL1:w1.heap[l]?=some (.loop (recOf fn a.tmps ps asg bd D none)):=by
  rw [hw1,hl,hD];have:=World.alloc_heap_new (w.alloc (.deferred (some []))) (.loop (recOf fn a.tmps ps asg bd w.heap.size none));rwa [World.size_alloc] at this
 have hD1:w1.heap[D]?=some (.deferred (some [])):=by
  rw [hw1,hD];exact (Go.RowKit.Below.heap_alloc _ _ _ (by simp)).trans (World.alloc_heap_new w _)
 have hos:w1.os=w.os∧w1.tape=w.tape∧w1.output=w.output:=by rw [hw1];exact ⟨rfl,rfl,rfl⟩
 have hrelA:Rel C g R mA a w1:=hrelA0.world hos.1 hos.2.1 hos.2.2 (by omega) hold
 have hhw:=hrelA0.heap
 have hOwnA:∀ r o b,look mA.rows r=some o→Own g w1 r o b→b < w.heap.size:=fun r o b ho hb=>by
  refine Own_lt (hrelA0.heap.held r o ho) ((Own_mono rfl (fun b hb=>hold b ?_) b).1 hb)
  exact Own_lt (hrelA0.heap.held r o ho) hb
 have hrelM:Rel C g R (mk []) a w1:=sub_sound hsub hrelA
 have hR0:=renSt_eq (hmR [])
 rw [hshape []] at hR0
 injection hR0 with e1 e2 e3 e4 e5
 have ck7':nodupK (mapN sh (mk []).ks)=true:=by rw [← e4];rw [hshape []] at ck7;exact ck7
 obtain ⟨g1,hg1,hh1⟩:=hrelM.heap.rename sh ck7'
 rw [← e4,← e5] at hh1
 obtain ⟨pown,hpown⟩:∃ pown:Nat→Prop,pown=fun b=>∃ r o,mem all r=true∧look mA.rows r=some o∧Own g w1 r o b:=⟨_,rfl⟩
 have hpo:∀ b,pown b→∃ r o,mem all r=true∧look mA.rows r=some o∧Own g w1 r o b:=fun b h=>by rw [hpown] at h;exact h
 obtain ⟨Cl,hCl⟩:∃ Cl:Ctx,Cl=⟨w1,fun b=>b=l∨pown b∨∃ r o,look (rows []) r=some o∧Own g1 w1 r o b,R,g1,[]⟩:=⟨_,rfl⟩
 have hCw:Cl.w0=w1:=by rw [hCl]
 have hCR:Cl.R0=R:=by rw [hCl]
 have hCg:Cl.g0=g1:=by rw [hCl]
 have hCp:∀ b,Cl.pas b↔(b=l∨pown b∨∃ r o,look (rows []) r=some o∧Own g1 w1 r o b):=fun b=>by rw [hCl]
 have hhC:HeapR Cl g1 R (fun r=>mem ks r=true) (look (rows [])) w1:=hh1.root hCw hCR (fun r o b ho hb=>(hCp b).2 (.inr (.inr ⟨r,o,ho,hb⟩))) (fun r _ _=>by rw [hCg])
 have hOwn1:∀ r o b,look (rows []) r=some o→Own g1 w1 r o b→∃ r' o',look (mk []).rows r'=some o'∧Own g w1 r' o' b:=fun r o b ho hb=>by
  rw [e5] at ho
  obtain ⟨r',x,h1,rfl,rfl⟩:=look_renR ho
  rw [Own_ren (hg1 r' (hrelM.heap.keys r' x h1))] at hb
  exact ⟨r',x,h1,hb⟩
 have hlow:∀ r o b,look (rows []) r=some o→Own g1 w1 r o b→b < w.heap.size:=fun r o b ho hb=>by
  obtain ⟨r',o',h1,h2⟩:=hOwn1 r o b ho hb
  exact hOwnA r' o' b (subRows_look hsub.rows h1) h2
 have hplow:∀ b,pown b→b < w.heap.size:=fun b hb=>by
  obtain ⟨r,o,_,h1,h2⟩:=hpo b hb
  exact hOwnA r o b h1 h2
 have hRlow:∀ b,R b→b < w.heap.size:=fun b hb=>hrelA0.heap.rlt b hb
 have hl1:l < w1.heap.size:=by omega
 have hpR:∀ b,pown b→¬ R b:=fun b hb=>by
  obtain ⟨r,o,_,h1,h2⟩:=hpo b hb
  exact (hrelA.heap.own r o b h1 h2).1
 have hRp:∀ b,Cl.R0 b→b < Cl.w0.heap.size∧¬ Cl.pas b:=fun b hb=>by
  rw [hCR] at hb
  have hlt:=hRlow b hb
  refine ⟨by rw [hCw];omega,fun hp=>?_⟩
  rcases (hCp b).1 hp with h|h|⟨r,o,h1,h2⟩
  ·omega
  ·exact hpR b h hb
  ·exact (hhC.own r o b h1 h2).1 hb
 have hCC:∀ b,Cl.pas b→C.w0.heap.size≤b∨C.pas b:=fun b hp=>by
  rcases (hCp b).1 hp with h|h|⟨r,o,h1,h2⟩
  ·have:=hrelA0.heap.hsize;exact .inl (by omega)
  ·obtain ⟨r,o,_,h1,h2⟩:=hpo b h
   exact (hrelA.heap.own r o b h1 h2).2
  ·obtain ⟨r',o',h3,h4⟩:=hOwn1 r o b h1 h2
   exact (hrelM.heap.own r' o' b h3 h4).2
 have hslot0:∀ te e,look slots te=some e→e.path=[]∧AV.within (fun k=>Nat.ble 100000 k) e.av=true∧∃ v,a.tmps[te]?=some v∧RelV Cl.g0 (fun r=>mem ks r=true) Cl.R0 Cl.w0 e.av v:=fun te e he=>by
  have hin:AV.within (fun k=>Nat.ble 100000 k) e.av=true:=withinSlots_look (l:=slots) (by rw [hshape []] at ck8;exact ck8) he
  rw [e2] at he
  obtain ⟨e',h1,rfl⟩:=look_renE he
  have hgt:e'.path=[]:=by
   cases hp:e'.path with
   | nil=>rfl
   | cons y r =>
     obtain ⟨u,b⟩:=y
     have:=hrelM.gts te e' h1 u b (by rw [hp];simp)
     rw [hsub.gt] at this
     simp [mem] at this
  obtain ⟨v,h2,h3⟩:=(hrelM.slots te e' h1).1 (by rw [hgt];exact fun t x h=>by simp at h)
  refine ⟨hgt,hin,v,h2,?_⟩
  rw [hCg,hCR,hCw]
  refine RelV_ren (fun r hr=>⟨?_,hg1 r hr⟩) h3
  rw [e4]
  exact mem_mapN.2 ⟨r,hr,rfl⟩
 have hn:a.tmps.size=n:=by rw [e1];exact hrelM.size
 have hlaw:=yld_law (two:=two) E K (ps:=ps) (L:=L) (jump:=jump) (rows:=rows) (ks:=ks) (slots:=slots) (Cl:=Cl) (pown:=pown) (l:=l) (D:=D) (fn:=fn) (T:=a.tmps) hc.1 hc.2 (hround l) hn (fun q hq=>by rw [e1];exact allBelow_list ck9 q hq) hslot0
  (by rw [hCw];exact hl1) (by rw [hCR];intro h;have:=hRlow l h;omega) (fun h=>by have:=hplow l h;omega) ((hCp l).2 (.inl rfl)) (fun b hb=>(hCp b).2 (.inr (.inl hb))) hRp
 obtain ⟨J,hJ⟩:∃ J,J=JOf Cl pown l (recOf fn a.tmps ps asg bd D) ks rows jump:=⟨_,rfl⟩
 rw [← hJ] at hlaw
 obtain ⟨O0,hO0⟩:∃ O0:Nat→Prop,O0=fun b=>b < w1.heap.size∧¬ R b∧¬ pown b:=⟨_,rfl⟩
 have hOo:∀ b,O0 b↔b < w1.heap.size∧¬ R b∧¬ pown b:=fun b=>by rw [hO0]
 have hJ0:J [] O0 R w1:=by
  rw [hJ]
  refine ⟨g1,R,hhC,by rw [hj];exact hL1,fun h=>(by have:=hRlow l h;omega),fun r o ho hb=>(by have:=hlow r o l ho hb;omega),fun b hb=>.inr hb,fun r o b ho hb=>?_,fun b h1 h2 h3=>?_,fun b hb=>((hOo b).1 hb).1⟩
  ·refine (hOo b).2 ⟨by have:=hlow r o b ho hb;omega,(hhC.own r o b ho hb).1,fun hp=>?_⟩
   obtain ⟨r',o',h1,h2⟩:=hOwn1 r o b ho hb
   obtain ⟨q,y,h3,h4,h5⟩:=hpo b hp
   have h6:=subRows_look hsub.rows h1
   have h7:=hrelA.heap.sep r' q o' y b h6 h4 h2 h5
   subst h7
   have h8:=hrelM.heap.keys r' o' h1
   have h9:=disj_mem ck5 h3
   rw [h8] at h9
   cases h9
  ·rw [hCw] at h1
   rw [hCR] at h2
   exact (hOo b).2 ⟨h1,h2,h3⟩
 obtain ⟨vO,hvO⟩:=VHas_of O0 w1.heap.size (fun b hb=>((hOo b).1 hb).1)
 have hvOe:VHas vO=O0:=funext fun b=>propext (hvO b)
 obtain ⟨gi,hgi⟩:∃ gi:Nat→Gh,gi=fun i=>match i with
  | 0=>⟨0,.func (.yield l) #[] #[]⟩
  | 1=>⟨l,vO⟩
  | i+2=>g (all.getD i 0):=⟨_,rfl⟩
 have hgi0:gi 0=⟨0,.func (.yield l) #[] #[]⟩:=by rw [hgi]
 have hgi1:gi 1=⟨l,vO⟩:=by rw [hgi]
 have hgi2:∀ i r,all[i]?=some r→gi (i+2)=g r:=fun i r h=>by rw [hgi];simp [List.getD,h]
 obtain ⟨Y,hY⟩:∃ Y:YD t,Y=⟨okOf L jump,contOf jump,J⟩:=⟨_,rfl⟩
 obtain ⟨out,j,hf,hpre,ho0,hoj⟩:=hcall J
 rw [← hY] at hf hpre hoj hlaw
 have hYc:Y.cont=contOf jump:=by rw [hY]
 have hYJ:Y.J=J:=by rw [hY]
 obtain ⟨rws,hrws⟩:∃ rws,rws=AObj.yp 1::AObj.yld t two Y []::mapRen (capN all) objs:=⟨_,rfl⟩
 rw [← hrws] at hf
 have hrlen:rws.length=all.length+2:=by rw [hrws];simp [mapRen_length,hlen]
 have hrw:∀ i o,rws[i]?=some o→(i=0∧o=.yp 1)∨(i=1∧o=.yld t two Y [])∨∃ k r y,i=k+2∧all[k]?=some r∧look mA.rows r=some y∧objs[k]?=some y∧o=y.ren (capN all):=fun i o h=>by
  rw [hrws] at h
  match i,h with
  | 0,h=>exact .inl ⟨rfl,by simpa using h.symm⟩
  | 1,h=>exact .inr (.inl ⟨rfl,by simpa using h.symm⟩)
  | k+2,h =>
    simp only [List.getElem?_cons_succ] at h
    rw [mapRen_get] at h
    cases hy:objs[k]? with
    | none=>rw [hy] at h;cases h
    | some y =>
      rw [hy] at h
      simp at h
      have hk:k < all.length:=by rw [← hlen];exact (List.getElem?_eq_some_iff.1 hy).1
      exact .inr (.inr ⟨k,all[k],y,rfl,List.getElem?_eq_getElem hk,hobj k _ y (List.getElem?_eq_getElem hk) hy,hy,h.symm⟩)
 have hren:∀ r,(mem all r=true∧mem mA.ks r=true)→locK rws (capN all r)∧gi (capN all r)=g r:=fun r ⟨h1,_⟩=>by
  obtain ⟨h2,h3⟩:=mem_get h1
  refine ⟨?_,hgi2 _ _ h2⟩
  unfold locK capN
  omega
 have hgl:∀ i o,rws[i]?=some o→∀ b,Own gi w1 i o b→(i=1∧O0 b)∨∃ k r y,i=k+2∧all[k]?=some r∧look mA.rows r=some y∧Own g w1 r y b:=fun i o h b hb=>by
  rcases hrw i o h with ⟨rfl,rfl⟩|⟨rfl,rfl⟩|⟨k,r,y,rfl,h1,h2,h3,rfl⟩
  ·simp [Own] at hb
  ·simp only [Own,hgi1] at hb
   exact .inl ⟨rfl,(hvO b).1 hb⟩
  ·rw [Own_ren (hgi2 k r h1)] at hb
   exact .inr ⟨k,r,y,rfl,h1,h2,hb⟩
 have hargs:RelL gi (locK rws) R w1 (renL (capN all) fs++(.own 0::renL (capN all) cs)) (vs++(.func (.yield l) #[] #[]::us')):=by
  have hw1c:∀ ad:Addr,R ad.block→w1.cell? ad=w.cell? ad:=fun ad had=>cell_of_heap (hold _ (hRlow _ had))
  refine RelL_append (RelL_ren hren (RelL_within ck2 (RelL_mono (fun _ _=>rfl) (fun _ h=>h) (fun _ h=>h) hw1c hfs))) (.cons ?_ (RelL_ren hren (RelL_within ck3 (RelL_mono (fun _ _=>rfl) (fun _ h=>h) (fun _ h=>h) hw1c hcs))))
  have h0:locK rws 0:=by unfold locK;omega
  have:=RelV.own (g:=gi) (K:=locK rws) (R:=R) (w:=w1) (r:=0) h0 (by rw [hgi0];rfl)
  rwa [hgi0] at this
 have hspec:=hsound _ rws out hf (hpre (by rw [hY];exact go_of J (by simp) hj)) (fun h=>by rw [hraw] at h;cases h) w1 gi R (vs++(.func (.yield l) #[] #[]::us')) (fun b hb=>by have:=hRlow b hb;omega)
  (fun i o h=>by
   rcases hrw i o h with ⟨rfl,rfl⟩|⟨rfl,rfl⟩|⟨k,r,y,rfl,h1,h2,h3,rfl⟩
   ·exact ⟨by show 1 < rws.length;omega,by rw [hgi0,hgi1]⟩
   ·show YLaw two Y (gi 1).b∧Y.J [] (VHas (gi 1).v) R w1
    rw [hgi1,hvOe,hYJ]
    exact ⟨hlaw,hJ0⟩
   ·exact RowH_ren hren (hgi2 k r h1) (RowH_within (withinOs_get ck4 h3) (hrelA.heap.held r y h2)))
  (fun i o b h hb=>by
   rcases hgl i o h b hb with ⟨_,h1⟩|⟨k,r,y,_,_,h2,h3⟩
   ·exact ((hOo b).1 h1).2.1
   ·exact (hrelA.heap.own r y b h2 h3).1)
  (fun i i' o o' b h h' hb hb'=>by
   have hp:∀ k r y,all[k]?=some r→look mA.rows r=some y→Own g w1 r y b→pown b:=fun k r y h1 h2 h3=>by rw [hpown];exact ⟨r,y,get_mem h1,h2,h3⟩
   rcases hgl i o h b hb with ⟨e,h1⟩|⟨k,r,y,e,h2,h3,h4⟩
   ·rcases hgl i' o' h' b hb' with ⟨e',_⟩|⟨k',r',y',e',h5,h6,h7⟩
    ·omega
    ·exact absurd (hp k' r' y' h5 h6 h7) ((hOo b).1 h1).2.2
   ·rcases hgl i' o' h' b hb' with ⟨e',h1⟩|⟨k',r',y',e',h5,h6,h7⟩
    ·exact absurd (hp k r y h2 h3 h4) ((hOo b).1 h1).2.2
    ·have:=hrelA.heap.sep r r' y y' b h3 h6 h4 h7
     subst this
     have e6:=nodupK_get ck1 h2
     have e7:=nodupK_get ck1 h5
     omega)
  hargs
 refine ⟨l,[markD D],w1,{ target:=.fn (.func f) us'.toArray,args:=vs.toArray++#[.func (.yield l) #[] #[]] },w1,f,(vs++(.func (.yield l) #[] #[]::us')).toArray,w1,?_,?_,fun _ _=>trivial,?_,fun h=>absurd h (by simp [Fence.wide]),callsFR (hspec.mono ?_)⟩
 ·rw [hw1,hl,hD];exact run_enterLoop_outer _ _ _ _ _
 ·have hy:a.eval (.const (.func (.yield l) #[] #[]))=.func (.yield l) #[] #[]:=rfl
  simp only [resolve,rangeCall,hef,Deferred.ofValue,Sem.run_pure,List.map_toArray,List.map_cons,List.map_nil,hy]
 ·simp only [invoke,hcallf]
  congr 2
  apply Array.ext'
  simp
 ·rintro e w' ⟨v,g',R',rfl,hh,hgp,hlr,_,_⟩
  rw [hrlen] at hgp hlr
  have h0:=hh.held 0 _ ho0
  obtain ⟨hKj,hgv⟩:=h0
  rw [hgp 0 (by omega),hgi0] at hgv
  have hlj:(g' j).b=l:=by
   simp only [Value.func.injEq,Fn.yield.injEq] at hgv
   exact hgv.1.symm
  obtain ⟨_,hJf⟩:=hh.held j _ hoj
  rw [hYJ,hJ] at hJf
  obtain ⟨gJ,Rc,k1,k2,k3,k4,k5,k6,k7,k8⟩:=hJf
  obtain ⟨pf,hpf⟩:∃ pf,pf=(cut (contOf jump) [] L).1:=⟨_,rfl⟩
  rw [← hpf] at hz hend k1 k2 k4 k6
  have hlw:l < w'.heap.size:=by have:=k1.hsize;rw [hCw] at this;omega
  refine ⟨_,_,run_endLoop k2 (by cases jump pf <;> simp [recOf]),?_⟩
  obtain ⟨w4,hw4⟩:∃ w4,w4=w'.putObj l (.loop { recOf fn a.tmps ps asg bd D (jump pf) with state:=.exhausted }):=⟨_,rfl⟩
  rw [← hw4]
  have hh4:HeapR Cl gJ Rc (fun r=>mem ks r=true) (look (rows pf)) w4:=by rw [hw4];exact k1.putFree k3 k4 (fun _=>(hCp l).2 (.inl rfl))
  have hz':=renSt_eq hz
  rw [hshape pf] at hz'
  dsimp only at hz'
  have ck6':∀ k,mem (mk []).ks k=true→k < 200000:=fun k hk=>allBelow_mem ck6 hk
  have hnz:nodupK (mapN us ks)=true:=by
   have:∀ l:List Nat,(∀ k,mem l k=true→k < 200000)→mapN us (mapN sh l)=l:=fun l=>by
    induction l with
    | nil=>intro _;rfl
    | cons x l ih =>
      intro h
      simp only [mapN]
      rw [us_sh (h x (by simp [mem_cons])),ih (fun k hk=>h k (by rw [mem_cons,hk];simp))]
   rw [e4,this _ ck6']
   have hn2:∀ l:List Nat,nodupK (mapN sh l)=true→nodupK l=true:=fun l=>by
    induction l with
    | nil=>intro _;rfl
    | cons x l ih =>
      intro h
      simp only [mapN,nodupK] at h ⊢
      split at h <;> try (cases h;done)
      rename_i hx
      have:mem l x=false:=by
       cases hm:mem l x with
       | false=>rfl
       | true=>rw [mem_mapN.2 ⟨x,hm,rfl⟩] at hx;cases hx
      rw [this]
      exact ih h
   exact hn2 _ ck7'
  obtain ⟨g2,hg2,hh5⟩:=hh4.rename us hnz
  have hzks:∀ r,mem (mapN us ks) r=true→∃ k,mem (mk []).ks k=true∧r=k∧mem ks (sh k)=true∧g2 k=gJ (sh k):=fun r hr=>by
   obtain ⟨q,h1,h2⟩:=mem_mapN.1 hr
   have h1':=h1
   rw [e4] at h1'
   obtain ⟨k,h3,h4⟩:=mem_mapN.1 h1'
   have hk:=us_sh (ck6' k h3)
   subst h4
   refine ⟨k,h3,by rw [← h2,hk],h1,?_⟩
   have:=hg2 (sh k) h1
   rwa [hk] at this
  have hh6:HeapR C g2 Rc (fun r=>mem z.ks r=true) (look z.rows) w4:=by
   rw [hz']
   refine hrelM.heap.unroot hh5 hCw hCR hCC (fun r hr hk=>?_)
   obtain ⟨k,h1,rfl,h2,h3⟩:=hzks r hk
   have hs:sh r=r:=sh_big (by omega)
   rw [hs] at h2 h3
   rw [h3,hh4.gfix r hr h2,hCg]
   have h4:=hg1 r h1
   rw [hs] at h4
   rw [h4]
   exact hrelM.heap.gfix r hr h1
  obtain ⟨C',hC'⟩:∃ C':Ctx,C'=⟨w4,fun b=>∃ r o,look z.rows r=some o∧Own g2 w4 r o b,Rc,C.g0,markD D::C.marks⟩:=⟨_,rfl⟩
  have hXw:C'.w0=w4:=by rw [hC']
  have hXR:C'.R0=Rc:=by rw [hC']
  have hXg:C'.g0=C.g0:=by rw [hC']
  have hXp:∀ b,C'.pas b↔∃ r o,look z.rows r=some o∧Own g2 w4 r o b:=fun b=>by rw [hC']
  have hh7:HeapR C' g2 Rc (fun r=>mem z.ks r=true) (look z.rows) w4:=hh6.root hXw hXR (fun r o b ho hb=>(hXp b).2 ⟨r,o,ho,hb⟩) (fun r hr hk=>by rw [hXg];exact hh6.gfix r hr hk)
  have hDw:D < w4.heap.size:=by have:=hh4.hsize;rw [hCw] at this;omega
  have hCD:¬ Cl.pas D:=fun h=>by
   rcases (hCp D).1 h with h|h|⟨r,o,h1,h2⟩
   ·omega
   ·have:=hplow D h;omega
   ·have:=hlow r o D h1 h2;omega
  have hDl:D < Cl.w0.heap.size:=by rw [hCw];omega
  have hRD:¬ Rc D:=hh4.notR hDl hCD (by rw [hCR];intro h;have:=hRlow D h;omega)
  have hXD:¬ C'.pas D:=fun h=>by
   obtain ⟨r,o,h1,h2⟩:=(hXp D).1 h
   rw [hz'] at h1
   dsimp only at h1
   obtain ⟨r',x,h3,h4,h5⟩:=look_renR h1
   subst h4 h5
   rw [Own_ren (hg2 r' (hh4.keys r' x h3))] at h2
   exact hh4.notOwn hDl hCD r' x h3 h2
  have hXC:∀ b,C'.pas b→C.w0.heap.size≤b∨C.pas b:=fun b h=>by
   obtain ⟨r,o,h1,h2⟩:=(hXp b).1 h
   exact (hh6.own r o b h1 h2).2
  have hlater:Later C C':=by
   refine ⟨fun h=>hh6.unroot h hXw hXR hXC (fun r hr hk=>by rw [h.gfix r hr hk,hXg]),⟨[D],by rw [hC'];rfl,by simp,fun D' hD'=>?_⟩,fun D' m=>?_,?_⟩
   ·rw [List.mem_singleton.1 hD']
    refine ⟨⟨by rw [hXw];exact hDw,hXD,by rw [hXR];exact hRD,?_⟩,by have:=hrelA0.heap.hsize;omega⟩
    rw [hXw,hh4.frame D hDl hCD,hCw]
    exact hD1
   ·refine ⟨by rw [hXw];exact Nat.lt_of_lt_of_le m.lt hh6.hsize,fun h=>?_,?_,?_⟩
    ·rcases hXC D' h with h1|h1
     ·have:=m.lt;omega
     ·exact m.pas h1
    ·rw [hXR];exact hh6.notR m.lt m.pas m.rd
    ·rw [hXw,hh6.frame D' m.lt m.pas];exact m.cell
   ·rw [hXw];exact hh6.hsize
  have hrelZ:Rel C' g2 Rc z { a with defers:=[markD D]++a.defers } w4:=by
   refine ⟨?_,?_,fun te e he=>?_,fun te e he u y hy=>?_,hh7⟩
   ·rw [hz'];exact hn
   ·show [markD D]++a.defers=C'.marks
    rw [hC',hrelA0.defers];rfl
   ·rw [hz'] at he
    dsimp only at he
    obtain ⟨e',h1,rfl⟩:=look_renE he
    obtain ⟨h2,h3,v,h4,h5⟩:=hslot0 te e' h1
    refine ⟨fun _=>⟨v,h4,?_⟩,fun h=>absurd (fun t x h=>by rw [show (⟨e'.path,e'.av.ren us⟩:Ent).path=e'.path from rfl,h2] at h;simp at h) h⟩
    refine RelV_ren (fun r hr=>⟨?_,hg2 r hr⟩) (hh4.stable h5 h3 (fun _ h=>h) hRp)
    rw [hz']
    exact mem_mapN.2 ⟨r,hr,rfl⟩
   ·rw [hz'] at he
    dsimp only at he
    obtain ⟨e',h1,rfl⟩:=look_renE he
    have:=(hslot0 te e' h1).1
    rw [show (⟨e'.path,e'.av.ren us⟩:Ent).path=e'.path from rfl,this] at hy
    simp at hy
  cases hjf:jump pf with
  | none =>
    rw [hjf] at hend
    exact hq C' .normal z g2 Rc _ w4 hlater hend hrelZ
  | some e =>
    rw [hjf] at hend
    have hfin:=hq C' e z g2 Rc _ w4 hlater hend hrelZ
    cases e with
    | normal=>exact wpIn_skip hfin
    | exit i=>exact wpIn_exit hfin
    | ret=>exact wpIn_ret hfin
theorem asN {E:Env PG tt S} {K:List Nat} {bd:Code} {s:St} {Q:AExit→St→Prop} (k:WP E K bd s Q):asPost E K bd Q .normal s:=k
theorem yN {α:Type} {jump:List α→Option AExit} {ks:List Nat} {rows:List (Nat × AObj)} {q:List α} {s:St} {p:Prop} (e:subE s ⟨s.n,[],[],ks,rows⟩=some p) (hj:jump q=none) (hp:p):yPost jump ks rows q .normal s:=⟨hj,subE_sound e hp⟩
theorem yR {α:Type} {jump:List α→Option AExit} {ks:List Nat} {rows:List (Nat × AObj)} {q:List α} {s:St} {p:Prop} (e:subE s ⟨s.n,[],[],ks,rows⟩=some p) (hj:jump q=some .ret) (hp:p):yPost jump ks rows q .ret s:=⟨hj,subE_sound e hp⟩
end
end Go.AM
end

section
set_option linter.all false
namespace Go.AM.YtmohhhbgcehnpaaGreat.Re
open Go.Proofs
set_option maxRecDepth 100000
set_option maxHeartbeats 4000000
def mul64S:Spec:=plain fun
 | [.int .u64 x,.int .u64 y]=>outV (x=1∧0≤y∧y≤8) (.tup [.int .u64 0,.int .u64 y])
 | _=>none
theorem mul64Ok:SpecSound Tryz.prog 151 mul64S:=by
 refine soundP (envOf sigNil) Tryz.func151 (c:=body Tryz.f151) rfl (by kernel_rfl) rfl ?_
 intro args out hf hpre
 split at hf <;> try (cases hf;done)
 rename_i x y
 cases hf
 refine ⟨Nat.le_of_ble_eq_true rfl,initI (args:=[.int .u64 x,.int .u64 y]) rfl ?_⟩
 obtain ⟨rfl,h0,h8⟩:=hpre
 have hy:y=0∨y=1∨y=2∨y=3∨y=4∨y=5∨y=6∨y=7∨y=8:=by omega
 rcases hy with rfl|rfl|rfl|rfl|rfl|rfl|rfl|rfl|rfl
 all_goals
  repeat' (first|refine zN ?_|refine zE ?_|refine zP ?_|refine pD ?_|refine pC (by decide) ?_|refine zS ?_|refine zR ?_|refine zO ?_|refine zB ?_|refine zX ?_|refine zT ?_|refine skipI rfl ?_)
  refine endR rfl ?_
  repeat' (first|exact trivial|decide|refine And.intro ?_ ?_)
def sigMul64:List (Nat × Spec):=[(151,mul64S)]
theorem sigMul64Ok:SigOk Tryz.prog (look sigMul64):=sigCons sigNil Tryz.func151 (by kernel_rfl) (c:=body Tryz.f151) rfl mul64Ok
theorem mulOk:SpecSound Tryz.prog 149 mul64S:=by
 refine soundP (envOf sigMul64Ok) Tryz.func149 (c:=body Tryz.f149) rfl (by kernel_rfl) rfl ?_
 intro args out hf hpre
 split at hf <;> try (cases hf;done)
 rename_i x y
 cases hf
 refine ⟨Nat.le_of_ble_eq_true rfl,initI (args:=[.int .u64 x,.int .u64 y]) rfl ?_⟩
 repeat' (first|refine zN ?_|refine zE ?_|refine zP ?_|refine pD ?_|refine zS ?_|refine zR ?_|refine zO ?_|refine zB ?_|refine zX ?_|refine zT ?_|refine skipI rfl ?_)
 refine condF rfl ?_
 repeat' (first|refine zN ?_|refine zE ?_|refine zP ?_|refine pD ?_|refine pC (by exact hpre) ?_|refine zS ?_|refine zR ?_|refine zO ?_|refine zB ?_|refine zX ?_|refine zT ?_|refine skipI rfl ?_)
 refine endR rfl ?_
 repeat' (first|exact trivial|exact rfl|refine ⟨rfl,?_⟩|refine And.intro ?_ ?_)
def sigMul:List (Nat × Spec):=[(149,mul64S)]
theorem sigMulOk:SigOk Tryz.prog (look sigMul):=sigCons sigNil Tryz.func149 (by kernel_rfl) (c:=body Tryz.f149) rfl mulOk
def repS:Spec:=plain fun
 | [.sl (.int .i64) [b],.int .i64 n]=>some ⟨1≤n∧n≤8,.own 0,[.seq tInt (List.replicate n.toNat b)],false⟩
 | _=>none
theorem rep_step {b:Int} {N k m:Nat} (hk:k≤N) (hm:m=min k (N - k)) :
 (List.replicate k b++List.replicate (N - k) (0:Int)).take k++(List.replicate k b++List.replicate (N - k) (0:Int)).take m++(List.replicate k b++List.replicate (N - k) (0:Int)).drop (k+m)=List.replicate (k+m) b++List.replicate (N - (k+m)) 0:=by
 have h1:(List.replicate k b++List.replicate (N - k) (0:Int)).take k=List.replicate k b:=by rw [List.take_append_of_le_length (by simp)];simp
 have h2:(List.replicate k b++List.replicate (N - k) (0:Int)).take m=List.replicate m b:=by
  rw [List.take_append_of_le_length (by simp;omega),List.take_replicate]
  congr 1
  omega
 have h3:(List.replicate k b++List.replicate (N - k) (0:Int)).drop (k+m)=List.replicate (N - (k+m)) 0:=by
  rw [List.drop_append,List.drop_eq_nil_of_le (by simp),List.nil_append,List.length_replicate,List.drop_replicate]
  congr 1
  omega
 rw [h1,h2,h3,List.replicate_append_replicate]
theorem repOk:SpecSound Tryz.prog 145 repS:=by
 refine soundP (envOf sigMulOk) Tryz.func145 (c:=body Tryz.f145) rfl (by kernel_rfl) rfl ?_
 intro args out hf hpre
 split at hf <;> try (cases hf;done)
 rename_i b n
 cases hf
 refine ⟨Nat.le_of_ble_eq_true rfl,initI (args:=[.sl tInt [b],.int .i64 n]) rfl ?_⟩
 obtain ⟨h0,h8⟩:=hpre
 obtain ⟨N,hN⟩:∃ N:Nat,n=N:=⟨n.toNat,by omega⟩
 subst hN
 have hw:IntKind.wrap .u64 (N:Int)=N:=by simp [IntKind.wrap,IntKind.signed,IntKind.bits];omega
 have hw2:IntKind.wrap .i64 (N:Int)=N:=by simp [IntKind.wrap,IntKind.signed,IntKind.bits];omega
 have hNn:((N:Nat):Int).toNat=N:=by omega
 repeat' (first|refine zN ?_|refine zE ?_|refine zP ?_|refine pD ?_|refine zS ?_|refine zR ?_|refine zO ?_|refine zB ?_|refine zX ?_|refine zT ?_|refine skipI rfl ?_)
 refine condI rfl (fun c1=>?_) (fun c1=>?_)
 ·simp only [decide_eq_true_eq] at c1
  omega
 repeat' (first|refine zN ?_|refine zE ?_|refine zP ?_|refine pD ?_|refine pC (by (show IntKind.wrap .u64 1=1∧_;refine ⟨by decide,?_⟩;rw [hw];omega)) ?_|refine zS ?_|refine zR ?_|refine zO ?_|refine zB ?_|refine zX ?_|refine zT ?_|refine skipI rfl ?_)
 refine condI rfl (fun c2=>?_) (fun c2=>?_)
 ·rw [hw] at c2
  simp at c2
  omega
 repeat' (first|refine zN ?_|refine zE ?_|refine zP ?_|refine pD ?_|refine pC (by first|(simp only [hw,hw2,List.length_replicate];omega)|(simp only [hw,hw2,List.length_replicate,List.length_cons,List.length_nil,hNn];omega)) ?_|refine zS ?_|refine zR ?_|refine zO ?_|refine zB ?_|refine zX ?_|refine zT ?_|refine skipI rfl ?_)
 simp only [hw,hw2,hNn]
 refine loopI (σ:=Nat) (fun k=>[(7,.own 3000),(8,.int .i64 k)]) (fun k=>[(3000,.seq tInt (List.replicate k b++List.replicate (N - k) 0))]) (fun k=>1≤k∧k≤N) (fun k=>N - k) 1 rfl (fun _=>rfl) rfl ?_ ?_ ?_
 ·omega
 ·repeat' (first|exact trivial|with_reducible exact rfl|refine And.intro ?_ ?_)
  all_goals (first|rfl|(simp;done)|(simp;omega))
 rintro k ⟨hk1,hk2⟩
 have hlen:(List.replicate k b++List.replicate (N - k) (0:Int)).length=N:=by simp;omega
 repeat' (first|refine zN ?_|refine zE ?_|refine zP ?_|refine pD ?_|refine zS ?_|refine zR ?_|refine zO ?_|refine zB ?_|refine zX ?_|refine zT ?_|refine skipI rfl ?_)
 refine condI rfl (fun c3=>?_) (fun c3=>?_)
 ·simp only [decide_eq_true_eq,hlen] at c3
  have hkn:((k:Nat):Int).toNat=k:=by omega
  have hk3:k < N:=by omega
  obtain ⟨m,hm⟩:∃ m,m=min k (N - k):=⟨_,rfl⟩
  have hst:=rep_step (b:=b) hk2 hm
  repeat' (first|with_reducible refine cN ?_|refine zB ?_|refine skipI rfl ?_)
  refine regH [(44,true)] rfl ?_
  repeat' (first|with_reducible refine pN ?_|refine pC (by first|omega|(simp only [hkn,hlen];omega)|(simp only [hlen];omega)) ?_)
  repeat' (first|refine zN ?_|refine zE ?_|refine zP ?_|refine pD ?_|refine zS ?_|refine zR ?_|refine zO ?_|refine zB ?_|refine zX ?_|refine zT ?_|refine skipI rfl ?_)
  refine roundI (k+m) rfl ?_ ?_ ?_
  ·omega
  ·omega
  ·repeat' (first|exact trivial|with_reducible exact rfl|refine And.intro ?_ ?_)
   all_goals (simp only [hkn,hlen,← hm])
   ·omega
   ·exact hst.symm
 ·simp only [decide_eq_false_iff_not,hlen] at c3
  obtain rfl:k=N:=by omega
  repeat' (first|refine zN ?_|refine zE ?_|refine zP ?_|refine pD ?_|refine zS ?_|refine zR ?_|refine zO ?_|refine zB ?_|refine zX ?_|refine zT ?_|refine skipI rfl ?_)
  refine endR rfl ?_
  repeat' (first|exact trivial|exact rfl|refine ⟨rfl,?_⟩|refine And.intro ?_ ?_)
  simp
end Go.AM.YtmohhhbgcehnpaaGreat.Re
end

section
set_option linter.all false
namespace Go.AM.YtmohhhbgcehnpaaGreat.Re
open Go.Proofs
set_option maxRecDepth 100000
set_option maxHeartbeats 4000000
abbrev tSc:Ty:=.pair (.slice (.int .i64)) (.pair (.slice (.int .i64)) (.pair (.int .i64) (.pair (.int .i64) (.int .i64))))
abbrev ScT:=List Int × List Int × Int × Int × Int
def slowD (xs:List tStage.El):List Int:=xs.map sMax
def slowM (b:Int) (xs:List tStage.El):List Int:=List.replicate xs.length b
def sigSlow:List (Nat × Spec):=[(145,repS)]
theorem sigSlowOk:SigOk Tryz.prog (look sigSlow):=sigCons sigNil Tryz.func145 (by kernel_rfl) (c:=body Tryz.f145) rfl repOk
def slowestS:Spec:=plain fun
 | [.agg [.int .i64 e,.int .i64 a,.int .i64 b,.sl (.pair (.int .i64) (.pair (.int .i64) (.pair (.pair (.int .i64) (.int .i64)) (.pair (.int .i64) (.int .i64))))) xs,.sl (.pair (.int .i64) (.pair (.int .i64) (.int .i64))) ws]] =>
   some ⟨1≤xs.length∧xs.length≤8,.agg [.own 0,.own 1,.int .i64 b,.int .i64 (-1),.int .i64 0],[.seq tInt (slowD xs),.seq tInt (slowM b xs)],false⟩
 | _=>none
theorem slowestOk:SpecSound Tryz.prog 132 slowestS:=by
 refine soundP (envOf sigSlowOk) Tryz.func132 (c:=body Tryz.f132) rfl (by kernel_rfl) rfl ?_
 intro args out hf hpre
 split at hf <;> try (cases hf;done)
 rename_i e a b xs ws
 cases hf
 refine ⟨Nat.le_of_ble_eq_true rfl,initI (args:=[.agg [.int .i64 e,.int .i64 a,.int .i64 b,.sl tStage xs,.sl tWin ws]]) rfl ?_⟩
 obtain ⟨h1,h8⟩:=hpre
 repeat' (first|refine zN ?_|refine zE ?_|refine zP ?_|refine pD ?_|refine pC (by (show 1≤_∧_≤_;omega)) ?_|refine zS ?_|refine zR ?_|refine zO ?_|refine zB ?_|refine zX ?_|refine zT ?_|refine skipI rfl ?_)
 refine loopI (σ:=Nat) (fun i=>[(19,.int .i64 i)]) (fun i=>[(3,.box [.own 3000,.own 3001,.int .i64 b,.int .i64 (-1),.int .i64 0]),(3000,.seq tInt (slowD (xs.take i))),(3001,.seq tInt (slowM b xs))]) (fun i=>i≤xs.length) (fun i=>xs.length - i) 0 rfl (fun _=>rfl) rfl ?_ ?_ ?_
 ·exact Nat.zero_le _
 ·repeat' (first|exact trivial|exact rfl|refine ⟨rfl,?_⟩|refine And.intro ?_ ?_)
 intro i hi
 repeat' (first|refine zN ?_|refine zE ?_|refine zP ?_|refine pD ?_|refine zS ?_|refine zR ?_|refine zO ?_|refine zB ?_|refine zX ?_|refine zT ?_|refine skipI rfl ?_)
 refine condI rfl (fun c1=>?_) (fun c1=>?_)
 ·simp only [decide_eq_true_eq] at c1
  have hil:i < xs.length:=by omega
  have hin:((i:Int)).toNat=i:=by omega
  have hlt:(slowD (xs.take i)).length=i:=by unfold slowD;rw [List.length_map,List.length_take];omega
  repeat' (first|refine zN ?_|refine zE ?_|refine zP ?_|refine pD ?_|refine pC (by (simp only [hlt,List.length_cons,List.length_nil];omega)) ?_|refine zS ?_|refine zR ?_|refine zO ?_|refine zB ?_|refine zX ?_|refine zT ?_|refine skipI rfl ?_)
  refine roundI (i+1) rfl ?_ ?_ ?_
  ·show i+1≤xs.length
   omega
  ·show xs.length - (i+1) < xs.length - i
   omega
  ·repeat' (first|exact trivial|with_reducible exact rfl|refine And.intro ?_ ?_)
   all_goals (first|rfl|(unfold slowD;rw [take_getI (d:=tStage.dflt) hil,List.map_append];rfl))
 ·simp only [decide_eq_false_iff_not] at c1
  repeat' (first|refine zN ?_|refine zE ?_|refine zP ?_|refine pD ?_|refine zS ?_|refine zR ?_|refine zO ?_|refine zB ?_|refine zX ?_|refine zT ?_|refine skipI rfl ?_)
  refine endR rfl ?_
  repeat' (first|exact trivial|exact rfl|refine ⟨rfl,?_⟩|refine And.intro ?_ ?_)
  rw [List.take_of_length_le (by omega)]
def sigFailing:List (Nat × Spec):=[(132,slowestS)]
theorem sigFailingOk:SigOk Tryz.prog (look sigFailing):=sigCons sigNil Tryz.func132 (by kernel_rfl) (c:=body Tryz.f132) rfl slowestOk
def failingS:Spec:=plain fun
 | [.agg [.int .i64 e,.int .i64 a,.int .i64 b,.sl (.pair (.int .i64) (.pair (.int .i64) (.pair (.pair (.int .i64) (.int .i64)) (.pair (.int .i64) (.int .i64))))) xs,.sl (.pair (.int .i64) (.pair (.int .i64) (.int .i64))) ws],.int .i64 tl,.int .i64 fa] =>
   some ⟨1≤xs.length∧xs.length≤8,.agg [.own 0,.own 1,.int .i64 b,.int .i64 tl,.int .i64 fa],[.seq tInt (slowD xs),.seq tInt (slowM b xs)],false⟩
 | _=>none
theorem failingOk:SpecSound Tryz.prog 133 failingS:=by
 refine soundP (envOf sigFailingOk) Tryz.func133 (c:=body Tryz.f133) rfl (by kernel_rfl) rfl ?_
 intro args out hf hpre
 split at hf <;> try (cases hf;done)
 rename_i e a b xs ws tl fa
 cases hf
 refine ⟨Nat.le_of_ble_eq_true rfl,initI (args:=[.agg [.int .i64 e,.int .i64 a,.int .i64 b,.sl tStage xs,.sl tWin ws],.int .i64 tl,.int .i64 fa]) rfl ?_⟩
 repeat' (first|refine zN ?_|refine zE ?_|refine zP ?_|refine pD ?_|refine pC (by exact hpre) ?_|refine zS ?_|refine zR ?_|refine zO ?_|refine zB ?_|refine zX ?_|refine zT ?_|refine skipI rfl ?_)
 refine endR rfl ?_
 repeat' (first|exact trivial|exact rfl|refine ⟨rfl,?_⟩|refine And.intro ?_ ?_)
def mainSc (b:Int) (xs:List tStage.El) (x:tStage.El):ScT:=(slowD xs,slowM b xs,b,mTl x,mSt x+sMax x - 1)
def winSc (b:Int) (xs:List tStage.El) (w:tWin.El):ScT :=
 ((slowD xs).set w.1.toNat (sMin (getI xs tStage.dflt w.1.toNat)),slowM b xs,b,mTl (getI xs tStage.dflt w.2.1.toNat),mSt (getI xs tStage.dflt w.2.1.toNat))
def critL (b:Int) (xs:List tStage.El) (ws:List tWin.El):List ScT:=((slowD xs,slowM b xs,b,-1,0)::xs.map (mainSc b xs))++ws.map (winSc b xs)
def critItS:Spec:=⟨true,fun args rows=>match args,rows with
 | [.own 0,.ptr 2 0],[.yp 1,.yld (.pair (.slice (.int .i64)) (.pair (.slice (.int .i64)) (.pair (.int .i64) (.pair (.int .i64) (.int .i64))))) false Y p,
    .box [.int .i64 e,.int .i64 a,.int .i64 b,.sl (.pair (.int .i64) (.pair (.int .i64) (.pair (.pair (.int .i64) (.int .i64)) (.pair (.int .i64) (.int .i64))))) xs,.sl (.pair (.int .i64) (.pair (.int .i64) (.int .i64))) ws]] =>
   some ⟨((1≤xs.length∧xs.length≤8)∧WinP xs ws)∧YGo Y p (critL b xs ws),.tup [],
    [.yp 3,.dead,.box [.int .i64 e,.int .i64 a,.int .i64 b,.sl tStage xs,.sl tWin ws],.yld tSc false Y (cut Y.cont p (critL b xs ws)).1],true⟩
 | _,_=>none⟩
def sigCrit:List (Nat × Spec):=[(132,slowestS),(133,failingS)]
theorem sigCritOk:SigOk Tryz.prog (look sigCrit):=sigCons (sigCons sigNil Tryz.func133 (by kernel_rfl) (c:=body Tryz.f133) rfl failingOk)
 Tryz.func132 (by kernel_rfl) (c:=body Tryz.f132) rfl slowestOk
theorem critItOk:SpecSound Tryz.prog 131 critItS:=by
 refine soundR (envOf sigCritOk) Tryz.func131 (c:=body Tryz.f131) rfl (by kernel_rfl) rfl ?_
 intro args rows out hf hpre
 split at hf <;> try (cases hf;done)
 rename_i Y p e a b xs ws
 cases hf
 refine ⟨Nat.le_of_ble_eq_true rfl,initI (args:=[.own 0,.ptr 2 0]) (rows:=[.yp 1,.yld tSc false Y p,.box [.int .i64 e,.int .i64 a,.int .i64 b,.sl tStage xs,.sl tWin ws]]) rfl ?_⟩
 obtain ⟨⟨hn,hlw,hsm,hws⟩,hgo⟩:=hpre
 obtain ⟨tot,htot⟩:∃ tot,tot=(cut Y.cont p (critL b xs ws)).1:=⟨_,rfl⟩
 rw [← htot]
 obtain ⟨hgo1,hgo2⟩:Y.ok (p++[(slowD xs,slowM b xs,b,-1,0)])∧(Y.cont (p++[(slowD xs,slowM b xs,b,-1,0)])=true→YGo Y (p++[(slowD xs,slowM b xs,b,-1,0)]) (xs.map (mainSc b xs)++ws.map (winSc b xs))):=hgo
 have htot:tot=(bif Y.cont (p++[(slowD xs,slowM b xs,b,-1,0)]) then cut Y.cont (p++[(slowD xs,slowM b xs,b,-1,0)]) (xs.map (mainSc b xs)++ws.map (winSc b xs)) else (p++[(slowD xs,slowM b xs,b,-1,0)],false)).1:=htot
 have hS:∀ i,i < xs.length→StSm (getI xs tStage.dflt i).1 (getI xs tStage.dflt i).2.1 (getI xs tStage.dflt i).2.2.1.2 (getI xs tStage.dflt i).2.2.2.2:=fun i hi=>hsm _ (Pl.getI_mem hi)
 have hW:∀ i,i < ws.length→WiSm xs.length (getI ws tWin.dflt i).1 (getI ws tWin.dflt i).2.1 (getI ws tWin.dflt i).2.2:=fun i hi=>hws _ (Pl.getI_mem hi)
 have hsl:(slowD xs).length=xs.length:=by unfold slowD;rw [List.length_map]
 repeat' (first|refine zN ?_|refine zE ?_|refine zP ?_|refine pD ?_|refine pC (by first|exact hn|exact hgo1) ?_|refine zS ?_|refine zR ?_|refine zO ?_|refine zB ?_|refine zX ?_|refine zT ?_|refine skipI rfl ?_)
 refine condI rfl (fun c1=>?_) (fun c1=>?_)
 ·rw [Bool.not_eq_true'] at c1
  rw [c1] at htot
  repeat' (first|refine zN ?_|refine zE ?_|refine zP ?_|refine pD ?_|refine zS ?_|refine zR ?_|refine zO ?_|refine zB ?_|refine zX ?_|refine zT ?_|refine skipI rfl ?_)
  refine endR rfl ?_
  repeat' (first|exact trivial|exact rfl|refine ⟨rfl,?_⟩|refine And.intro ?_ ?_)
  exact htot
 rw [Bool.not_eq_false'] at c1
 rw [c1] at htot
 have hgo2:=hgo2 c1
 repeat' (first|refine zN ?_|refine zE ?_|refine zP ?_|refine pD ?_|refine zS ?_|refine zR ?_|refine zO ?_|refine zB ?_|refine zX ?_|refine zT ?_|refine skipI rfl ?_)
 refine loopI (σ:=Nat × List ScT) (fun s=>[(17,.int .i64 s.1)]) (fun s=>[(100000,.yp 3000),(3000,.yld tSc false Y s.2)]) (fun s=>s.1≤xs.length∧YGo Y s.2 ((xs.drop s.1).map (mainSc b xs)++ws.map (winSc b xs))∧tot=(cut Y.cont s.2 ((xs.drop s.1).map (mainSc b xs)++ws.map (winSc b xs))).1) (fun s=>xs.length - s.1) (0,p++[(slowD xs,slowM b xs,b,-1,0)]) rfl (fun _=>rfl) rfl ?_ ?_ ?_
 ·exact ⟨Nat.zero_le _,hgo2,htot⟩
 ·repeat' (first|exact trivial|exact rfl|refine ⟨rfl,?_⟩|refine And.intro ?_ ?_)
 rintro ⟨i,q⟩ ⟨hi,hq1,hq2⟩
 dsimp only at hi hq1 hq2 ⊢
 repeat' (first|refine zN ?_|refine zE ?_|refine zP ?_|refine pD ?_|refine zS ?_|refine zR ?_|refine zO ?_|refine zB ?_|refine zX ?_|refine zT ?_|refine skipI rfl ?_)
 refine condI rfl (fun c2=>?_) (fun c2=>?_)
 ·simp only [decide_eq_true_eq] at c2
  have hil:i < xs.length:=by omega
  have hin:((i:Int)).toNat=i:=by omega
  have hSi:=hS i hil
  unfold StSm at hSi
  rw [drop_getI (d:=tStage.dflt) hil] at hq1 hq2
  obtain ⟨hk1,hk2⟩:Y.ok (q++[mainSc b xs (getI xs tStage.dflt i)])∧(Y.cont (q++[mainSc b xs (getI xs tStage.dflt i)])=true→YGo Y (q++[mainSc b xs (getI xs tStage.dflt i)]) ((xs.drop (i+1)).map (mainSc b xs)++ws.map (winSc b xs))):=hq1
  have hk3:tot=(bif Y.cont (q++[mainSc b xs (getI xs tStage.dflt i)]) then cut Y.cont (q++[mainSc b xs (getI xs tStage.dflt i)]) ((xs.drop (i+1)).map (mainSc b xs)++ws.map (winSc b xs)) else (q++[mainSc b xs (getI xs tStage.dflt i)],false)).1:=hq2
  repeat' (first|refine zN ?_|refine zE ?_|refine zP ?_|refine pD ?_|refine pC (by first|exact hn|exact hk1|(simp only [hin];unfold In64;omega)) ?_|refine zS ?_|refine zR ?_|refine zO ?_|refine zB ?_|refine zX ?_|refine zT ?_|refine skipI rfl ?_)
  refine condI rfl (fun c3=>?_) (fun c3=>?_)
  ·simp only [hin] at c3
   have c3':Y.cont (q++[mainSc b xs (getI xs tStage.dflt i)])=false:=(Bool.not_eq_true' _).mp c3
   rw [c3'] at hk3
   repeat' (first|refine zN ?_|refine zE ?_|refine zP ?_|refine pD ?_|refine zS ?_|refine zR ?_|refine zO ?_|refine zB ?_|refine zX ?_|refine zT ?_|refine skipI rfl ?_)
   refine endR rfl ?_
   repeat' (first|exact trivial|exact rfl|refine ⟨rfl,?_⟩|refine And.intro ?_ ?_)
   simp only [hin]
   exact hk3
  ·simp only [hin] at c3
   have c3':Y.cont (q++[mainSc b xs (getI xs tStage.dflt i)])=true:=(Bool.not_eq_false' _).mp c3
   rw [c3'] at hk3
   repeat' (first|refine zN ?_|refine zE ?_|refine zP ?_|refine pD ?_|refine zS ?_|refine zR ?_|refine zO ?_|refine zB ?_|refine zX ?_|refine zT ?_|refine skipI rfl ?_)
   refine roundI (i+1,q++[mainSc b xs (getI xs tStage.dflt i)]) rfl ?_ ?_ ?_
   ·exact ⟨by show i+1≤xs.length;omega,hk2 c3',hk3⟩
   ·show xs.length - (i+1) < xs.length - i
    omega
   ·repeat' (first|exact trivial|with_reducible exact rfl|refine And.intro ?_ ?_)
    all_goals (simp only [hin];rfl)
 ·simp only [decide_eq_false_iff_not] at c2
  rw [List.drop_eq_nil_of_le (by omega)] at hq1 hq2
  have hq1:YGo Y q (ws.map (winSc b xs)):=hq1
  have hq2:tot=(cut Y.cont q (ws.map (winSc b xs))).1:=hq2
  repeat' (first|refine zN ?_|refine zE ?_|refine zP ?_|refine pD ?_|refine zS ?_|refine zR ?_|refine zO ?_|refine zB ?_|refine zX ?_|refine zT ?_|refine skipI rfl ?_)
  refine loopI (σ:=Nat × List ScT) (fun s=>[(40,.int .i64 s.1)]) (fun s=>[(100000,.yp 3000),(3000,.yld tSc false Y s.2)]) (fun s=>s.1≤ws.length∧YGo Y s.2 ((ws.drop s.1).map (winSc b xs))∧tot=(cut Y.cont s.2 ((ws.drop s.1).map (winSc b xs))).1) (fun s=>ws.length - s.1) (0,q) rfl (fun _=>rfl) rfl ?_ ?_ ?_
  ·exact ⟨Nat.zero_le _,hq1,hq2⟩
  ·repeat' (first|exact trivial|exact rfl|refine ⟨rfl,?_⟩|refine And.intro ?_ ?_)
  rintro ⟨k,r⟩ ⟨hk,hr1,hr2⟩
  dsimp only at hk hr1 hr2 ⊢
  repeat' (first|refine zN ?_|refine zE ?_|refine zP ?_|refine pD ?_|refine zS ?_|refine zR ?_|refine zO ?_|refine zB ?_|refine zX ?_|refine zT ?_|refine skipI rfl ?_)
  refine condI rfl (fun c4=>?_) (fun c4=>?_)
  ·simp only [decide_eq_true_eq] at c4
   have hkl:k < ws.length:=by omega
   have hkn:((k:Int)).toNat=k:=by omega
   have hWk:=hW k hkl
   unfold WiSm at hWk
   rw [drop_getI (d:=tWin.dflt) hkl] at hr1 hr2
   obtain ⟨hm1,hm2⟩:Y.ok (r++[winSc b xs (getI ws tWin.dflt k)])∧(Y.cont (r++[winSc b xs (getI ws tWin.dflt k)])=true→YGo Y (r++[winSc b xs (getI ws tWin.dflt k)]) ((ws.drop (k+1)).map (winSc b xs))):=hr1
   have hm3:tot=(bif Y.cont (r++[winSc b xs (getI ws tWin.dflt k)]) then cut Y.cont (r++[winSc b xs (getI ws tWin.dflt k)]) ((ws.drop (k+1)).map (winSc b xs)) else (r++[winSc b xs (getI ws tWin.dflt k)],false)).1:=hr2
   repeat' (first|refine zN ?_|refine zE ?_|refine zP ?_|refine pD ?_|refine pC (by first|exact hn|exact hm1|(simp only [hkn,hsl];omega)) ?_|refine zS ?_|refine zR ?_|refine zO ?_|refine zB ?_|refine zX ?_|refine zT ?_|refine skipI rfl ?_)
   refine condI rfl (fun c5=>?_) (fun c5=>?_)
   ·simp only [hkn] at c5
    have c5':Y.cont (r++[winSc b xs (getI ws tWin.dflt k)])=false:=(Bool.not_eq_true' _).mp c5
    rw [c5'] at hm3
    repeat' (first|refine zN ?_|refine zE ?_|refine zP ?_|refine pD ?_|refine zS ?_|refine zR ?_|refine zO ?_|refine zB ?_|refine zX ?_|refine zT ?_|refine skipI rfl ?_)
    refine endR rfl ?_
    repeat' (first|exact trivial|exact rfl|refine ⟨rfl,?_⟩|refine And.intro ?_ ?_)
    simp only [hkn]
    exact hm3
   ·simp only [hkn] at c5
    have c5':Y.cont (r++[winSc b xs (getI ws tWin.dflt k)])=true:=(Bool.not_eq_false' _).mp c5
    rw [c5'] at hm3
    repeat' (first|refine zN ?_|refine zE ?_|refine zP ?_|refine pD ?_|refine zS ?_|refine zR ?_|refine zO ?_|refine zB ?_|refine zX ?_|refine zT ?_|refine skipI rfl ?_)
    refine roundI (k+1,r++[winSc b xs (getI ws tWin.dflt k)]) rfl ?_ ?_ ?_
    ·exact ⟨by show k+1≤ws.length;omega,hm2 c5',hm3⟩
    ·show ws.length - (k+1) < ws.length - k
     omega
    ·repeat' (first|exact trivial|with_reducible exact rfl|refine And.intro ?_ ?_)
     all_goals (simp only [hkn];rfl)
  ·simp only [decide_eq_false_iff_not] at c4
   rw [List.drop_eq_nil_of_le (by omega)] at hr2
   repeat' (first|refine zN ?_|refine zE ?_|refine zP ?_|refine pD ?_|refine zS ?_|refine zR ?_|refine zO ?_|refine zB ?_|refine zX ?_|refine zT ?_|refine skipI rfl ?_)
   refine endN rfl ?_
   repeat' (first|exact trivial|with_reducible exact rfl|refine And.intro ?_ ?_)
   exact hr2
end Go.AM.YtmohhhbgcehnpaaGreat.Re
end
