/- GnC, ExP, ExC. -/
import Derived.Test.YtbepaplaahcnkaaGreatPc35
import Derived.Test.YtbepaplaahcnkaaGreatPc34

set_option linter.all false
section
namespace Go.AM.YtbepaplaahcnkaaGreat.Gn
open Go.Proofs Go.AM.YtbepaplaahcnkaaGreat.Fc Go.AM.YtbepaplaahcnkaaGreat.Bs
set_option maxRecDepth 100000
set_option maxHeartbeats 8000000
def wf1S:Spec:=plain fun
 | [.int .i64 n,.bool _]=>outV True (.bool (!isIdF n))
 | _=>none
theorem wf1Ok:SpecSound Tryz.prog 40 wf1S:=by
 refine soundP (envOf sigIdOk) Tryz.func40 (c:=body Tryz.f40) rfl (by kernel_rfl) rfl ?_
 intro args out hf hpre
 split at hf <;> try (cases hf;done)
 rename_i n b
 cases hf
 refine ⟨Nat.le_of_ble_eq_true rfl,initI (args:=[.int .i64 n,.bool b]) rfl ?_⟩
 repeat' (first|refine zN ?_|refine zE ?_|refine zP ?_|refine pD ?_|refine zQ ?_|refine zR ?_|refine zW ?_)
 refine endR rfl ?_
 repeat' (first|exact trivial|exact rfl|refine ⟨rfl,?_⟩|refine And.intro ?_ ?_)
def sigDl:List (Nat × Spec):=[(40,wf1S)]
theorem sigDlOk:SigOk Tryz.prog (look sigDl):=sigCons sigNil Tryz.func40 (by kernel_rfl) (c:=body Tryz.f40) rfl wf1Ok
def delS:Spec:=⟨true,fun args rows=>match args,rows with
 | [.own 0,.fn 40 [] []],[.map (.int .i64) .bool m]=>some ⟨∀ e∈m,isIdF e.1=true,.tup [],[.map tI .bool m],true⟩
 | _,_=>none⟩
theorem delOk:SpecSound Tryz.prog 39 delS:=by
 refine soundR (envOf sigDlOk) Tryz.func39 (c:=body Tryz.f39) rfl (by kernel_rfl) rfl ?_
 intro args rows out hf hpre
 split at hf <;> try (cases hf;done)
 rename_i m
 cases hf
 refine ⟨Nat.le_of_ble_eq_true rfl,initI (args:=[.own 0,.fn 40 [] []]) (rows:=[.map tI .bool m]) rfl ?_⟩
 have hid:∀ e∈m,isIdF e.1=true:=hpre
 repeat' (first|refine zN ?_|refine zE ?_|refine zP ?_|refine pD ?_|refine zQ ?_|refine zR ?_|refine zW ?_)
 refine mitI 7 rfl (fun D l hpm hD=>?_)
 refine loopI (σ:=Option (Int × Bool) × MitG × List (Int × Bool)) (fun z=>[]) (fun z=>[(7,.mit 100000 tI .bool l z.1 (some z.2.1))]) (fun z=>Vis l z.2.2 z.2.1.was) (fun z=>z.2.1.left) (none,D,[]) rfl (fun _=>rfl) rfl ?_ ?_ ?_
 ·exact Vis.nil hD
 ·repeat' (first|exact trivial|with_reducible exact rfl|refine And.intro ?_ ?_)
  all_goals rfl
 rintro ⟨cur,D1,P⟩ hV
 dsimp only at hV ⊢
 refine zS ?_
 refine nextI rfl rfl rfl rfl rfl rfl (fun _ _=>rfl) (fun hall=>?_) (fun j y D2 hj hwj hD2 hleft=>?_)
 ·repeat' (first|refine zN ?_|refine zE ?_|refine zP ?_|refine pD ?_|refine zQ ?_|refine zR ?_|refine zW ?_)
  refine unitI 7 rfl ?_
  refine mapPermI (k:=.int .i64) (v:=.bool) 100000 m (by rfl) hpm ?_
  refine condF rfl ?_
  repeat' (first|refine zN ?_|refine zE ?_|refine zP ?_|refine pD ?_|refine zQ ?_|refine zR ?_|refine zW ?_)
  refine endN rfl ?_
  repeat' (first|exact trivial|with_reducible exact rfl|refine And.intro ?_ ?_)
  all_goals rfl
 ·have hV2:=hV.step hj hwj (fun i hi=>hD2 i hi)
  have hy:=hid y (hpm.mem_iff.1 (List.mem_of_getElem? hj))
  repeat' (first|refine zN ?_|refine zE ?_|refine zP ?_|refine pD ?_|refine zQ ?_|refine zR ?_|refine zW ?_)
  refine condT rfl ?_
  repeat' (first|refine zN ?_|refine zE ?_|refine zP ?_|refine pD ?_|refine zQ ?_|refine zR ?_|refine zW ?_)
  refine condI rfl (fun c=>by have c:(!isIdF y.1)=true:=c;rw [hy] at c;cases c) (fun _=>?_)
  repeat' (first|refine zN ?_|refine zE ?_|refine zP ?_|refine pD ?_|refine zQ ?_|refine zR ?_|refine zW ?_)
  refine roundI (some y,D2,P++[y]) rfl ?_ ?_ ?_
  ·exact hV2
  ·exact hleft
  ·repeat' (first|exact trivial|with_reducible exact rfl|refine And.intro ?_ ?_)
   all_goals rfl
def sigWf:List (Nat × Spec):=[(18,whoS),(39,delS),(42,keysS),(41,sortedS)]
theorem sigWfOk:SigOk Tryz.prog (look sigWf):=sigCons (sigCons (sigCons (sigCons sigNil Tryz.func41 (by kernel_rfl) (c:=body Tryz.f41) rfl sortedOk) Tryz.func42 (by kernel_rfl) (c:=body Tryz.f42) rfl keysOk) Tryz.func39 (by kernel_rfl) (c:=body Tryz.f39) rfl delOk) Tryz.func18 (by kernel_rfl) (c:=body Tryz.f18) rfl whoOk
def wfL (l:List FcT):List (Int × Bool):=l.foldl (fun m x=>mapSet tI .bool (x.2.2.2.2.2.2.2.1:Int) true m) []
def wfP (sw:List FcT) (m:List (Int × Bool)) (l:List FcT):List (Int × Bool):=l.foldl (fun m x=>mapSet tI .bool (whoF sw x.2.2.2.2.2.2.2.1 x.2.2.2.2.2.1) true m) m
def wfM (l1 l3 l4:List FcT):List (Int × Bool):=wfP l3 (wfL l4) l1
structure WfOk (l1 l3 l4:List FcT):Prop where
 n1:l1.length≤1000
 n3:l3.length≤1
 n4:l4.length≤1000
 few:(wfM l1 l3 l4).length≤12
 ids:∀ e∈wfM l1 l3 l4,isIdF e.1=true
def wafS:Spec:=plain fun
 | [.agg cs]=>match allSl cs with
   | some [l1,l2,l3,l4,l5,l6,l7,l8,l9,l10,l11]=>some ⟨WfOk l1 l3 l4,.own 0,[.seq tI (sortI (keysOf (wfM l1 l3 l4)))],false⟩
   | _=>none
 | _=>none
theorem wfL_take {l:List FcT} {i:Nat} (h:i < l.length):wfL (l.take (i+1))=mapSet tI .bool ((getI l tFc.dflt i).2.2.2.2.2.2.2.1:Int) true (wfL (l.take i)):=by
 rw [Bs.take_succ_getI (d:=tFc.dflt) h]
 unfold wfL
 rw [List.foldl_append]
 rfl
theorem wfP_take {l sw:List FcT} {m:List (Int × Bool)} {i:Nat} (h:i < l.length):wfP sw m (l.take (i+1))=mapSet tI .bool (whoF sw (getI l tFc.dflt i).2.2.2.2.2.2.2.1 (getI l tFc.dflt i).2.2.2.2.2.1) true (wfP sw m (l.take i)):=by
 rw [Bs.take_succ_getI (d:=tFc.dflt) h]
 unfold wfP
 rw [List.foldl_append]
 rfl
theorem wafOk:SpecSound Tryz.prog 19 wafS:=by
 refine soundP (envOf sigWfOk) Tryz.func19 (c:=body Tryz.f19) rfl (by kernel_rfl) rfl ?_
 intro args out hf hpre
 split at hf <;> try (cases hf;done)
 split at hf <;> try (cases hf;done)
 rename_i cs _ l1 l2 l3 l4 l5 l6 l7 l8 l9 l10 l11 hc
 cases hf
 obtain rfl:=allSl_spec hc
 refine ⟨Nat.le_of_ble_eq_true rfl,initI (args:=[.agg [.sl tFc l1,.sl tFc l2,.sl tFc l3,.sl tFc l4,.sl tFc l5,.sl tFc l6,.sl tFc l7,.sl tFc l8,.sl tFc l9,.sl tFc l10,.sl tFc l11]]) rfl ?_⟩
 obtain ⟨n1,n3,n4,hfew,hids⟩:=(hpre:WfOk l1 l3 l4)
 clear hc
 repeat' (first|refine zN ?_|refine zE ?_|refine zP ?_|refine pD ?_|refine zQ ?_|refine zR ?_|refine zW ?_)
 refine loopI (σ:=Nat) (fun i=>[(12,.int .i64 i),(3,.own 5000)]) (fun i=>[(5000,.map tI .bool (wfL (List.take (α:=FcT) i l4)))]) (fun i=>i≤List.length (α:=FcT) l4) (fun i=>List.length (α:=FcT) l4 - i) 0 rfl (fun _=>rfl) rfl ?_ ?_ ?_
 ·exact Nat.zero_le _
 ·repeat' (first|exact trivial|with_reducible exact rfl|refine And.intro ?_ ?_)
  all_goals rfl
 intro i hi
 repeat' (first|refine zN ?_|refine zE ?_|refine zP ?_|refine pD ?_|refine zQ ?_|refine zR ?_|refine zW ?_)
 refine condI rfl (fun c1=>?_) (fun c1=>?_)
 ·simp only [decide_eq_true_eq] at c1
  have hil:i < List.length (α:=FcT) l4:=by omega
  have hin:((i:Int)).toNat=i:=by omega
  have hnx:=wfL_take hil
  repeat' (first|refine zN ?_|refine zE ?_|refine zP ?_|refine pD ?_|refine zQ ?_|refine zR ?_|refine zW ?_)
  refine roundI (i+1) rfl ?_ ?_ ?_
  ·show i+1≤List.length (α:=FcT) l4
   omega
  ·show List.length (α:=FcT) l4 - (i+1) < List.length (α:=FcT) l4 - i
   omega
  ·repeat' (first|exact trivial|with_reducible exact rfl|refine And.intro ?_ ?_)
   all_goals first|rfl|(rw [hin];exact hnx)|exact hnx
 ·simp only [decide_eq_false_iff_not] at c1
  have hie:i=List.length (α:=FcT) l4:=by omega
  rw [hie,List.take_length]
  repeat' (first|refine zN ?_|refine zE ?_|refine zP ?_|refine pD ?_|refine zQ ?_|refine zR ?_|refine zW ?_)
  obtain ⟨m0,hm0⟩:∃ m0,m0=wfL l4:=⟨_,rfl⟩
  rw [← hm0]
  refine loopI (σ:=Nat) (fun k=>[(23,.int .i64 k)]) (fun k=>[(5000,.map tI .bool (wfP l3 m0 (List.take (α:=FcT) k l1)))]) (fun k=>k≤List.length (α:=FcT) l1) (fun k=>List.length (α:=FcT) l1 - k) 0 rfl (fun _=>rfl) rfl ?_ ?_ ?_
  ·exact Nat.zero_le _
  ·repeat' (first|exact trivial|with_reducible exact rfl|refine And.intro ?_ ?_)
   all_goals rfl
  intro k hk
  repeat' (first|refine zN ?_|refine zE ?_|refine zP ?_|refine pD ?_|refine zQ ?_|refine zR ?_|refine zW ?_)
  refine condI rfl (fun c2=>?_) (fun c2=>?_)
  ·simp only [decide_eq_true_eq] at c2
   have hil:k < List.length (α:=FcT) l1:=by omega
   have hin:((k:Int)).toNat=k:=by omega
   have hnx:=wfP_take (sw:=l3) (m:=m0) hil
   repeat' (first|refine zN ?_|refine zE ?_|refine zP ?_|refine pD ?_|refine pC (by exact n3) ?_|refine zQ ?_|refine zR ?_|refine zW ?_)
   refine roundI (k+1) rfl ?_ ?_ ?_
   ·show k+1≤List.length (α:=FcT) l1
    omega
   ·show List.length (α:=FcT) l1 - (k+1) < List.length (α:=FcT) l1 - k
    omega
   ·repeat' (first|exact trivial|with_reducible exact rfl|refine And.intro ?_ ?_)
    all_goals first|rfl|(rw [hin];exact hnx)|exact hnx
  ·simp only [decide_eq_false_iff_not] at c2
   have hke:k=List.length (α:=FcT) l1:=by omega
   rw [hke,List.take_length]
   have hM:wfP l3 m0 l1=wfM l1 l3 l4:=by rw [hm0];rfl
   rw [hM]
   obtain ⟨m,hm⟩:∃ m,m=wfM l1 l3 l4:=⟨_,rfl⟩
   rw [← hm] at hfew hids ⊢
   repeat' (first|refine zN ?_|refine zE ?_|refine zP ?_|refine pD ?_|refine pC (by first|exact hids|exact hfew) ?_|refine zQ ?_|refine zR ?_|refine zW ?_)
   refine endR rfl ?_
   repeat' (first|exact trivial|exact rfl|refine ⟨rfl,?_⟩|refine And.intro ?_ ?_)
end Go.AM.YtbepaplaahcnkaaGreat.Gn
end

section
namespace Go.AM.YtbepaplaahcnkaaGreat.Ex
open Go.Proofs Go.AM.YtbepaplaahcnkaaGreat.Fc Go.AM.YtbepaplaahcnkaaGreat.Gn
set_option maxRecDepth 100000
abbrev EnT:Type:=Int × Bool
abbrev WyT:Type:=List (Int × List EnT)
def entW (who:FcT→Int) (near sure:FcT→Bool) (l:List FcT) (w:Int):List EnT:=(l.filter fun p=>near p&&decide (who p=w)).map fun p=>((p.2.1:Int),sure p)
def WOk (W:WyT) (E:Int→List EnT):Prop:=∀ w,(mmIdx tI w W=none→E w=[])∧∀ j,mmIdx tI w W=some j→∃ y,W[j]?=some y∧y.1=w∧y.2.Perm (E w)
theorem idx_get {w:Int}:∀ {W:WyT} {j:Nat},mmIdx tI w W=some j→∃ y,W[j]?=some y∧y.1=w
 | [],_,h=>by cases h
 | e::W,j,h=>by
   unfold mmIdx at h
   cases hk:keyEq tI w e.1
   ·rw [hk] at h
    have h:(match mmIdx tI w W with|some i=>some (i+1)|none=>none)=some j:=h
    cases hi:mmIdx tI w W with
    | none=>rw [hi] at h;cases h
    | some i =>
      rw [hi] at h
      obtain rfl:=Option.some.inj h
      exact idx_get (W:=W) hi
   ·rw [hk] at h
    have h:some 0=some j:=h
    obtain rfl:=Option.some.inj h
    exact ⟨e,rfl,(of_decide_eq_true hk).symm⟩
def newIx (o:Option Nat) (b:Bool) (n:Nat):Option Nat:=match o with
 | some i=>some i
 | none=>bif b then some n else none
theorem idx_new {w:Int} {l:List EnT}:∀ {W:WyT},mmIdx tI w W=none→∀ v,mmIdx tI v (W++[(w,l)])=newIx (mmIdx tI v W) (decide (v=w)) W.length
 | [],_,v=>by
   show (bif keyEq tI v w then some 0 else none)=bif decide (v=w) then some 0 else none
   rfl
 | e::W,h,v=>by
   unfold mmIdx at h
   cases hk:keyEq tI w e.1
   ·rw [hk] at h
    have h:(match mmIdx tI w W with|some i=>some (i+1)|none=>none)=none:=h
    have hn:mmIdx tI w W=none:=by
     cases hi:mmIdx tI w W with
     | none=>rfl
     | some i=>rw [hi] at h;cases h
    have ih:=idx_new (l:=l) hn v
    rw [List.cons_append]
    unfold mmIdx
    cases keyEq tI v e.1
    ·show (match mmIdx tI v (W++[(w,l)]) with|some i=>some (i+1)|none=>none)=_
     rw [ih]
     cases hv:mmIdx tI v W with
     | some i=>rfl
     | none =>
       show (match (bif decide (v=w) then some W.length else none) with|some i=>some (i+1)|none=>none)=bif decide (v=w) then some (W.length+1) else none
       cases decide (v=w) <;> rfl
    ·rfl
   ·rw [hk] at h;cases h
theorem idx_set {v:Int} {x:Int} {l:List EnT}:∀ {W:WyT} {j:Nat} {y:Int × List EnT},W[j]?=some y→mmIdx tI v (W.set j (y.1,l))=mmIdx tI v W
 | [],_,_,h=>by simp at h
 | e::W,0,y,h=>by
   simp at h
   subst h
   rfl
 | e::W,j+1,y,h=>by
   rw [List.set_cons_succ]
   unfold mmIdx
   rw [idx_set (v:=v) (x:=x) (l:=l) (W:=W) (j:=j) (by simpa using h)]
theorem WOk.nil:WOk [] (fun _=>[]):=fun w=>⟨fun _=>rfl,(fun j h=>by cases h)⟩
theorem WOk.new {W:WyT} {E:Int→List EnT} (h:WOk W E) {w:Int} (hn:mmIdx tI w W=none):WOk (W++[(w,[])]) E∧mmIdx tI w (W++[(w,[])])=some W.length:=by
 have hnew:=idx_new (l:=[]) hn
 constructor
 ·intro v
  rw [hnew v]
  cases hv:mmIdx tI v W with
  | some i =>
    refine ⟨(fun h=>by cases h),fun j hj=>?_⟩
    have hj:some i=some j:=hj
    obtain rfl:=Option.some.inj hj
    obtain ⟨y,h1,h2,h3⟩:=(h v).2 i hv
    exact ⟨y,by rw [List.getElem?_append_left (List.getElem?_eq_some_iff.1 h1).1];exact h1,h2,h3⟩
  | none =>
    have hE:=(h v).1 hv
    by_cases hvw:v=w
    ·subst hvw
     rw [decide_eq_true rfl]
     refine ⟨(fun h=>by cases h),fun j hj=>?_⟩
     have hj:some W.length=some j:=hj
     obtain rfl:=Option.some.inj hj
     exact ⟨(v,[]),by simp,rfl,by rw [hE]⟩
    ·rw [decide_eq_false hvw]
     exact ⟨fun _=>hE,(fun j hj=>by cases hj)⟩
 ·rw [hnew w,hn,decide_eq_true rfl]
  rfl
theorem WOk.put {W:WyT} {E E':Int→List EnT} (h:WOk W E) {w:Int} {j:Nat} {y:Int × List EnT} (hs:mmIdx tI w W=some j) (hy:W[j]?=some y) (hE:∀ v,v≠w→E' v=E v) {l:List EnT} (hl:l.Perm (E' w)):WOk (W.set j (y.1,l)) E':=by
 have hjl:=(List.getElem?_eq_some_iff.1 hy).1
 intro v
 rw [idx_set (x:=w) hy]
 by_cases hvw:v=w
 ·subst hvw
  refine ⟨fun h=>(by rw [hs] at h;cases h),fun i hi=>?_⟩
  rw [hs] at hi
  obtain rfl:=Option.some.inj hi
  obtain ⟨y',h1,h2⟩:=idx_get hs
  rw [hy] at h1
  obtain rfl:=Option.some.inj h1
  exact ⟨(y.1,l),by rw [List.getElem?_set_self hjl],h2,hl⟩
 ·rw [hE v hvw]
  refine ⟨(h v).1,fun i hi=>?_⟩
  obtain ⟨y',h1,h2,h3⟩:=(h v).2 i hi
  have hij:j≠i:=fun e=>by
   subst e
   obtain ⟨y2,h4,h5⟩:=idx_get hs
   rw [h1] at h4
   obtain rfl:=Option.some.inj h4
   exact hvw (h2.symm.trans h5)
  exact ⟨y',by rw [List.getElem?_set_ne hij];exact h1,h2,h3⟩
theorem entW_no {who:FcT→Int} {near sure:FcT→Bool} {l:List FcT} {p:FcT} (h:near p=false) (w:Int):entW who near sure (l++[p]) w=entW who near sure l w:=by
 unfold entW
 rw [List.filter_append]
 simp [h]
theorem entW_other {who:FcT→Int} {near sure:FcT→Bool} {l:List FcT} {p:FcT} {w:Int} (h:w≠who p):entW who near sure (l++[p]) w=entW who near sure l w:=by
 unfold entW
 rw [List.filter_append]
 have:decide (who p=w)=false:=decide_eq_false fun e=>h e.symm
 simp [this]
theorem entW_own {who:FcT→Int} {near sure:FcT→Bool} {l:List FcT} {p:FcT} (h:near p=true):entW who near sure (l++[p]) (who p)=entW who near sure l (who p)++[((p.2.1:Int),sure p)]:=by
 unfold entW
 rw [List.filter_append,List.map_append]
 simp [h]
theorem entW_len {who:FcT→Int} {near sure:FcT→Bool} {l:List FcT} {w:Int}:(entW who near sure l w).length≤l.length:=by
 unfold entW
 rw [List.length_map]
 exact List.length_filter_le _ _
theorem entW_ids {who:FcT→Int} {near sure:FcT→Bool} {l:List FcT} {w:Int}:∀ e∈entW who near sure l w,∃ p∈l,(p.2.1:Int)=e.1:=fun e he=>by
 unfold entW at he
 obtain ⟨p,hp,rfl⟩:=List.mem_map.1 he
 exact ⟨p,(List.mem_filter.1 hp).1,rfl⟩
theorem find_no {id:Int}:∀ {l:List EnT},(∀ e∈l,e.1≠id)→mapFind tI .bool id l=none
 | [],_=>rfl
 | e::l,h=>by
   unfold mapFind
   have h1:keyEq tI id e.1=false:=decide_eq_false fun h2=>h e (by simp) h2.symm
   rw [h1]
   exact find_no fun a ha=>h a (List.mem_cons_of_mem _ ha)
theorem ins_perm {id:Int} {b:Bool}:∀ {l:List EnT},(mapIns tI .bool id b l).Perm ((id,b)::l)
 | []=>.refl _
 | e::l=>by
   unfold mapIns
   cases keyLt tI id e.1
   ·exact (ins_perm (l:=l)).cons e |>.trans (.swap _ _ _)
   ·exact .refl _
theorem set_perm {id:Int} {b:Bool} {l:List EnT} (h:mapFind tI .bool id l=none):(mapSet tI .bool id b l).Perm (l++[(id,b)]):=by
 unfold mapSet
 rw [h]
 exact (ins_perm (l:=l)).trans (List.perm_append_comm (l₁:=[(id,b)]) (l₂:=l))
def tchF (Q:List EnT):Int:=bif Q.any (·.2) then 2 else bif Q.isEmpty then 0 else 1
def whyF (Q:List EnT):List Int:=bif Q.any (·.2) then (Q.filter (·.2)).map (·.1) else Q.map (·.1)
theorem tchF_perm {Q R:List EnT} (h:Q.Perm R):tchF Q=tchF R:=by
 unfold tchF
 rw [h.any_eq]
 congr 1
 have:Q.isEmpty=R.isEmpty:=by
  cases Q <;> cases R <;> simp at h ⊢
 rw [this]
theorem whyF_perm {Q R:List EnT} (h:Q.Perm R):(whyF Q).Perm (whyF R):=by
 unfold whyF
 rw [h.any_eq]
 cases R.any (·.2)
 ·exact h.map _
 ·exact (h.filter _).map _
theorem whyF_len {Q:List EnT}:(whyF Q).length≤Q.length:=by
 unfold whyF
 cases Q.any (·.2)
 ·show (Q.map (·.1)).length≤_
  rw [List.length_map];exact Nat.le_refl _
 ·show ((Q.filter (·.2)).map (·.1)).length≤_
  rw [List.length_map]
  exact List.length_filter_le _ _
theorem step_first {Q:List EnT} {id:Int} (h:tchF Q≠2):tchF (Q++[(id,true)])=2∧whyF (Q++[(id,true)])=[id]:=by
 have hq:Q.any (·.2)=false:=by
  cases hq:Q.any (·.2) with
  | false=>rfl
  | true=>unfold tchF at h;rw [hq] at h;exact absurd rfl h
 have ha:(Q++[(id,true)]).any (·.2)=true:=by rw [List.any_append];simp
 have hf:Q.filter (·.2)=[]:=List.filter_eq_nil_iff.2 fun e he=>by
  have:=List.any_eq_false.1 hq e he
  exact this
 unfold tchF whyF
 rw [ha]
 exact ⟨rfl,by show ((Q++[(id,true)]).filter (·.2)).map (·.1)=_;rw [List.filter_append,hf];rfl⟩
theorem step_sure {Q:List EnT} {id:Int} (h:tchF Q=2):tchF (Q++[(id,true)])=2∧whyF (Q++[(id,true)])=whyF Q++[id]:=by
 have hq:Q.any (·.2)=true:=by
  cases hq:Q.any (·.2) with
  | true=>rfl
  | false =>
    unfold tchF at h
    rw [hq] at h
    cases he:Q.isEmpty <;> rw [he] at h <;> cases h
 have ha:(Q++[(id,true)]).any (·.2)=true:=by rw [List.any_append,hq];rfl
 unfold tchF whyF
 rw [ha,hq]
 refine ⟨rfl,?_⟩
 show ((Q++[(id,true)]).filter (·.2)).map (·.1)=(Q.filter (·.2)).map (·.1)++[id]
 rw [List.filter_append,List.map_append]
 rfl
theorem step_skip {Q:List EnT} {id:Int} (h:tchF Q=2):tchF (Q++[(id,false)])=tchF Q∧whyF (Q++[(id,false)])=whyF Q:=by
 have hq:Q.any (·.2)=true:=by
  cases hq:Q.any (·.2) with
  | true=>rfl
  | false =>
    unfold tchF at h
    rw [hq] at h
    cases he:Q.isEmpty <;> rw [he] at h <;> cases h
 have ha:(Q++[(id,false)]).any (·.2)=true:=by rw [List.any_append,hq];rfl
 unfold tchF whyF
 rw [ha,hq]
 refine ⟨rfl,?_⟩
 show ((Q++[(id,false)]).filter (·.2)).map (·.1)=(Q.filter (·.2)).map (·.1)
 rw [List.filter_append,List.map_append]
 simp
theorem step_may {Q:List EnT} {id:Int} (h:tchF Q≠2):tchF (Q++[(id,false)])=1∧whyF (Q++[(id,false)])=whyF Q++[id]:=by
 have hq:Q.any (·.2)=false:=by
  cases hq:Q.any (·.2) with
  | false=>rfl
  | true=>unfold tchF at h;rw [hq] at h;exact absurd rfl h
 have ha:(Q++[(id,false)]).any (·.2)=false:=by rw [List.any_append,hq];rfl
 have hne:(Q++[(id,false)]).isEmpty=false:=by cases Q <;> rfl
 unfold tchF whyF
 rw [ha,hq,hne]
 exact ⟨rfl,by show (Q++[(id,false)]).map (·.1)=Q.map (·.1)++[id];rw [List.map_append];rfl⟩
end Go.AM.YtbepaplaahcnkaaGreat.Ex
end

section
namespace Go.AM.YtbepaplaahcnkaaGreat.Ex
open Go.Proofs Go.AM.YtbepaplaahcnkaaGreat.Fc Go.AM.YtbepaplaahcnkaaGreat.Bs Go.AM.YtbepaplaahcnkaaGreat.Gn
set_option maxRecDepth 100000
set_option maxHeartbeats 8000000
abbrev tVd:Ty:=.pair (.int .i64) (.pair (.int .i64) (.slice (.int .i64)))
abbrev VdT:Type:=tVd.El
def verE (E:Int→List EnT) (w:Int):VdT:=(w,tchF (E w),Gn.sortI (whyF (E w)))
def sigJu:List (Nat × Spec):=[(15,valS),(16,meetsS),(17,eitS),(18,whoS),(19,wafS),(20,Gn.sortS)]
theorem sigJuOk:SigOk Tryz.prog (look sigJu):=sigCons (sigCons (sigCons (sigCons (sigCons (sigCons sigNil Tryz.func20 (by kernel_rfl) (c:=body Tryz.f20) rfl Gn.sortOk) Tryz.func19 (by kernel_rfl) (c:=body Tryz.f19) rfl wafOk) Tryz.func18 (by kernel_rfl) (c:=body Tryz.f18) rfl whoOk) Tryz.func17 (by kernel_rfl) (c:=body Tryz.f17) rfl eitOk) Tryz.func16 (by kernel_rfl) (c:=body Tryz.f16) rfl meetsOk) Tryz.func15 (by kernel_rfl) (c:=body Tryz.f15) rfl valOk
theorem verd_next {E:Int→List EnT} {ws:List Int} {i:Nat} (h:i < ws.length):(ws.take (i+1)).map (verE E)=(ws.take i).map (verE E)++[verE E (getI ws 0 i)]:=by
 rw [Bs.take_succ_getI (d:=(0:Int)) h,List.map_append]
 rfl
theorem judTail {W:WyT} {E:Int→List EnT} {ws:List Int} {pre:Prop} (hW:WOk W E) (hE:∀ w,(E w).length≤12) (hws:List.length (α:=Int) ws≤1000):WP (envOf sigJuOk) [0,1,2,3,4,5,6,7,9,10,11,13,14,15,17,18,19,20,23,47,48,49,50,59,75,76,77,78,93,103,125,126,127,128,136,138,142,151,159] (inner (seqB (seqA (seqB (seqB (seqB (seqB (seqB (seqB (seqB (seqB (seqB (seqB (body Tryz.f9))))))))))))))
 ⟨Tryz.f9.ntmps,[(0,⟨[],.junk⟩),(1,⟨[],.junk⟩),(2,⟨[],.junk⟩),(3,⟨[],.junk⟩),(4,⟨[],.junk⟩),(5,⟨[],.junk⟩),(6,⟨[],.junk⟩),(7,⟨[],.junk⟩),(10,⟨[],.junk⟩),(11,⟨[],.own 5001⟩),(15,⟨[],.nilsl⟩),(23,⟨[],.junk⟩),(47,⟨[],.junk⟩),(48,⟨[],.junk⟩),(49,⟨[],.junk⟩),(50,⟨[],.junk⟩),(75,⟨[],.junk⟩),(76,⟨[],.junk⟩),(77,⟨[],.junk⟩),(78,⟨[],.junk⟩),(125,⟨[],.own (key 125 0)⟩),(126,⟨[],.int .i64 (List.length (α:=Int) ws)⟩),(127,⟨[],.int .i64 0⟩)],[],[100000,100001,100002,100003,100004,100005,100006,100007,100008,100009,100010,5001,key 125 0],[(100000,.dead),(100001,.dead),(100002,.dead),(100003,.dead),(100004,.dead),(100005,.dead),(100006,.dead),(100007,.dead),(100008,.dead),(100009,.dead),(100010,.dead),(5001,.mmap tI tI .bool W none),(key 125 0,.seq tI ws)]⟩
 (contBlk 4 (contSeq (envOf sigJuOk) [0,1,2,3,4,5,6,7,9,10,11,13,14,15,17,18,19,20,23,47,48,49,50,59,75,76,77,78,93,103,125,126,127,128,136,138,142,151,159] (seqB (seqB (seqB (seqB (seqB (seqB (seqB (seqB (seqB (seqB (seqB (body Tryz.f9)))))))))))) (endOf ts Tryz.f9.results.toList 11 ⟨pre,.own 11,[.dead,.dead,.dead,.dead,.dead,.dead,.dead,.dead,.dead,.dead,.dead,.seq tVd (ws.map (verE E))],true⟩))):=by
 refine loopI (σ:=Nat) (fun i=>[(127,.int .i64 i),(15,.own 5002)]) (fun i=>[(5002,.seq tVd ((List.take (α:=Int) i ws).map (verE E)))]) (fun i=>i≤List.length (α:=Int) ws) (fun i=>List.length (α:=Int) ws - i) 0 rfl (fun _=>rfl) rfl ?_ ?_ ?_
 ·exact Nat.zero_le _
 ·repeat' (first|exact trivial|with_reducible exact rfl|refine And.intro ?_ ?_)
  all_goals rfl
 intro i hi
 repeat' (first|refine zN ?_|refine zE ?_|refine zP ?_|refine pD ?_|refine zQ ?_|refine zR ?_|refine zW ?_)
 refine condI rfl (fun c1=>?_) (fun c1=>?_)
 ·simp only [decide_eq_true_eq] at c1
  have hil:i < List.length (α:=Int) ws:=by omega
  have hin:((i:Int)).toNat=i:=by omega
  have hln:((List.take (α:=Int) i ws).map (verE E)).length≤1000:=by rw [List.length_map,List.length_take];omega
  obtain ⟨w,hw⟩:∃ w:Int,w=getI ws (Ty.dflt tI) i:=⟨_,rfl⟩
  have hnx:(List.take (α:=Int) (i+1) ws).map (verE E)=(List.take (α:=Int) i ws).map (verE E)++[verE E w]:=by rw [hw];exact verd_next hil
  repeat' (first|refine zN ?_|refine zE ?_|refine zP ?_|refine zQ ?_|refine zW ?_)
  refine zR ?_
  repeat' (first|with_reducible refine pN ?_|refine pD ?_|fail)
  repeat with_reducible refine cN ?_
  repeat' (first|refine zN ?_|refine zE ?_|refine zP ?_|refine zQ ?_|refine zW ?_)
  refine zR ?_
  repeat' (first|with_reducible refine pN ?_|refine pD ?_|fail)
  repeat with_reducible refine cN ?_
  simp only [hin]
  rw [← hw]
  cases hix:mmIdx tI w W with
  | none =>
    have hEn:=(hW w).1 hix
    have hv:verE E w=(w,0,Gn.sortI []):=by unfold verE;rw [hEn];rfl
    refine tidyI [] [(18,.box [.int .i64 w,.int .i64 0,.own 6000]),(6000,.seq tI [])] rfl rfl ?_ ?_
    ·repeat' (first|exact trivial|exact rfl|refine ⟨rfl,?_⟩|refine And.intro ?_ ?_)
    repeat' (first|refine zN ?_|refine zE ?_|refine zP ?_|refine pD ?_|refine pC (by first|(rw [hix];rfl)|exact hix) ?_|refine zQ ?_|refine zR ?_|refine zW ?_)
    refine loopI (σ:=Unit) (fun u=>[]) (fun u=>[]) (fun u=>True) (fun u=>0) () rfl (fun _=>rfl) rfl ?_ ?_ ?_
    ·trivial
    ·repeat' (first|exact trivial|exact rfl|refine ⟨rfl,?_⟩|refine And.intro ?_ ?_)
    rintro ⟨⟩ _
    refine zS ?_
    refine next0I rfl rfl rfl rfl rfl rfl ?_
    repeat' (first|refine zN ?_|refine zE ?_|refine zP ?_|refine pD ?_|refine zQ ?_|refine zR ?_|refine zW ?_)
    refine condF rfl ?_
    repeat' (first|refine zN ?_|refine zE ?_|refine zP ?_|refine pD ?_|refine pC (by first|exact Nat.zero_le _|(show (_+1) * _≤_;omega)|omega) ?_|refine zQ ?_|refine zR ?_|refine zW ?_)
    refine roundI (i+1) rfl ?_ ?_ ?_
    ·show i+1≤List.length (α:=Int) ws
     omega
    ·show List.length (α:=Int) ws - (i+1) < List.length (α:=Int) ws - i
     omega
    ·repeat' (first|exact trivial|with_reducible exact rfl|refine And.intro ?_ ?_)
     all_goals first|rfl|(rw [hnx,hv])
  | some j =>
    obtain ⟨y,hy,hyw,hyp⟩:=(hW w).2 _ hix
    have hyl:List.length y.2≤12:=by rw [hyp.length_eq];exact hE w
    have hself:List.set W j (y.1,y.2)=W:=by
     obtain ⟨hj,hjy⟩:=List.getElem?_eq_some_iff.1 hy
     rw [← hjy]
     exact List.set_getElem_self hj
    refine tidyI [] [(18,.box [.int .i64 w,.int .i64 0,.own 6000]),(6000,.seq tI [])] rfl rfl ?_ ?_
    ·repeat' (first|exact trivial|exact rfl|refine ⟨rfl,?_⟩|refine And.intro ?_ ?_)
    refine takeI 5001 6001 j (by rfl) (by rfl) (by rfl) hy ?_
    repeat' (first|refine zN ?_|refine zE ?_|refine zP ?_|refine pD ?_|refine pC (by exact hix) ?_|refine zQ ?_|refine zR ?_|refine zW ?_)
    refine mitI 136 rfl (fun D l hpm hD=>?_)
    have hl12:List.length (α:=EnT) l≤12:=by rw [hpm.length_eq];exact hyl
    refine loopI (σ:=Option EnT × MitG × List EnT) (fun z=>[]) (fun z=>[(136,.mit 6001 tI .bool l z.1 (some z.2.1)),(18,.box [.int .i64 w,.int .i64 (tchF z.2.2),.own 6000]),(6000,.seq tI (whyF z.2.2))]) (fun z=>Vis l z.2.2 z.2.1.was) (fun z=>z.2.1.left) (none,D,[]) rfl (fun _=>rfl) rfl ?_ ?_ ?_
    ·exact Vis.nil hD
    ·repeat' (first|exact trivial|with_reducible exact rfl|refine And.intro ?_ ?_)
     all_goals rfl
    rintro ⟨cur,D1,P⟩ hV
    dsimp only at hV ⊢
    have hPl:(whyF P).length≤12:=Nat.le_trans whyF_len (Nat.le_trans hV.len hl12)
    refine zS ?_
    refine nextI rfl rfl rfl rfl rfl rfl (fun _ _=>rfl) (fun hall=>?_) (fun k e D2 hk hwk hD2 hleft=>?_)
    ·have hP:P.Perm (E w):=((hV.all hall).trans hpm).trans hyp
     have hv:verE E w=(w,tchF P,Gn.sortI (whyF P)):=by unfold verE;rw [tchF_perm hP,Gn.sortI_perm (whyF_perm hP)]
     repeat' (first|refine zN ?_|refine zE ?_|refine zP ?_|refine pD ?_|refine zQ ?_|refine zR ?_|refine zW ?_)
     refine unitI 136 rfl ?_
     refine mapPermI (k:=.int .i64) (v:=.bool) 6001 y.2 (by rfl) hpm ?_
     refine backI 5001 (by rfl) (by rfl) (by rfl) hy ?_
     rw [hself]
     refine condF rfl ?_
     repeat' (first|refine zN ?_|refine zE ?_|refine zP ?_|refine pD ?_|refine pC (by first|exact hPl|(show (_+1) * _≤_;omega)|omega) ?_|refine zQ ?_|refine zR ?_|refine zW ?_)
     refine roundI (i+1) rfl ?_ ?_ ?_
     ·show i+1≤List.length (α:=Int) ws
      omega
     ·show List.length (α:=Int) ws - (i+1) < List.length (α:=Int) ws - i
      omega
     ·repeat' (first|exact trivial|with_reducible exact rfl|refine And.intro ?_ ?_)
      all_goals first|rfl|(rw [hnx,hv])
    ·obtain ⟨id,sure⟩:=e
     have hV2:=hV.step hk hwk (fun q hq=>hD2 q hq)
     repeat' (first|refine zN ?_|refine zE ?_|refine zP ?_|refine pD ?_|refine zQ ?_|refine zR ?_|refine zW ?_)
     refine condT rfl ?_
     repeat' (first|refine zN ?_|refine zE ?_|refine zP ?_|refine pD ?_|refine zQ ?_|refine zR ?_|refine zW ?_)
     have htc:tchF P=2∨tchF P < 2:=by
      unfold tchF
      cases P.any (·.2)
      ·cases P.isEmpty
       ·exact .inr (by decide)
       ·exact .inr (by decide)
      ·exact .inl rfl
     cases sure with
     | true =>
       refine condI rfl (fun c=>?_) (fun c=>?_)
       ·have c:(true&&decide (tchF P < 2))=true:=c
        simp only [Bool.true_and,decide_eq_true_eq] at c
        have hs:=step_first (Q:=P) (id:=id) (by omega)
        repeat' (first|refine zN ?_|refine zE ?_|refine zP ?_|refine pD ?_|refine zQ ?_|refine zR ?_|refine zW ?_)
        refine roundI (some (id,true),D2,P++[(id,true)]) rfl ?_ ?_ ?_
        ·exact hV2
        ·exact hleft
        ·repeat' (first|exact trivial|with_reducible exact rfl|refine And.intro ?_ ?_)
         all_goals first|rfl|exact (hs.1)|exact (hs.2)|exact hs.1.symm|exact hs.2.symm
       ·have c:(true&&decide (tchF P < 2))=false:=c
        simp only [Bool.true_and,decide_eq_false_iff_not] at c
        have h2:tchF P=2:=by omega
        have hs:=step_sure (Q:=P) (id:=id) h2
        rw [← h2] at hs
        repeat' (first|refine zN ?_|refine zE ?_|refine zP ?_|refine pD ?_|refine zQ ?_|refine zR ?_|refine zW ?_)
        refine condF rfl ?_
        repeat' (first|refine zN ?_|refine zE ?_|refine zP ?_|refine pD ?_|refine zQ ?_|refine zR ?_|refine zW ?_)
        refine condF rfl ?_
        repeat' (first|refine zN ?_|refine zE ?_|refine zP ?_|refine pD ?_|refine pC (by first|(show (_+1) * _≤_;omega)|omega) ?_|refine zQ ?_|refine zR ?_|refine zW ?_)
        refine roundI (some (id,true),D2,P++[(id,true)]) rfl ?_ ?_ ?_
        ·exact hV2
        ·exact hleft
        ·repeat' (first|exact trivial|with_reducible exact rfl|refine And.intro ?_ ?_)
         all_goals first|rfl|exact (hs.1)|exact (hs.2)|exact hs.1.symm|exact hs.2.symm
     | false =>
       refine condF rfl ?_
       repeat' (first|refine zN ?_|refine zE ?_|refine zP ?_|refine pD ?_|refine zQ ?_|refine zR ?_|refine zW ?_)
       refine condI rfl (fun c=>?_) (fun c=>?_)
       ·have c:(true&&decide (tchF P=2))=true:=c
        simp only [Bool.true_and,decide_eq_true_eq] at c
        have hs:=step_skip (Q:=P) (id:=id) c
        repeat' (first|refine zN ?_|refine zE ?_|refine zP ?_|refine pD ?_|refine zQ ?_|refine zR ?_|refine zW ?_)
        refine roundI (some (id,false),D2,P++[(id,false)]) rfl ?_ ?_ ?_
        ·exact hV2
        ·exact hleft
        ·repeat' (first|exact trivial|with_reducible exact rfl|refine And.intro ?_ ?_)
         all_goals first|rfl|exact (hs.1)|exact (hs.2)|exact hs.1.symm|exact hs.2.symm
       ·have c:(true&&decide (tchF P=2))=false:=c
        simp only [Bool.true_and,decide_eq_false_iff_not] at c
        have hs:=step_may (Q:=P) (id:=id) c
        repeat' (first|refine zN ?_|refine zE ?_|refine zP ?_|refine pD ?_|refine zQ ?_|refine zR ?_|refine zW ?_)
        refine condT rfl ?_
        repeat' (first|refine zN ?_|refine zE ?_|refine zP ?_|refine pD ?_|refine pC (by first|(show (_+1) * _≤_;omega)|omega) ?_|refine zQ ?_|refine zR ?_|refine zW ?_)
        refine roundI (some (id,false),D2,P++[(id,false)]) rfl ?_ ?_ ?_
        ·exact hV2
        ·exact hleft
        ·repeat' (first|exact trivial|with_reducible exact rfl|refine And.intro ?_ ?_)
         all_goals first|rfl|exact (hs.1)|exact (hs.2)|exact hs.1.symm|exact hs.2.symm
 ·simp only [decide_eq_false_iff_not] at c1
  have hie:i=List.length (α:=Int) ws:=by omega
  rw [hie,List.take_length]
  repeat' (first|refine zN ?_|refine zE ?_|refine zP ?_|refine pD ?_|refine zQ ?_|refine zR ?_|refine zW ?_)
  refine endR rfl ?_
  repeat' (first|exact trivial|exact rfl|refine ⟨rfl,?_⟩|refine And.intro ?_ ?_)
end Go.AM.YtbepaplaahcnkaaGreat.Ex
end
