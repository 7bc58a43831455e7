/- ReH, ReI. -/
import Derived.Test.YtmohhhbgcehnpaaGreatPm24
import Derived.Test.YtmohhhbgcehnpaaGreatPm26

section
set_option linter.all false
namespace Go.AM.YtmohhhbgcehnpaaGreat.Re
open Go.Proofs
set_option maxRecDepth 100000
set_option maxHeartbeats 4000000
def stG (b:Int):CalT→Int→List NeedT→List PairT→Option (List StT)
 | _,_,[],_=>some []
 | _,_,_::_,[]=>none
 | c,t,x::ns,p::ch =>
   bif (firstF c p.1 (t+b) x.2.2).2 then
    bif (firstF (bookG c p.1 (t+b) x.2.2) p.2 ((firstF c p.1 (t+b) x.2.2).1+x.2.2 - 1+b) x.2.2).2 then
     (stG b (bookG (bookG c p.1 (t+b) x.2.2) p.2 ((firstF c p.1 (t+b) x.2.2).1+x.2.2 - 1+b) x.2.2)
      (max (firstF c p.1 (t+b) x.2.2).1 (firstF (bookG c p.1 (t+b) x.2.2) p.2 ((firstF c p.1 (t+b) x.2.2).1+x.2.2 - 1+b) x.2.2).1+x.2.2) ns ch).map
      fun l=>(x.2.1,x.2.2,(p.1,(firstF c p.1 (t+b) x.2.2).1),(p.2,(firstF (bookG c p.1 (t+b) x.2.2) p.2 ((firstF c p.1 (t+b) x.2.2).1+x.2.2 - 1+b) x.2.2).1))::l
    else none
   else none
def sel {α β:Type} (o:Option α) (x y:β):β:=match o with
 | some _=>x
 | none=>y
def PlP (c:CalT) (e b:Int) (ns:List tNeed.El) (ch:List tPair.El) (ws:List tWin.El):Prop :=
 (CalG c∧lenF c≤800000)∧(0≤e∧e≤1000000∧0≤b∧b≤10000)∧(ns.length≤8∧ch.length=ns.length∧ws.length≤1000)∧∀ x∈ns,(0:Int)≤x.2.2∧x.2.2≤(10000:Int)
def planS:Spec:=⟨true,fun args rows=>match args,rows with
 | [.ptr 0 0,.agg [.int .i64 e,.int .i64 a,.int .i64 b,.sl (.pair (.slice (.int .i64)) (.pair (.int .i64) (.int .i64))) ns,.sl (.pair (.int .i64) (.pair (.int .i64) (.int .i64))) ws],.sl (.pair (.int .i64) (.int .i64)) ch],[.arr (.pair (.int .i64) (.pair (.int .i64) (.pair (.int .i64) (.int .i64)))) c none] =>
   some ⟨PlP c e b ns ch ws,.tup [.agg [.int .i64 (sel (stG b c e ns ch) e 0),.int .i64 (sel (stG b c e ns ch) a 0),.int .i64 (sel (stG b c e ns ch) b 0),.sl tStage ((stG b c e ns ch).getD []),.sl tWin (sel (stG b c e ns ch) ws [])],.bool (stG b c e ns ch).isSome],[.arr Bk c none],true⟩
 | _,_=>none⟩
def sigPlan:List (Nat × Spec):=[(53,calCloneS),(101,cloneWS),(102,rbookS),(65,endS)]
theorem sigPlanOk:SigOk Tryz.prog (look sigPlan):=sigCons (sigCons (sigCons (sigCons sigNil
 Tryz.func65 (by kernel_rfl) (c:=body Tryz.f65) rfl endOk)
 Tryz.func102 (by kernel_rfl) (c:=body Tryz.f102) rfl rbookOk)
 Tryz.func101 (by kernel_rfl) (c:=body Tryz.f101) rfl cloneWOk)
 Tryz.func53 (by kernel_rfl) (c:=body Tryz.f53) rfl calCloneOk
theorem planOk:SpecSound Tryz.prog 64 planS:=by
 refine soundR (envOf sigPlanOk) Tryz.func64 (c:=body Tryz.f64) rfl (by kernel_rfl) rfl ?_
 intro args rows out hf hpre
 split at hf <;> try (cases hf;done)
 rename_i e a b ns ws ch c
 cases hf
 refine ⟨Nat.le_of_ble_eq_true rfl,initI (args:=[.ptr 0 0,.agg [.int .i64 e,.int .i64 a,.int .i64 b,.sl tNeed ns,.sl tWin ws],.sl tPair ch]) (rows:=[.arr Bk c none]) rfl ?_⟩
 obtain ⟨⟨hg,hl⟩,⟨he0,he1,hb0,hb1⟩,⟨hn,hch,hw⟩,hns⟩:=hpre
 obtain ⟨o,ho⟩:∃ o,o=stG b c e ns ch:=⟨_,rfl⟩
 rw [← ho]
 repeat' (first|refine zN ?_|refine zE ?_|refine zP ?_|refine pD ?_|refine pC (by first|exact hg.cal (by omega)|omega) ?_|refine zS ?_|refine zR ?_|refine zO ?_|refine zB ?_|refine zX ?_|refine zT ?_|refine skipI rfl ?_)
 refine loopI (σ:=Nat × List StT × CalT × Int) (fun s=>[(8,.ptr 3000 0),(10,.int .i64 s.2.2.2),(32,.int .i64 s.1)]) (fun s=>[(3000,.arr Bk s.2.2.1 none),(9,.box [.int .i64 e,.int .i64 a,.int .i64 b,.own 3001,.own 3002]),(3001,.seq tStage s.2.1),(3002,.seq tWin ws)]) (fun s=>(s.1≤ns.length∧s.2.1.length=s.1)∧(CalG s.2.2.1∧lenF s.2.2.1≤lenF c+2 * s.1)∧(0≤s.2.2.2∧s.2.2.2≤1000000)∧o=(stG b s.2.2.1 s.2.2.2 (ns.drop s.1) (ch.drop s.1)).map (s.2.1++·)) (fun s=>ns.length - s.1) (0,[],c,e) rfl (fun _=>rfl) rfl ?_ ?_ ?_
 ·refine ⟨⟨Nat.zero_le _,rfl⟩,⟨hg,by simp⟩,⟨he0,he1⟩,?_⟩
  rw [ho]
  show _=(stG b c e ns ch).map fun l=>l
  simp
 ·repeat' (first|exact trivial|exact rfl|refine ⟨rfl,?_⟩|refine And.intro ?_ ?_)
 rintro ⟨i,acc,cal,t⟩ ⟨⟨hi,hacc⟩,⟨hcg,hcl⟩,⟨ht0,ht1⟩,hinv⟩
 dsimp only at hi hacc hcg hcl ht0 ht1 hinv ⊢
 repeat' (first|refine zN ?_|refine zE ?_|refine zP ?_|refine pD ?_|refine zS ?_|refine zR ?_|refine zO ?_|refine zB ?_|refine zX ?_|refine zT ?_|refine skipI rfl ?_)
 refine condI rfl (fun c1=>?_) (fun c1=>?_)
 ·simp only [decide_eq_true_eq] at c1
  have hil:i < ns.length:=by omega
  have hin:((i:Int)).toNat=i:=by omega
  obtain ⟨x,hx⟩:∃ x:NeedT,x=getI ns tNeed.dflt i:=⟨_,rfl⟩
  obtain ⟨p,hp⟩:∃ p:PairT,p=getI ch tPair.dflt i:=⟨_,rfl⟩
  have hxb:(0:Int)≤x.2.2∧x.2.2≤(10000:Int):=by rw [hx];exact hns _ (Pl.getI_mem hil)
  rw [drop_getI (d:=tNeed.dflt) hil,drop_getI (d:=tPair.dflt) (by omega),← hx,← hp] at hinv
  have hx':getI ns tNeed.dflt ((i:Int)).toNat=x:=by rw [hin];exact hx.symm
  have hp':getI ch tPair.dflt ((i:Int)).toNat=p:=by rw [hin];exact hp.symm
  repeat' (first|refine zN ?_|refine zE ?_|refine zP ?_|refine pD ?_|refine pC (by first|omega|(rw [hx'];unfold In64;omega)|(simp only [hin];omega)|exact ⟨hcg,by omega⟩) ?_|refine zS ?_|refine zR ?_|refine zO ?_|refine zB ?_|refine zX ?_|refine zT ?_|refine skipI rfl ?_)
  simp only [hx',hp']
  obtain ⟨m,hm⟩:∃ m,m=firstF cal p.1 (t+b) x.2.2:=⟨_,rfl⟩
  obtain ⟨cb,hcb⟩:∃ cb,cb=bookG cal p.1 (t+b) x.2.2:=⟨_,rfl⟩
  have hcbg:=bookG_good hcg p.1 (t+b) x.2.2
  rw [← hcb] at hcbg
  have hst:stG b cal t (x::ns.drop (i+1)) (p::ch.drop (i+1))=bif m.2 then bif (firstF cb p.2 (m.1+x.2.2 - 1+b) x.2.2).2 then (stG b (bookG cb p.2 (m.1+x.2.2 - 1+b) x.2.2) (max m.1 (firstF cb p.2 (m.1+x.2.2 - 1+b) x.2.2).1+x.2.2) (ns.drop (i+1)) (ch.drop (i+1))).map fun l=>(x.2.1,x.2.2,(p.1,m.1),(p.2,(firstF cb p.2 (m.1+x.2.2 - 1+b) x.2.2).1))::l else none else none:=by rw [hm,hcb];rfl
  rw [hst] at hinv
  simp only [← hm,← hcb]
  refine condI rfl (fun c2=>?_) (fun c2=>?_)
  ·have c2':m.2=false:=by simpa using c2
   rw [c2'] at hinv
   have hinv:o=none:=hinv
   rw [hinv]
   repeat' (first|refine zN ?_|refine zE ?_|refine zP ?_|refine pD ?_|refine zS ?_|refine zR ?_|refine zO ?_|refine zB ?_|refine zX ?_|refine zT ?_|refine skipI rfl ?_)
   refine endR rfl ?_
   repeat' (first|exact trivial|exact rfl|refine ⟨rfl,?_⟩|refine And.intro ?_ ?_)
  have c2':m.2=true:=by simpa using c2
  obtain ⟨_,⟨hm0,hm1⟩,_⟩:=first_facts hcg (by rw [← hm];exact c2')
  rw [← hm] at hm0 hm1
  rw [c2',cond_true] at hinv
  repeat' (first|refine zN ?_|refine zE ?_|refine zP ?_|refine pD ?_|refine pC (by first|omega|(simp only [hx',hp'];unfold In64;omega)|(simp only [hin];omega)|exact ⟨hcbg.1,by omega⟩) ?_|refine zS ?_|refine zR ?_|refine zO ?_|refine zB ?_|refine zX ?_|refine zT ?_|refine skipI rfl ?_)
  simp only [hx',hp']
  obtain ⟨z,hz⟩:∃ z,z=firstF cb p.2 (m.1+x.2.2 - 1+b) x.2.2:=⟨_,rfl⟩
  obtain ⟨cc,hcc⟩:∃ cc,cc=bookG cb p.2 (m.1+x.2.2 - 1+b) x.2.2:=⟨_,rfl⟩
  have hccg:=bookG_good hcbg.1 p.2 (m.1+x.2.2 - 1+b) x.2.2
  rw [← hcc] at hccg
  simp only [← hz,← hcc] at hinv ⊢
  refine condI rfl (fun c3=>?_) (fun c3=>?_)
  ·have c3':z.2=false:=by simpa using c3
   rw [c3'] at hinv
   have hinv:o=none:=hinv
   rw [hinv]
   repeat' (first|refine zN ?_|refine zE ?_|refine zP ?_|refine pD ?_|refine zS ?_|refine zR ?_|refine zO ?_|refine zB ?_|refine zX ?_|refine zT ?_|refine skipI rfl ?_)
   refine endR rfl ?_
   repeat' (first|exact trivial|exact rfl|refine ⟨rfl,?_⟩|refine And.intro ?_ ?_)
  have c3':z.2=true:=by simpa using c3
  obtain ⟨_,⟨hz0,hz1⟩,_⟩:=first_facts hcbg.1 (by rw [← hz];exact c3')
  rw [← hz] at hz0 hz1
  rw [c3',cond_true] at hinv
  repeat' (first|refine zN ?_|refine zE ?_|refine zP ?_|refine pD ?_|refine pC (by first|omega|(unfold In64;omega)|(simp only [List.length_cons,List.length_nil,hacc];omega)) ?_|refine zS ?_|refine zR ?_|refine zO ?_|refine zB ?_|refine zX ?_|refine zT ?_|refine skipI rfl ?_)
  refine roundI (i+1,acc++[(x.2.1,x.2.2,(p.1,m.1),(p.2,z.1))],cc,max m.1 z.1+x.2.2) rfl ?_ ?_ ?_
  ·refine ⟨⟨by show i+1≤ns.length;omega,by rw [List.length_append,hacc];rfl⟩,⟨hccg.1,by show lenF cc≤lenF c+2 * (i+1);omega⟩,⟨by show 0≤max m.1 z.1+x.2.2;omega,by show max m.1 z.1+x.2.2≤1000000;omega⟩,?_⟩
   rw [hinv,Option.map_map]
   show Option.map _ _=Option.map _ _
   congr 1
   funext l
   simp
  ·show ns.length - (i+1) < ns.length - i
   omega
  ·repeat' (first|exact trivial|with_reducible exact rfl|refine And.intro ?_ ?_)
   all_goals rfl
 ·simp only [decide_eq_false_iff_not] at c1
  rw [List.drop_eq_nil_of_le (by omega)] at hinv
  have hinv:o=some (acc++[]):=hinv
  rw [List.append_nil] at hinv
  rw [hinv]
  refine freezeI 3001 rfl ?_
  refine freezeI 3002 rfl ?_
  repeat' (first|refine zN ?_|refine zE ?_|refine zP ?_|refine pD ?_|refine zS ?_|refine zR ?_|refine zO ?_|refine zB ?_|refine zX ?_|refine zT ?_|refine skipI rfl ?_)
  refine endR rfl ?_
  repeat' (first|exact trivial|exact rfl|refine ⟨rfl,?_⟩|refine And.intro ?_ ?_)
end Go.AM.YtmohhhbgcehnpaaGreat.Re
end

section
set_option linter.all false
namespace Go.AM.YtmohhhbgcehnpaaGreat.Re
open Go.Proofs
set_option maxRecDepth 100000
set_option maxHeartbeats 4000000
theorem chL_len:∀ {ns:List NeedT} {l ch:List PairT},ch∈chL ns l→ch.length=l.length+ns.length
 | [],l,ch,h=>by
   simp only [chL,List.mem_singleton] at h
   rw [h];simp
 | x::ns,l,ch,h=>by
   simp only [chL,rowOf,List.mem_flatMap] at h
   obtain ⟨a,_,b,_,h⟩:=h
   cases hab:decide (a≠b) <;> rw [hab] at h
   ·simp at h
   ·have:=chL_len h
    rw [this];simp;omega
structure StB (x:StT):Prop where
 m0:0≤mSt x
 m1:mSt x+sMax x≤1000000
 s0:0≤sSt x
 s1:sSt x+sMax x≤1000000
 l0:1≤sMax x
theorem stG_facts {b:Int}:∀ {ns:List NeedT} {c:CalT} {t:Int} {ch:List PairT} {xs:List StT},CalG c→stG b c t ns ch=some xs→xs.length=ns.length∧∀ x∈xs,StB x
 | [],c,t,ch,xs,_,h=>by
   simp only [stG,Option.some.injEq] at h
   subst h
   simp
 | _::_,c,t,[],xs,_,h=>by simp [stG] at h
 | x::ns,c,t,p::ch,xs,hc,h=>by
   simp only [stG] at h
   cases h1:(firstF c p.1 (t+b) x.2.2).2 <;> rw [h1] at h
   ·cases h
   ·rw [cond_true] at h
    cases h2:(firstF (bookG c p.1 (t+b) x.2.2) p.2 ((firstF c p.1 (t+b) x.2.2).1+x.2.2 - 1+b) x.2.2).2 <;> rw [h2] at h
    ·cases h
    ·rw [cond_true,Option.map_eq_some_iff] at h
     obtain ⟨l,h3,rfl⟩:=h
     have hg1:=(bookG_good hc p.1 (t+b) x.2.2).1
     have hg2:=(bookG_good hg1 p.2 ((firstF c p.1 (t+b) x.2.2).1+x.2.2 - 1+b) x.2.2).1
     obtain ⟨h4,h5⟩:=stG_facts hg2 h3
     obtain ⟨⟨_,_,h8⟩,⟨h6,h7⟩,_⟩:=first_facts hc h1
     obtain ⟨_,⟨h9,h10⟩,_⟩:=first_facts hg1 h2
     refine ⟨by simp [h4],fun y hy=>?_⟩
     rcases List.mem_cons.1 hy with rfl|hy
     ·exact ⟨by show 0≤(firstF c p.1 (t+b) x.2.2).1;omega,h7,by show 0≤(firstF (bookG c p.1 (t+b) x.2.2) p.2 ((firstF c p.1 (t+b) x.2.2).1+x.2.2 - 1+b) x.2.2).1;omega,h10,h8⟩
     ·exact h5 y hy
def overG (x:StT):Int:=max (mSt x) (sSt x)+sMax x
def lastG (xs:List StT):StT:=getI xs tStage.dflt (xs.length - 1)
abbrev DlT:=List (Int × Int)
def findD (kvs:DlT) (i:Nat):Option Int:=mapFind (.int .i64) (.int .i64) (i:Int) kvs
def lateD (kvs:DlT) (i:Nat) (s:StT):Bool:=(findD kvs i).isSome&&decide (max (mSt s) (sSt s) > (findD kvs i).getD 0)
def lateAny (kvs:DlT) (xs:List StT):Bool:=(List.range xs.length).any fun j=>lateD kvs j (getI xs tStage.dflt j)
abbrev BestT:=Option (List StT × Int)
def bStg (s:BestT):List StT:=match s with
 | some x=>x.1
 | none=>[]
def bLst (s:BestT):Int:=match s with
 | some x=>x.2
 | none=>0
def stepG (c:CalT) (e a b:Int) (ns:List NeedT) (ws:List tWin.El) (kvs:DlT) (s:BestT) (ch:List PairT):BestT:=match stG b c e ns ch with
 | none=>s
 | some xs=>bif s.isSome&&decide (overG (lastG xs)≥bLst s) then s else bif lateAny kvs xs then s else bif safeF e a b xs ws then some (xs,overG (lastG xs)) else s
def foldB (c:CalT) (e a b:Int) (ns:List NeedT) (ws:List tWin.El) (kvs:DlT) (q:List (List PairT)):BestT:=q.foldl (stepG c e a b ns ws kvs) none
def bestG (c:CalT) (e a b:Int) (ns:List NeedT) (ws:List tWin.El) (kvs:DlT):BestT:=foldB c e a b ns ws kvs (chL ns [])
def BeP (c:CalT) (e b:Int) (ns:List tNeed.El) (ws:List tWin.El):Prop :=
 (CalG c∧lenF c≤800000)∧(0≤e∧e≤1000000∧0≤b∧b≤10000)∧(1≤ns.length∧ns.length≤8∧ws.length≤1000)∧(∀ x∈ns,(0:Int)≤x.2.2∧x.2.2≤(10000:Int))∧NeedsSm ns
def bestV (o:BestT) (e a b:Int) (ws:List tWin.El):AV :=
 .tup [.agg [.int .i64 (sel o e 0),.int .i64 (sel o a 0),.int .i64 (sel o b 0),.sl tStage (bStg o),.sl tWin (sel o ws [])],.bool o.isSome]
def bestS:Spec:=⟨true,fun args rows=>match args,rows with
 | [.ptr 0 0,.agg [.int .i64 e,.int .i64 a,.int .i64 b,.sl (.pair (.slice (.int .i64)) (.pair (.int .i64) (.int .i64))) ns,.sl (.pair (.int .i64) (.pair (.int .i64) (.int .i64))) ws],.ext .nilm],[.arr (.pair (.int .i64) (.pair (.int .i64) (.pair (.int .i64) (.int .i64)))) c none] =>
   some ⟨BeP c e b ns ws,bestV (bestG c e a b ns ws []) e a b ws,[.arr Bk c none],true⟩
 | [.ptr 0 0,.agg [.int .i64 e,.int .i64 a,.int .i64 b,.sl (.pair (.slice (.int .i64)) (.pair (.int .i64) (.int .i64))) ns,.sl (.pair (.int .i64) (.pair (.int .i64) (.int .i64))) ws],.own 1],[.arr (.pair (.int .i64) (.pair (.int .i64) (.pair (.int .i64) (.int .i64)))) c none,.map (.int .i64) (.int .i64) kvs] =>
   some ⟨BeP c e b ns ws,bestV (bestG c e a b ns ws kvs) e a b ws,[.arr Bk c none,.map (.int .i64) (.int .i64) kvs],true⟩
 | _,_=>none⟩
def sigBest:List (Nat × Spec):=[(63,choicesS),(98,chItS),(64,planS),(65,endS),(66,checkS)]
theorem sigBestOk:SigOk Tryz.prog (look sigBest):=sigCons (sigCons (sigCons (sigCons (sigCons sigNil
 Tryz.func66 (by kernel_rfl) (c:=body Tryz.f66) rfl checkOk)
 Tryz.func65 (by kernel_rfl) (c:=body Tryz.f65) rfl endOk)
 Tryz.func64 (by kernel_rfl) (c:=body Tryz.f64) rfl planOk)
 Tryz.func98 (by kernel_rfl) (c:=body Tryz.f98) rfl chItOk)
 Tryz.func63 (by kernel_rfl) (c:=body Tryz.f63) rfl choicesOk
theorem cut_none {α:Type} (L:List α):cut (contOf fun _=>none) [] L=(L,true):=by
 rw [cut_all (fun _ _ _ _=>rfl)]
 rfl
theorem lateAny_no {kvs:DlT} {xs:List StT} (h:∀ j,j < xs.length→lateD kvs j (getI xs tStage.dflt j)=false):lateAny kvs xs=false:=by
 unfold lateAny
 rw [List.any_eq_false]
 intro j hj
 rw [h j (List.mem_range.1 hj)]
 simp
theorem lateAny_yes {kvs:DlT} {xs:List StT} {i:Nat} (hi:i < xs.length) (h:lateD kvs i (getI xs tStage.dflt i)=true):lateAny kvs xs=true:=List.any_eq_true.2 ⟨i,List.mem_range.2 hi,h⟩
theorem bestOk:SpecSound Tryz.prog 36 bestS:=by
 refine soundR (envOf sigBestOk) Tryz.func36 (c:=body Tryz.f36) rfl (by kernel_rfl) rfl ?_
 intro args rows out hf hpre
 unfold bestS at hf
 split at hf <;> try (cases hf;done)
 ·rename_i e a b ns ws c
  cases hf
  refine ⟨Nat.le_of_ble_eq_true rfl,initI (args:=[.ptr 0 0,.agg [.int .i64 e,.int .i64 a,.int .i64 b,.sl tNeed ns,.sl tWin ws],.ext .nilm]) (rows:=[.arr Bk c none]) rfl ?_⟩
  obtain ⟨kvs,hkvs⟩:∃ kvs:DlT,kvs=[]:=⟨_,rfl⟩
  rw [← hkvs]
  obtain ⟨⟨hg,hl⟩,⟨he0,he1,hb0,hb1⟩,⟨hn1,hn8,hw⟩,hns,hnsm⟩:=hpre
  obtain ⟨o,ho⟩:∃ o,o=bestG c e a b ns ws kvs:=⟨_,rfl⟩
  rw [← ho]
  have hFs:∀ q x,foldB c e a b ns ws kvs (q++[x])=stepG c e a b ns ws kvs (foldB c e a b ns ws kvs q) x:=fun q x=>by unfold foldB;rw [List.foldl_append];rfl
  repeat' (first|refine zN ?_|refine zE ?_|refine zP ?_|refine pD ?_|refine zS ?_|refine zR ?_|refine zO ?_|refine zB ?_|refine zX ?_|refine zT ?_|refine skipI rfl ?_)
  refine rangeI (.slice tPair) false (fun q=>[(8,.box [.int .i64 (sel (foldB c e a b ns ws kvs q) e 0),.int .i64 (sel (foldB c e a b ns ws kvs q) a 0),.int .i64 (sel (foldB c e a b ns ws kvs q) b 0),.sl tStage (bStg (foldB c e a b ns ws kvs q)),.sl tWin (sel (foldB c e a b ns ws kvs q) ws [])]),(9,.box [.bool (foldB c e a b ns ws kvs q).isSome]),(10,.box [.int .i64 (bLst (foldB c e a b ns ws kvs q))])]) (fun _=>none) (chL ns []) 23 rfl rfl rfl rfl rfl rfl rfl rfl rfl (fun _=>rfl) (fun _=>rfl) (fun _=>rfl) rfl rfl rfl ?_ ?_ ?_ ?_ ?_ ?_
  ·exact ⟨rfl,rfl,rfl,by repeat' (first|exact trivial|exact rfl|refine And.intro ?_ ?_),by repeat' (first|exact trivial|exact rfl|refine And.intro ?_ ?_),rfl,rfl,rfl⟩
  ·repeat' (first|exact trivial|exact rfl|refine ⟨rfl,?_⟩|refine And.intro ?_ ?_)
  ·rfl
  ·intro J
   exact ⟨_,_,rfl,fun h=>⟨hnsm,h⟩,rfl,rfl⟩
  ·intro l q x hq hjq hok
   refine ⟨_,rfl,?_⟩
   have hxl:x.length=ns.length:=by
    have:=chL_len (hq.subset (List.mem_append_right _ (List.mem_singleton.2 rfl)))
    simpa using this
   repeat' (first|refine zN ?_|refine zE ?_|refine zP ?_|refine pD ?_|refine zS ?_|refine zR ?_|refine zO ?_|refine zB ?_|refine zX ?_|refine zT ?_|refine skipI rfl ?_)
   refine asN ?_
   repeat' (first|refine zN ?_|refine zE ?_|refine zP ?_|refine zS ?_|refine zO ?_|refine zB ?_|refine zX ?_|refine zT ?_|refine skipI rfl ?_)
   refine zR ?_
   repeat' (first|with_reducible refine pN ?_|refine pD ?_|refine pC (by exact ⟨⟨hg,hl⟩,⟨he0,he1,hb0,hb1⟩,⟨hn8,hxl,hw⟩,hns⟩) ?_)
   repeat with_reducible refine cN ?_
   have hfs:=hFs q x
   unfold stepG at hfs
   cases hs:stG b c e ns x with
   | none =>
     rw [hs] at hfs
     have hfs:foldB c e a b ns ws kvs (q++[x])=foldB c e a b ns ws kvs q:=hfs
     repeat' (first|refine zN ?_|refine zE ?_|refine zP ?_|refine pD ?_|refine zS ?_|refine zR ?_|refine zO ?_|refine zB ?_|refine zX ?_|refine zT ?_|refine skipI rfl ?_)
     refine condT rfl ?_
     repeat' (first|refine zN ?_|refine zE ?_|refine zP ?_|refine pD ?_|refine zS ?_|refine zR ?_|refine zO ?_|refine zB ?_|refine zX ?_|refine zT ?_|refine skipI rfl ?_)
     refine yN rfl rfl ?_
     rw [hfs]
     repeat' (first|exact trivial|exact rfl|refine ⟨rfl,?_⟩|refine And.intro ?_ ?_)
   | some xs =>
     rw [hs] at hfs
     obtain ⟨hxn,hxb⟩:=stG_facts hg hs
     have hx1:1≤xs.length:=by omega
     have hln:(((xs.length:Nat):Int) - 1).toNat=xs.length - 1:=by omega
     have hlb:StB (lastG xs):=hxb _ (Pl.getI_mem (by omega))
     obtain ⟨g1,g2,g3,g4,g5⟩:=hlb
     have hov:0≤overG (lastG xs)∧overG (lastG xs)≤1000000:=by unfold overG;omega
     repeat' (first|refine zN ?_|refine zE ?_|refine zP ?_|refine pD ?_|refine zS ?_|refine zR ?_|refine zO ?_|refine zB ?_|refine zX ?_|refine zT ?_|refine skipI rfl ?_)
     refine condF rfl ?_
     repeat' (first|refine zN ?_|refine zE ?_|refine zP ?_|refine zS ?_|refine zO ?_|refine zB ?_|refine zX ?_|refine zT ?_|refine skipI rfl ?_)
     refine zR ?_
     repeat' (first|with_reducible refine pN ?_|refine pD ?_|refine pC (by first|(simp only [Option.getD_some];omega)|(simp only [Option.getD_some];unfold In64;omega)|(show In64 (overG (getI xs tStage.dflt (((xs.length:Nat):Int) - 1).toNat));rw [hln];show In64 (overG (lastG xs));unfold In64;omega)) ?_)
     repeat with_reducible refine cN ?_
     simp only [Option.getD_some,hln]
     repeat' (first|refine zN ?_|refine zE ?_|refine zP ?_|refine pD ?_|refine zS ?_|refine zR ?_|refine zO ?_|refine zB ?_|refine zX ?_|refine zT ?_|refine skipI rfl ?_)
     refine condI rfl (fun c3=>?_) (fun c3=>?_)
     ·have hc3:(Option.isSome (foldB c e a b ns ws kvs q)&&decide (overG (lastG xs)≥bLst (foldB c e a b ns ws kvs q)))=true:=c3
      simp only [hc3,cond_true] at hfs
      repeat' (first|refine zN ?_|refine zE ?_|refine zP ?_|refine pD ?_|refine zS ?_|refine zR ?_|refine zO ?_|refine zB ?_|refine zX ?_|refine zT ?_|refine skipI rfl ?_)
      refine yN rfl rfl ?_
      rw [hfs]
      repeat' (first|exact trivial|exact rfl|refine ⟨rfl,?_⟩|refine And.intro ?_ ?_)
     have hc3:(Option.isSome (foldB c e a b ns ws kvs q)&&decide (overG (lastG xs)≥bLst (foldB c e a b ns ws kvs q)))=false:=c3
     simp only [hc3,cond_false] at hfs
     repeat' (first|refine zN ?_|refine zE ?_|refine zP ?_|refine pD ?_|refine zS ?_|refine zR ?_|refine zO ?_|refine zB ?_|refine zX ?_|refine zT ?_|refine skipI rfl ?_)
     refine loopI (σ:=Nat) (fun i=>[(52,.int .i64 i)]) (fun i=>[]) (fun i=>i≤xs.length∧∀ j,j < i→lateD kvs j (getI xs tStage.dflt j)=false) (fun i=>xs.length - i) 0 rfl (fun _=>rfl) rfl ?_ ?_ ?_
     ·exact ⟨Nat.zero_le _,fun j hj=>by omega⟩
     ·repeat' (first|exact trivial|exact rfl|refine ⟨rfl,?_⟩|refine And.intro ?_ ?_)
     rintro i ⟨hi,hb⟩
     repeat' (first|refine zN ?_|refine zE ?_|refine zP ?_|refine pD ?_|refine zS ?_|refine zR ?_|refine zO ?_|refine zB ?_|refine zX ?_|refine zT ?_|refine skipI rfl ?_)
     refine condI rfl (fun c4=>?_) (fun c4=>?_)
     ·simp only [decide_eq_true_eq] at c4
      have hil:i < xs.length:=by omega
      have hin:((i:Int)).toNat=i:=by omega
      repeat' (first|refine zN ?_|refine zE ?_|refine zP ?_|refine pD ?_|refine pC (by (simp only [hin];omega)) ?_|refine zS ?_|refine zR ?_|refine zO ?_|refine zB ?_|refine zX ?_|refine zT ?_|refine skipI rfl ?_)
      refine condI rfl (fun c5=>?_) (fun c5=>?_)
      ·have hlt:lateD kvs i (getI xs tStage.dflt i)=true:=by first|(simp at c5;done)|(simp only [hin] at c5;exact c5)
       simp only [lateAny_yes hil hlt,cond_true] at hfs
       repeat' (first|refine zN ?_|refine zE ?_|refine zP ?_|refine pD ?_|refine zS ?_|refine zR ?_|refine zO ?_|refine zB ?_|refine zX ?_|refine zT ?_|refine skipI rfl ?_)
       refine yN rfl rfl ?_
       rw [hfs]
       repeat' (first|exact trivial|exact rfl|refine ⟨rfl,?_⟩|refine And.intro ?_ ?_)
      ·have hlt:lateD kvs i (getI xs tStage.dflt i)=false:=by first|(rw [hkvs];rfl)|(simp only [hin] at c5;exact c5)
       repeat' (first|refine zN ?_|refine zE ?_|refine zP ?_|refine pD ?_|refine zS ?_|refine zR ?_|refine zO ?_|refine zB ?_|refine zX ?_|refine zT ?_|refine skipI rfl ?_)
       refine roundI (i+1) rfl ?_ ?_ ?_
       ·refine ⟨by show i+1≤xs.length;omega,fun j hj=>?_⟩
        by_cases hji:j=i
        ·subst hji;exact hlt
        ·exact hb j (by omega)
       ·show xs.length - (i+1) < xs.length - i
        omega
       ·repeat' (first|exact trivial|with_reducible exact rfl|refine And.intro ?_ ?_)
        all_goals rfl
     ·simp only [decide_eq_false_iff_not] at c4
      simp only [lateAny_no (fun j hj=>hb j (by omega)),cond_false] at hfs
      repeat' (first|refine zN ?_|refine zE ?_|refine zP ?_|refine pD ?_|refine zS ?_|refine zR ?_|refine zO ?_|refine zB ?_|refine zX ?_|refine zT ?_|refine skipI rfl ?_)
      refine condI rfl (fun c6=>?_) (fun c6=>?_)
      ·have hc6:safeF e a b xs ws=true:=c6
       simp only [hc6,cond_true] at hfs
       repeat' (first|refine zN ?_|refine zE ?_|refine zP ?_|refine pD ?_|refine zS ?_|refine zR ?_|refine zO ?_|refine zB ?_|refine zX ?_|refine zT ?_|refine skipI rfl ?_)
       refine yN rfl rfl ?_
       rw [hfs]
       repeat' (first|exact trivial|exact rfl|refine ⟨rfl,?_⟩|refine And.intro ?_ ?_)
      ·have hc6:safeF e a b xs ws=false:=c6
       simp only [hc6,cond_false] at hfs
       repeat' (first|refine zN ?_|refine zE ?_|refine zP ?_|refine pD ?_|refine zS ?_|refine zR ?_|refine zO ?_|refine zB ?_|refine zX ?_|refine zT ?_|refine skipI rfl ?_)
       refine yN rfl rfl ?_
       rw [hfs]
       repeat' (first|exact trivial|exact rfl|refine ⟨rfl,?_⟩|refine And.intro ?_ ?_)
  ·rw [cut_none]
   have ho':foldB c e a b ns ws kvs (chL ns [])=o:=ho.symm
   rw [ho']
   repeat' (first|refine zN ?_|refine zE ?_|refine zP ?_|refine pD ?_|refine zS ?_|refine zR ?_|refine zO ?_|refine zB ?_|refine zX ?_|refine zT ?_|refine skipI rfl ?_)
   refine endR rfl ?_
   repeat' (first|exact trivial|exact rfl|refine ⟨rfl,?_⟩|refine And.intro ?_ ?_)
 ·rename_i e a b ns ws c kvs
  cases hf
  refine ⟨Nat.le_of_ble_eq_true rfl,initI (args:=[.ptr 0 0,.agg [.int .i64 e,.int .i64 a,.int .i64 b,.sl tNeed ns,.sl tWin ws],.own 1]) (rows:=[.arr Bk c none,.map (.int .i64) (.int .i64) kvs]) rfl ?_⟩
  obtain ⟨⟨hg,hl⟩,⟨he0,he1,hb0,hb1⟩,⟨hn1,hn8,hw⟩,hns,hnsm⟩:=hpre
  obtain ⟨o,ho⟩:∃ o,o=bestG c e a b ns ws kvs:=⟨_,rfl⟩
  rw [← ho]
  have hFs:∀ q x,foldB c e a b ns ws kvs (q++[x])=stepG c e a b ns ws kvs (foldB c e a b ns ws kvs q) x:=fun q x=>by unfold foldB;rw [List.foldl_append];rfl
  repeat' (first|refine zN ?_|refine zE ?_|refine zP ?_|refine pD ?_|refine zS ?_|refine zR ?_|refine zO ?_|refine zB ?_|refine zX ?_|refine zT ?_|refine skipI rfl ?_)
  refine rangeI (.slice tPair) false (fun q=>[(8,.box [.int .i64 (sel (foldB c e a b ns ws kvs q) e 0),.int .i64 (sel (foldB c e a b ns ws kvs q) a 0),.int .i64 (sel (foldB c e a b ns ws kvs q) b 0),.sl tStage (bStg (foldB c e a b ns ws kvs q)),.sl tWin (sel (foldB c e a b ns ws kvs q) ws [])]),(9,.box [.bool (foldB c e a b ns ws kvs q).isSome]),(10,.box [.int .i64 (bLst (foldB c e a b ns ws kvs q))])]) (fun _=>none) (chL ns []) 23 rfl rfl rfl rfl rfl rfl rfl rfl rfl (fun _=>rfl) (fun _=>rfl) (fun _=>rfl) rfl rfl rfl ?_ ?_ ?_ ?_ ?_ ?_
  ·exact ⟨rfl,rfl,rfl,by repeat' (first|exact trivial|exact rfl|refine And.intro ?_ ?_),by repeat' (first|exact trivial|exact rfl|refine And.intro ?_ ?_),rfl,rfl,rfl⟩
  ·repeat' (first|exact trivial|exact rfl|refine ⟨rfl,?_⟩|refine And.intro ?_ ?_)
  ·rfl
  ·intro J
   exact ⟨_,_,rfl,fun h=>⟨hnsm,h⟩,rfl,rfl⟩
  ·intro l q x hq hjq hok
   refine ⟨_,rfl,?_⟩
   have hxl:x.length=ns.length:=by
    have:=chL_len (hq.subset (List.mem_append_right _ (List.mem_singleton.2 rfl)))
    simpa using this
   repeat' (first|refine zN ?_|refine zE ?_|refine zP ?_|refine pD ?_|refine zS ?_|refine zR ?_|refine zO ?_|refine zB ?_|refine zX ?_|refine zT ?_|refine skipI rfl ?_)
   refine asN ?_
   repeat' (first|refine zN ?_|refine zE ?_|refine zP ?_|refine zS ?_|refine zO ?_|refine zB ?_|refine zX ?_|refine zT ?_|refine skipI rfl ?_)
   refine zR ?_
   repeat' (first|with_reducible refine pN ?_|refine pD ?_|refine pC (by exact ⟨⟨hg,hl⟩,⟨he0,he1,hb0,hb1⟩,⟨hn8,hxl,hw⟩,hns⟩) ?_)
   repeat with_reducible refine cN ?_
   have hfs:=hFs q x
   unfold stepG at hfs
   cases hs:stG b c e ns x with
   | none =>
     rw [hs] at hfs
     have hfs:foldB c e a b ns ws kvs (q++[x])=foldB c e a b ns ws kvs q:=hfs
     repeat' (first|refine zN ?_|refine zE ?_|refine zP ?_|refine pD ?_|refine zS ?_|refine zR ?_|refine zO ?_|refine zB ?_|refine zX ?_|refine zT ?_|refine skipI rfl ?_)
     refine condT rfl ?_
     repeat' (first|refine zN ?_|refine zE ?_|refine zP ?_|refine pD ?_|refine zS ?_|refine zR ?_|refine zO ?_|refine zB ?_|refine zX ?_|refine zT ?_|refine skipI rfl ?_)
     refine yN rfl rfl ?_
     rw [hfs]
     repeat' (first|exact trivial|exact rfl|refine ⟨rfl,?_⟩|refine And.intro ?_ ?_)
   | some xs =>
     rw [hs] at hfs
     obtain ⟨hxn,hxb⟩:=stG_facts hg hs
     have hx1:1≤xs.length:=by omega
     have hln:(((xs.length:Nat):Int) - 1).toNat=xs.length - 1:=by omega
     have hlb:StB (lastG xs):=hxb _ (Pl.getI_mem (by omega))
     obtain ⟨g1,g2,g3,g4,g5⟩:=hlb
     have hov:0≤overG (lastG xs)∧overG (lastG xs)≤1000000:=by unfold overG;omega
     repeat' (first|refine zN ?_|refine zE ?_|refine zP ?_|refine pD ?_|refine zS ?_|refine zR ?_|refine zO ?_|refine zB ?_|refine zX ?_|refine zT ?_|refine skipI rfl ?_)
     refine condF rfl ?_
     repeat' (first|refine zN ?_|refine zE ?_|refine zP ?_|refine zS ?_|refine zO ?_|refine zB ?_|refine zX ?_|refine zT ?_|refine skipI rfl ?_)
     refine zR ?_
     repeat' (first|with_reducible refine pN ?_|refine pD ?_|refine pC (by first|(simp only [Option.getD_some];omega)|(simp only [Option.getD_some];unfold In64;omega)|(show In64 (overG (getI xs tStage.dflt (((xs.length:Nat):Int) - 1).toNat));rw [hln];show In64 (overG (lastG xs));unfold In64;omega)) ?_)
     repeat with_reducible refine cN ?_
     simp only [Option.getD_some,hln]
     repeat' (first|refine zN ?_|refine zE ?_|refine zP ?_|refine pD ?_|refine zS ?_|refine zR ?_|refine zO ?_|refine zB ?_|refine zX ?_|refine zT ?_|refine skipI rfl ?_)
     refine condI rfl (fun c3=>?_) (fun c3=>?_)
     ·have hc3:(Option.isSome (foldB c e a b ns ws kvs q)&&decide (overG (lastG xs)≥bLst (foldB c e a b ns ws kvs q)))=true:=c3
      simp only [hc3,cond_true] at hfs
      repeat' (first|refine zN ?_|refine zE ?_|refine zP ?_|refine pD ?_|refine zS ?_|refine zR ?_|refine zO ?_|refine zB ?_|refine zX ?_|refine zT ?_|refine skipI rfl ?_)
      refine yN rfl rfl ?_
      rw [hfs]
      repeat' (first|exact trivial|exact rfl|refine ⟨rfl,?_⟩|refine And.intro ?_ ?_)
     have hc3:(Option.isSome (foldB c e a b ns ws kvs q)&&decide (overG (lastG xs)≥bLst (foldB c e a b ns ws kvs q)))=false:=c3
     simp only [hc3,cond_false] at hfs
     repeat' (first|refine zN ?_|refine zE ?_|refine zP ?_|refine pD ?_|refine zS ?_|refine zR ?_|refine zO ?_|refine zB ?_|refine zX ?_|refine zT ?_|refine skipI rfl ?_)
     refine loopI (σ:=Nat) (fun i=>[(52,.int .i64 i)]) (fun i=>[]) (fun i=>i≤xs.length∧∀ j,j < i→lateD kvs j (getI xs tStage.dflt j)=false) (fun i=>xs.length - i) 0 rfl (fun _=>rfl) rfl ?_ ?_ ?_
     ·exact ⟨Nat.zero_le _,fun j hj=>by omega⟩
     ·repeat' (first|exact trivial|exact rfl|refine ⟨rfl,?_⟩|refine And.intro ?_ ?_)
     rintro i ⟨hi,hb⟩
     repeat' (first|refine zN ?_|refine zE ?_|refine zP ?_|refine pD ?_|refine zS ?_|refine zR ?_|refine zO ?_|refine zB ?_|refine zX ?_|refine zT ?_|refine skipI rfl ?_)
     refine condI rfl (fun c4=>?_) (fun c4=>?_)
     ·simp only [decide_eq_true_eq] at c4
      have hil:i < xs.length:=by omega
      have hin:((i:Int)).toNat=i:=by omega
      repeat' (first|refine zN ?_|refine zE ?_|refine zP ?_|refine pD ?_|refine pC (by (simp only [hin];omega)) ?_|refine zS ?_|refine zR ?_|refine zO ?_|refine zB ?_|refine zX ?_|refine zT ?_|refine skipI rfl ?_)
      refine condI rfl (fun c5=>?_) (fun c5=>?_)
      ·have hlt:lateD kvs i (getI xs tStage.dflt i)=true:=by first|(simp at c5;done)|(simp only [hin] at c5;exact c5)
       simp only [lateAny_yes hil hlt,cond_true] at hfs
       repeat' (first|refine zN ?_|refine zE ?_|refine zP ?_|refine pD ?_|refine zS ?_|refine zR ?_|refine zO ?_|refine zB ?_|refine zX ?_|refine zT ?_|refine skipI rfl ?_)
       refine yN rfl rfl ?_
       rw [hfs]
       repeat' (first|exact trivial|exact rfl|refine ⟨rfl,?_⟩|refine And.intro ?_ ?_)
      ·have hlt:lateD kvs i (getI xs tStage.dflt i)=false:=by first|(rw [hkvs];rfl)|(simp only [hin] at c5;exact c5)
       repeat' (first|refine zN ?_|refine zE ?_|refine zP ?_|refine pD ?_|refine zS ?_|refine zR ?_|refine zO ?_|refine zB ?_|refine zX ?_|refine zT ?_|refine skipI rfl ?_)
       refine roundI (i+1) rfl ?_ ?_ ?_
       ·refine ⟨by show i+1≤xs.length;omega,fun j hj=>?_⟩
        by_cases hji:j=i
        ·subst hji;exact hlt
        ·exact hb j (by omega)
       ·show xs.length - (i+1) < xs.length - i
        omega
       ·repeat' (first|exact trivial|with_reducible exact rfl|refine And.intro ?_ ?_)
        all_goals rfl
     ·simp only [decide_eq_false_iff_not] at c4
      simp only [lateAny_no (fun j hj=>hb j (by omega)),cond_false] at hfs
      repeat' (first|refine zN ?_|refine zE ?_|refine zP ?_|refine pD ?_|refine zS ?_|refine zR ?_|refine zO ?_|refine zB ?_|refine zX ?_|refine zT ?_|refine skipI rfl ?_)
      refine condI rfl (fun c6=>?_) (fun c6=>?_)
      ·have hc6:safeF e a b xs ws=true:=c6
       simp only [hc6,cond_true] at hfs
       repeat' (first|refine zN ?_|refine zE ?_|refine zP ?_|refine pD ?_|refine zS ?_|refine zR ?_|refine zO ?_|refine zB ?_|refine zX ?_|refine zT ?_|refine skipI rfl ?_)
       refine yN rfl rfl ?_
       rw [hfs]
       repeat' (first|exact trivial|exact rfl|refine ⟨rfl,?_⟩|refine And.intro ?_ ?_)
      ·have hc6:safeF e a b xs ws=false:=c6
       simp only [hc6,cond_false] at hfs
       repeat' (first|refine zN ?_|refine zE ?_|refine zP ?_|refine pD ?_|refine zS ?_|refine zR ?_|refine zO ?_|refine zB ?_|refine zX ?_|refine zT ?_|refine skipI rfl ?_)
       refine yN rfl rfl ?_
       rw [hfs]
       repeat' (first|exact trivial|exact rfl|refine ⟨rfl,?_⟩|refine And.intro ?_ ?_)
  ·rw [cut_none]
   have ho':foldB c e a b ns ws kvs (chL ns [])=o:=ho.symm
   rw [ho']
   repeat' (first|refine zN ?_|refine zE ?_|refine zP ?_|refine pD ?_|refine zS ?_|refine zR ?_|refine zO ?_|refine zB ?_|refine zX ?_|refine zT ?_|refine skipI rfl ?_)
   refine endR rfl ?_
   repeat' (first|exact trivial|exact rfl|refine ⟨rfl,?_⟩|refine And.intro ?_ ?_)
end Go.AM.YtmohhhbgcehnpaaGreat.Re
end
