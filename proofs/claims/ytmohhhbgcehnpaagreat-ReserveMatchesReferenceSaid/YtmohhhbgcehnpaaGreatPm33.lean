/- ReEb, WkBase, WkPick, WkMade, WkMadeV, WkChosen, WkRun. -/
import Derived.Test.YtmohhhbgcehnpaaGreatPm27
import Derived.Test.YtmohhhbgcehnpaaGreatPm32
import Derived.Test.YtmohhhbgcehnpaaGreatPm22
import Derived.Test.YtmohhhbgcehnpaaGreatPm23

section
set_option linter.all false
namespace Go.AM.YtmohhhbgcehnpaaGreat.Re
open Go.Proofs
set_option maxRecDepth 100000
set_option maxHeartbeats 4000000
abbrev BkL:=List Bk.El
def rCloneS:Spec:=⟨true,fun args rows=>match args,rows with
 | [.ptr 0 0],[.box [.own 1],.seq (.pair (.int .i64) (.pair (.int .i64) (.pair (.int .i64) (.int .i64)))) xs]=>some ⟨List.length (α:=Bk.El) xs≤1000000,.ptr 2 0,[.box [.own 1],.seq Bk xs,.box [.own 3],.seq Bk xs],true⟩
 | _,_=>none⟩
theorem rCloneOk:SpecSound Tryz.prog 106 rCloneS:=by
 refine soundR (envOf sigNil) Tryz.func106 (c:=body Tryz.f106) rfl (by kernel_rfl) rfl ?_
 intro args rows out hf hpre
 split at hf <;> try (cases hf;done)
 rename_i xs
 cases hf
 refine ⟨Nat.le_of_ble_eq_true rfl,initI (args:=[.ptr 0 0]) (rows:=[.box [.own 1],.seq Bk xs]) rfl ?_⟩
 have hxs:List.length (α:=Bk.El) xs≤1000000:=hpre
 repeat' (first|refine zN ?_|refine zE ?_|refine zP ?_|refine pD ?_|refine pC (by first|(simp only [List.length_nil];omega)|omega) ?_|refine zS ?_|refine zR ?_|refine zO ?_|refine zB ?_|refine zX ?_|refine zT ?_|refine skipI rfl ?_)
 refine endR rfl ?_
 repeat' (first|exact trivial|exact rfl|refine ⟨rfl,?_⟩|refine And.intro ?_ ?_)
def bookRR (xs:BkL) (tl fr ln:Int):BkL:=bif (refFirstF xs tl fr ln).2 then bookR xs (tl,(refFirstF xs tl fr ln).1,(refFirstF xs tl fr ln).1+ln,1) else xs
theorem rfirst_facts {xs:BkL} {tl fr ln:Int} (h:(refFirstF xs tl fr ln).2=true):1≤ln∧0≤(refFirstF xs tl fr ln).1∧(refFirstF xs tl fr ln).1+ln≤1000000:=by
 have hle:=foldR_le tl ln xs (max fr 0)
 have hmx:0≤max fr 0:=Int.le_max_right _ _
 unfold refFirstF at h ⊢
 split at h
 ·cases h
 ·rename_i h1
  rw [if_neg h1]
  split at h
  ·cases h
  ·rename_i h2
   rw [if_neg h2]
   exact ⟨by omega,by show 0≤foldR tl ln xs (max fr 0);omega,by show foldR tl ln xs (max fr 0)+ln≤1000000;omega⟩
theorem rfirst_no {xs:BkL} {tl fr ln:Int} (h:(refFirstF xs tl fr ln).2=false):(refFirstF xs tl fr ln).1=0:=by
 unfold refFirstF at h ⊢
 split at h
 ·rename_i h1
  rw [if_pos h1]
 ·rename_i h1
  rw [if_neg h1]
  split at h
  ·rename_i h2
   rw [if_pos h2]
  ·cases h
theorem bookR_len (xs:BkL) (b:Bk.El):(bookR xs b).length≤xs.length+1:=by
 unfold bookR
 split
 ·rw [List.length_append,List.length_append,List.length_take,List.length_drop]
  show _+(1+_)≤_
  omega
 ·omega
theorem bookRR_len (xs:BkL) (tl fr ln:Int):(bookRR xs tl fr ln).length≤xs.length+1:=by
 unfold bookRR
 cases (refFirstF xs tl fr ln).2
 ·exact Nat.le_succ _
 ·exact bookR_len _ _
def slotS:Spec:=⟨true,fun args rows=>match args,rows with
 | [.ptr 0 0,.int .i64 tl,.int .i64 fr,.int .i64 ln],[.box [.own 1],.seq (.pair (.int .i64) (.pair (.int .i64) (.pair (.int .i64) (.int .i64)))) xs] =>
   some ⟨List.length (α:=Bk.El) xs≤90000,.tup [.agg [.int .i64 (bif (refFirstF xs tl fr ln).2 then tl else 0),.int .i64 (refFirstF xs tl fr ln).1],.bool (refFirstF xs tl fr ln).2],[.box [.own 2],.dead,.seq Bk (bookRR xs tl fr ln)],true⟩
 | _,_=>none⟩
def sigSlot:List (Nat × Spec):=[(134,refFirstS),(31,refBookS)]
theorem sigSlotOk:SigOk Tryz.prog (look sigSlot):=sigCons (sigCons sigNil
 Tryz.func31 (by kernel_rfl) (c:=body Tryz.f31) rfl refBookOk)
 Tryz.func134 (by kernel_rfl) (c:=body Tryz.f134) rfl refFirstOk
theorem slotOk:SpecSound Tryz.prog 107 slotS:=by
 refine soundR (envOf sigSlotOk) Tryz.func107 (c:=body Tryz.f107) rfl (by kernel_rfl) rfl ?_
 intro args rows out hf hpre
 split at hf <;> try (cases hf;done)
 rename_i tl fr ln xs
 cases hf
 refine ⟨Nat.le_of_ble_eq_true rfl,initI (args:=[.ptr 0 0,.int .i64 tl,.int .i64 fr,.int .i64 ln]) (rows:=[.box [.own 1],.seq Bk xs]) rfl ?_⟩
 have hxs:List.length (α:=Bk.El) xs≤90000:=hpre
 obtain ⟨bg,hbg⟩:∃ bg,bg=bookRR xs tl fr ln:=⟨_,rfl⟩
 rw [← hbg]
 repeat' (first|refine zN ?_|refine zE ?_|refine zP ?_|refine pD ?_|refine pC (by (show List.length (α:=Bk.El) xs≤_;omega)) ?_|refine zS ?_|refine zR ?_|refine zO ?_|refine zB ?_|refine zX ?_|refine zT ?_|refine skipI rfl ?_)
 refine condI rfl (fun c1=>?_) (fun c1=>?_)
 ·have c1':(refFirstF xs tl fr ln).2=false:=by simpa using c1
  have h0:=rfirst_no c1'
  have hb:bg=xs:=by rw [hbg];unfold bookRR;rw [c1'];rfl
  rw [hb]
  refine renameI 100001 3000 rfl ?_
  repeat' (first|refine zN ?_|refine zE ?_|refine zP ?_|refine pD ?_|refine zS ?_|refine zR ?_|refine zO ?_|refine zB ?_|refine zX ?_|refine zT ?_|refine skipI rfl ?_)
  refine endR rfl ?_
  repeat' (first|exact trivial|exact rfl|refine ⟨rfl,?_⟩|refine And.intro ?_ ?_)
  all_goals first|rfl|(exact h0.symm)|(exact h0)|(rw [c1'];rfl)|(rw [c1'])
 ·have c1':(refFirstF xs tl fr ln).2=true:=by simpa using c1
  obtain ⟨h1,h2,h3⟩:=rfirst_facts c1'
  have hb:bg=bookR xs (tl,(refFirstF xs tl fr ln).1,(refFirstF xs tl fr ln).1+ln,1):=by rw [hbg];unfold bookRR;rw [c1'];rfl
  rw [hb]
  repeat' (first|refine zN ?_|refine zE ?_|refine zP ?_|refine pD ?_|refine pC (by first|(show List.length (α:=Bk.El) xs≤_;omega)|(unfold In64;omega)|omega) ?_|refine zS ?_|refine zR ?_|refine zO ?_|refine zB ?_|refine zX ?_|refine zT ?_|refine skipI rfl ?_)
  refine endR rfl ?_
  repeat' (first|exact trivial|exact rfl|refine ⟨rfl,?_⟩|refine And.intro ?_ ?_)
  all_goals first|rfl|(rw [c1'];rfl)|(rw [c1'])
def stR (b:Int):BkL→Int→List NeedT→List PairT→Option (List StT)
 | _,_,[],_=>some []
 | _,_,_::_,[]=>none
 | c,t,x::ns,p::ch =>
   bif (refFirstF c p.1 (t+b) x.2.2).2 then
    bif (refFirstF (bookRR c p.1 (t+b) x.2.2) p.2 ((refFirstF c p.1 (t+b) x.2.2).1+x.2.2 - 1+b) x.2.2).2 then
     (stR b (bookRR (bookRR c p.1 (t+b) x.2.2) p.2 ((refFirstF c p.1 (t+b) x.2.2).1+x.2.2 - 1+b) x.2.2)
      (max (refFirstF c p.1 (t+b) x.2.2).1 (refFirstF (bookRR c p.1 (t+b) x.2.2) p.2 ((refFirstF c p.1 (t+b) x.2.2).1+x.2.2 - 1+b) x.2.2).1+x.2.2) ns ch).map
      fun l=>(x.2.1,x.2.2,(p.1,(refFirstF c p.1 (t+b) x.2.2).1),(p.2,(refFirstF (bookRR c p.1 (t+b) x.2.2) p.2 ((refFirstF c p.1 (t+b) x.2.2).1+x.2.2 - 1+b) x.2.2).1))::l
    else none
   else none
theorem bookRR_eq {c:CalT} (g:CalG c) (tl fr ln:Int):bookRR c.flatten tl fr ln=(bookG c tl fr ln).flatten:=by
 unfold bookRR bookG
 rw [ref_first g]
 cases (firstF c tl fr ln).2
 ·rfl
 ·exact ref_book g _
theorem stR_eq (b:Int):∀ (ns:List NeedT) {c:CalT} (t:Int) (ch:List PairT),CalG c→stR b c.flatten t ns ch=stG b c t ns ch
 | [],c,t,ch,_=>by simp [stR,stG]
 | _::_,c,t,[],_=>by simp [stR,stG]
 | x::ns,c,t,p::ch,g=>by
   have g1:=(bookG_good g p.1 (t+b) x.2.2).1
   have g2:=(bookG_good g1 p.2 ((firstF c p.1 (t+b) x.2.2).1+x.2.2 - 1+b) x.2.2).1
   simp only [stR,stG,ref_first g,bookRR_eq g,ref_first g1,bookRR_eq g1,stR_eq b ns _ ch g2]
def PoP (c:BkL) (e b:Int) (ns:List tNeed.El) (ch:List tPair.El) (ws:List tWin.El):Prop :=
 List.length (α:=Bk.El) c≤80000∧(0≤e∧e≤1000000∧0≤b∧b≤10000)∧(ns.length≤8∧ch.length=ns.length∧ws.length≤1000)∧∀ x∈ns,(0:Int)≤x.2.2∧x.2.2≤(10000:Int)
def poS:Spec:=⟨true,fun args rows=>match args,rows with
 | [.ptr 0 0,.agg [.int .i64 e,.int .i64 a,.int .i64 b,.sl (.pair (.slice (.int .i64)) (.pair (.int .i64) (.int .i64))) ns,.sl (.pair (.int .i64) (.pair (.int .i64) (.int .i64))) ws],.sl (.pair (.int .i64) (.int .i64)) ch],[.box [.own 1],.seq (.pair (.int .i64) (.pair (.int .i64) (.pair (.int .i64) (.int .i64)))) c] =>
   some ⟨PoP c e b ns ch ws,.tup [.agg [.int .i64 (sel (stR b c e ns ch) e 0),.int .i64 (sel (stR b c e ns ch) a 0),.int .i64 (sel (stR b c e ns ch) b 0),.sl tStage ((stR b c e ns ch).getD []),.sl tWin (sel (stR b c e ns ch) ws [])],.bool (stR b c e ns ch).isSome],[.box [.own 1],.seq Bk c],true⟩
 | _,_=>none⟩
def sigPo:List (Nat × Spec):=[(106,rCloneS),(107,slotS)]
theorem sigPoOk:SigOk Tryz.prog (look sigPo):=sigCons (sigCons sigNil
 Tryz.func107 (by kernel_rfl) (c:=body Tryz.f107) rfl slotOk)
 Tryz.func106 (by kernel_rfl) (c:=body Tryz.f106) rfl rCloneOk
theorem poOk:SpecSound Tryz.prog 68 poS:=by
 refine soundR (envOf sigPoOk) Tryz.func68 (c:=body Tryz.f68) rfl (by kernel_rfl) rfl ?_
 intro args rows out hf hpre
 split at hf <;> try (cases hf;done)
 rename_i e a b ns ws ch c
 cases hf
 refine ⟨Nat.le_of_ble_eq_true rfl,initI (args:=[.ptr 0 0,.agg [.int .i64 e,.int .i64 a,.int .i64 b,.sl tNeed ns,.sl tWin ws],.sl tPair ch]) (rows:=[.box [.own 1],.seq Bk c]) rfl ?_⟩
 obtain ⟨hl,⟨he0,he1,hb0,hb1⟩,⟨hn,hch,hw⟩,hns⟩:=hpre
 obtain ⟨o,ho⟩:∃ o,o=stR b c e ns ch:=⟨_,rfl⟩
 rw [← ho]
 repeat' (first|refine zN ?_|refine zE ?_|refine zP ?_|refine zS ?_|refine zO ?_|refine zB ?_|refine zX ?_|refine zT ?_|refine skipI rfl ?_)
 refine zR ?_
 repeat' (first|with_reducible refine pN ?_|refine pD ?_|refine pC (by (show List.length (α:=Bk.El) c≤_;omega)) ?_)
 repeat with_reducible refine cN ?_
 repeat' (first|refine zN ?_|refine zE ?_|refine zP ?_|refine zS ?_|refine zO ?_|refine zB ?_|refine zX ?_|refine zT ?_|refine skipI rfl ?_)
 refine zR ?_
 repeat' (first|with_reducible refine pN ?_|refine pD ?_|refine pC (by (show List.length (α:=Bk.El) c≤_;omega)) ?_)
 repeat with_reducible refine cN ?_
 repeat' (first|refine zN ?_|refine zE ?_|refine zP ?_|refine pD ?_|refine pC (by first|(simp only [List.length_nil];omega)|omega) ?_|refine zS ?_|refine zR ?_|refine zO ?_|refine zB ?_|refine zX ?_|refine zT ?_|refine skipI rfl ?_)
 refine loopI (σ:=Nat × List StT × BkL × Int) (fun s=>[(8,.ptr 3000 0),(10,.int .i64 s.2.2.2),(11,.int .i64 s.1)]) (fun s=>[(3000,.box [.own 3003]),(3003,.seq Bk s.2.2.1),(9,.box [.int .i64 e,.int .i64 a,.int .i64 b,.own 3001,.own 3002]),(3001,.seq tStage s.2.1),(3002,.seq tWin ws)]) (fun s=>(s.1≤ns.length∧s.2.1.length=s.1)∧List.length (α:=Bk.El) s.2.2.1≤List.length (α:=Bk.El) c+2 * s.1∧(0≤s.2.2.2∧s.2.2.2≤1000000)∧o=(stR b s.2.2.1 s.2.2.2 (ns.drop s.1) (ch.drop s.1)).map (s.2.1++·)) (fun s=>ns.length - s.1) (0,[],c,e) rfl (fun _=>rfl) rfl ?_ ?_ ?_
 ·refine ⟨⟨Nat.zero_le _,rfl⟩,Nat.le_refl _,⟨he0,he1⟩,?_⟩
  rw [ho]
  show _=(stR b c e ns ch).map fun l=>l
  simp
 ·repeat' (first|exact trivial|with_reducible exact rfl|refine And.intro ?_ ?_)
  all_goals rfl
 rintro ⟨i,acc,cal,t⟩ ⟨⟨hi,hacc⟩,hcl,⟨ht0,ht1⟩,hinv⟩
 dsimp only at hi hacc hcl ht0 ht1 hinv ⊢
 repeat' (first|refine zN ?_|refine zE ?_|refine zP ?_|refine pD ?_|refine zS ?_|refine zR ?_|refine zO ?_|refine zB ?_|refine zX ?_|refine zT ?_|refine skipI rfl ?_)
 refine condI rfl (fun c1=>?_) (fun c1=>?_)
 ·simp only [decide_eq_true_eq] at c1
  have hil:i < ns.length:=by omega
  have hin:((i:Int)).toNat=i:=by omega
  obtain ⟨x,hx⟩:∃ x:NeedT,x=getI ns tNeed.dflt i:=⟨_,rfl⟩
  obtain ⟨p,hp⟩:∃ p:PairT,p=getI ch tPair.dflt i:=⟨_,rfl⟩
  have hxb:(0:Int)≤x.2.2∧x.2.2≤(10000:Int):=by rw [hx];exact hns _ (Pl.getI_mem hil)
  rw [drop_getI (d:=tNeed.dflt) hil,drop_getI (d:=tPair.dflt) (by omega),← hx,← hp] at hinv
  have hx':getI ns tNeed.dflt ((i:Int)).toNat=x:=by rw [hin];exact hx.symm
  have hp':getI ch tPair.dflt ((i:Int)).toNat=p:=by rw [hin];exact hp.symm
  repeat' (first|refine zN ?_|refine zE ?_|refine zP ?_|refine pD ?_|refine pC (by first|omega|(rw [hx'];unfold In64;omega)|(simp only [hin];omega)) ?_|refine zS ?_|refine zR ?_|refine zO ?_|refine zB ?_|refine zX ?_|refine zT ?_|refine skipI rfl ?_)
  simp only [hx',hp']
  obtain ⟨m,hm⟩:∃ m,m=refFirstF cal p.1 (t+b) x.2.2:=⟨_,rfl⟩
  obtain ⟨cb,hcb⟩:∃ cb,cb=bookRR cal p.1 (t+b) x.2.2:=⟨_,rfl⟩
  have hcbl:=bookRR_len cal p.1 (t+b) x.2.2
  rw [← hcb] at hcbl
  have hst:stR b cal t (x::ns.drop (i+1)) (p::ch.drop (i+1))=bif m.2 then bif (refFirstF cb p.2 (m.1+x.2.2 - 1+b) x.2.2).2 then (stR b (bookRR cb p.2 (m.1+x.2.2 - 1+b) x.2.2) (max m.1 (refFirstF cb p.2 (m.1+x.2.2 - 1+b) x.2.2).1+x.2.2) (ns.drop (i+1)) (ch.drop (i+1))).map fun l=>(x.2.1,x.2.2,(p.1,m.1),(p.2,(refFirstF cb p.2 (m.1+x.2.2 - 1+b) x.2.2).1))::l else none else none:=by rw [hm,hcb];rfl
  rw [hst] at hinv
  simp only [← hm,← hcb]
  refine condI rfl (fun c2=>?_) (fun c2=>?_)
  ·have c2':m.2=false:=by simpa using c2
   rw [c2'] at hinv
   have hinv:o=none:=hinv
   rw [hinv]
   repeat' (first|refine zN ?_|refine zE ?_|refine zP ?_|refine pD ?_|refine zS ?_|refine zR ?_|refine zO ?_|refine zB ?_|refine zX ?_|refine zT ?_|refine skipI rfl ?_)
   refine endR rfl ?_
   repeat' (first|exact trivial|exact rfl|refine ⟨rfl,?_⟩|refine And.intro ?_ ?_)
  have c2':m.2=true:=by simpa using c2
  obtain ⟨_,hm0,hm1⟩:=rfirst_facts (xs:=cal) (tl:=p.1) (fr:=t+b) (ln:=x.2.2) (by rw [← hm];exact c2')
  rw [← hm] at hm0 hm1
  rw [c2',cond_true] at hinv
  repeat' (first|refine zN ?_|refine zE ?_|refine zP ?_|refine pD ?_|refine pC (by first|omega|(simp only [hx',hp'];unfold In64;omega)|(simp only [hin];omega)) ?_|refine zS ?_|refine zR ?_|refine zO ?_|refine zB ?_|refine zX ?_|refine zT ?_|refine skipI rfl ?_)
  simp only [hx',hp']
  obtain ⟨z,hz⟩:∃ z,z=refFirstF cb p.2 (m.1+x.2.2 - 1+b) x.2.2:=⟨_,rfl⟩
  obtain ⟨cc,hcc⟩:∃ cc,cc=bookRR cb p.2 (m.1+x.2.2 - 1+b) x.2.2:=⟨_,rfl⟩
  have hccl:=bookRR_len cb p.2 (m.1+x.2.2 - 1+b) x.2.2
  rw [← hcc] at hccl
  simp only [← hz,← hcc] at hinv ⊢
  refine condI rfl (fun c3=>?_) (fun c3=>?_)
  ·have c3':z.2=false:=by simpa using c3
   rw [c3'] at hinv
   have hinv:o=none:=hinv
   rw [hinv]
   repeat' (first|refine zN ?_|refine zE ?_|refine zP ?_|refine pD ?_|refine zS ?_|refine zR ?_|refine zO ?_|refine zB ?_|refine zX ?_|refine zT ?_|refine skipI rfl ?_)
   refine endR rfl ?_
   repeat' (first|exact trivial|exact rfl|refine ⟨rfl,?_⟩|refine And.intro ?_ ?_)
  have c3':z.2=true:=by simpa using c3
  obtain ⟨_,hz0,hz1⟩:=rfirst_facts (xs:=cb) (tl:=p.2) (fr:=m.1+x.2.2 - 1+b) (ln:=x.2.2) (by rw [← hz];exact c3')
  rw [← hz] at hz0 hz1
  rw [c3',cond_true] at hinv
  repeat' (first|refine zN ?_|refine zE ?_|refine zP ?_|refine pD ?_|refine pC (by first|omega|(unfold In64;omega)|(simp only [List.length_cons,List.length_nil,hacc];omega)) ?_|refine zS ?_|refine zR ?_|refine zO ?_|refine zB ?_|refine zX ?_|refine zT ?_|refine skipI rfl ?_)
  refine roundI (i+1,acc++[(x.2.1,x.2.2,(p.1,m.1),(p.2,z.1))],cc,max m.1 z.1+x.2.2) rfl ?_ ?_ ?_
  ·refine ⟨⟨by show i+1≤ns.length;omega,by rw [List.length_append,hacc];rfl⟩,by show List.length (α:=Bk.El) cc≤List.length (α:=Bk.El) c+2 * (i+1);omega,⟨by show 0≤max m.1 z.1+x.2.2;omega,by show max m.1 z.1+x.2.2≤1000000;omega⟩,?_⟩
   rw [hinv,Option.map_map]
   show Option.map _ _=Option.map _ _
   congr 1
   funext l
   simp
  ·show ns.length - (i+1) < ns.length - i
   omega
  ·repeat' (first|exact trivial|with_reducible exact rfl|refine And.intro ?_ ?_)
   all_goals (first|rfl|(simp only [c2',c3',cond_true]))
 ·simp only [decide_eq_false_iff_not] at c1
  rw [List.drop_eq_nil_of_le (by omega)] at hinv
  have hinv:o=some (acc++[]):=hinv
  rw [List.append_nil] at hinv
  rw [hinv]
  refine freezeI 3001 rfl ?_
  refine freezeI 3002 rfl ?_
  repeat' (first|refine zN ?_|refine zE ?_|refine zP ?_|refine pD ?_|refine zS ?_|refine zR ?_|refine zO ?_|refine zB ?_|refine zX ?_|refine zT ?_|refine skipI rfl ?_)
  refine endR rfl ?_
  repeat' (first|exact trivial|exact rfl|refine ⟨rfl,?_⟩|refine And.intro ?_ ?_)
def rEndS:Spec:=plain fun
 | [.agg [.int .i64 e,.int .i64 a,.int .i64 b,.sl (.pair (.int .i64) (.pair (.int .i64) (.pair (.pair (.int .i64) (.int .i64)) (.pair (.int .i64) (.int .i64))))) xs,.sl (.pair (.int .i64) (.pair (.int .i64) (.int .i64))) ws]] =>
   outV ((1≤xs.length∧xs.length≤1000000)∧In64 (overG (lastG xs))) (.int .i64 (overG (lastG xs)))
 | _=>none
theorem rEndOk:SpecSound Tryz.prog 69 rEndS:=by
 refine soundP (envOf sigNil) Tryz.func69 (c:=body Tryz.f69) rfl (by kernel_rfl) rfl ?_
 intro args out hf hpre
 split at hf <;> try (cases hf;done)
 rename_i e a b xs ws
 cases hf
 refine ⟨Nat.le_of_ble_eq_true rfl,initI (args:=[.agg [.int .i64 e,.int .i64 a,.int .i64 b,.sl tStage xs,.sl tWin ws]]) rfl ?_⟩
 obtain ⟨⟨h1,h2⟩,h3⟩:=hpre
 have hln:(((xs.length:Nat):Int) - 1).toNat=xs.length - 1:=by omega
 repeat' (first|refine zN ?_|refine zE ?_|refine zP ?_|refine pD ?_|refine pC (by first|omega|(unfold In64;omega)|(simp only [hln];exact h3)) ?_|refine zS ?_|refine zR ?_|refine zO ?_|refine zB ?_|refine zX ?_|refine zT ?_|refine skipI rfl ?_)
 refine endR rfl ?_
 repeat' (first|exact trivial|exact rfl|refine ⟨rfl,?_⟩|refine And.intro ?_ ?_)
 all_goals (simp only [hln];rfl)
end Go.AM.YtmohhhbgcehnpaaGreat.Re
end

section

end

section
set_option linter.all false
namespace Go.AM.YtmohhhbgcehnpaaGreat.Pl
open Go.Proofs
set_option maxRecDepth 100000
set_option maxHeartbeats 4000000
def pickP:Spec:=plain fun
 | [.int .i64 c,.int .i64 n]=>outV (0 < n) (.int .i64 (pickF c n))
 | _=>none
theorem pick_b {c n:Int} (h:0 < n):0≤pickF c n∧pickF c n < n:=⟨Int.emod_nonneg _ (by omega),Int.emod_lt_of_pos _ h⟩
theorem pickF_neg {c n:Int} (h:0 < n) (c1:c < 0):pickF c n=(0 - (c+1)).tmod n:=by
 unfold pickF;rw [if_pos c1,Int.tmod_eq_emod_of_nonneg (by omega)];congr 1;omega
theorem pickF_pos {c n:Int} (h:0 < n) (c1:¬ c < 0):pickF c n=c.tmod n:=by
 unfold pickF;rw [if_neg c1,Int.tmod_eq_emod_of_nonneg (by omega)]
end Go.AM.YtmohhhbgcehnpaaGreat.Pl
end

section
set_option linter.all false
namespace Go.AM.YtmohhhbgcehnpaaGreat.Pl
open Go.Proofs
set_option maxRecDepth 100000
set_option maxHeartbeats 8000000
abbrev StT:=Int × Int × (Int × Int) × Int × Int
abbrev WiT:=Int × Int × Int
abbrev Six:=Int × Int × Int × Int × Int × Int
def six (x:List Six) (i:Nat):Six:=getI x tSix.dflt i
def mA (x:List Six):Int:=if 0 < (x.length:Int) then pickF (six x 0).2.2.2.2.1 5 else 2
theorem getI_append_lt {α:Type} {xs ys:List α} {d:α} {j:Nat} (h:j < xs.length):getI (xs++ys) d j=getI xs d j:=by
 simp [getI,List.getD,List.getElem?_append_left h]
theorem getI_append_eq {α:Type} {xs:List α} {y d:α}:getI (xs++[y]) d xs.length=y:=by
 simp [getI,List.getD]
end Go.AM.YtmohhhbgcehnpaaGreat.Pl
end

section
set_option linter.all false
namespace Go.AM.YtmohhhbgcehnpaaGreat.Pl
open Go.Proofs
end Go.AM.YtmohhhbgcehnpaaGreat.Pl
end

section
set_option linter.all false
namespace Go.AM.YtmohhhbgcehnpaaGreat.Pl
open Go.Proofs
set_option maxRecDepth 100000
set_option maxHeartbeats 8000000
abbrev Two:=Int × Int
def two (y:List Two) (i:Nat):Two:=if (i:Int) < y.length then getI y tTwo.dflt i else (0,0)
end Go.AM.YtmohhhbgcehnpaaGreat.Pl
end

section
set_option linter.all false
namespace Go.AM.YtmohhhbgcehnpaaGreat.Pl
open Go.Proofs
abbrev ViT:=Int × Int × Int × Int
def vis (out:List ViT) (j:Nat):ViT:=getI out tVisit.dflt j
def prevE (e:Int) (out:List ViT):Nat→Int
 | 0=>e
 | j+1=>(vis out j).2.2.2
def VisR (xs:List StT) (du mo:List Int) (de tl fa e:Int) (out:List ViT) (j:Nat):Prop :=
 reachedAt xs du mo de tl fa j (prevE e out j)=(((vis out j).2.1,(vis out j).2.2.1),true)∧(vis out j).1=(j:Int)∧(vis out j).2.2.2=(vis out j).2.2.1+getI du 0 j
def wFr (ws:List WiT) (k:Nat):Int:=(getI ws tWin.dflt k).1
def wTo (ws:List WiT) (k:Nat):Int:=(getI ws tWin.dflt k).2.1
def wLi (ws:List WiT) (k:Nat):Int:=(getI ws tWin.dflt k).2.2
theorem wi_ok {e a b:Int} {xs:List StT} {ws:List WiT} (F:Facts e a b xs ws) (k:Nat) (hk:k < ws.length):0≤wFr ws k∧wFr ws k < wTo ws k∧wTo ws k < (xs.length:Int)∧0≤wLi ws k∧wLi ws k≤1000000:=F.ws k hk
def LateAt (ws:List WiT) (out:List ViT) (k:Nat):Prop:=wLi ws k < (vis out (wTo ws k).toNat).2.2.1 - (vis out (wFr ws k).toNat).2.2.2
structure RunR (xs:List StT) (ws:List WiT) (du mo:List Int) (de tl fa e:Int) (r:List ViT) (kind num:Int):Prop where
 len:r.length≤xs.length
 vis:∀ j,j < r.length→VisR xs du mo de tl fa e r j
 kept:∀ k,k < ws.length→wTo ws k < r.length→LateAt ws r k→kind=2∧wTo ws k+1=r.length∧num≤k
 ends:(kind=0∧num=0∧r.length=xs.length)∨(kind=1∧num=r.length∧r.length < xs.length∧(reachedAt xs du mo de tl fa r.length (prevE e r r.length)).2=false) ∨
  (kind=2∧0≤num∧num < ws.length∧wTo ws num.toNat+1=r.length∧LateAt ws r num.toNat)
theorem vis_lt {out:List ViT} {v:ViT} {j:Nat} (h:j < out.length):vis (out++[v]) j=vis out j:=getI_append_lt h
theorem vis_eq {out:List ViT} {v:ViT}:vis (out++[v]) out.length=v:=getI_append_eq
theorem prevE_lt {e:Int} {out:List ViT} {v:ViT} {j:Nat} (h:j≤out.length):prevE e (out++[v]) j=prevE e out j:=by
 cases j with
 | zero=>rfl
 | succ j=>simp only [prevE];rw [vis_lt (by omega)]
theorem prevE_eq {e:Int} {out:List ViT} {v:ViT}:prevE e (out++[v]) (out.length+1)=v.2.2.2:=by simp only [prevE];rw [vis_eq]
theorem idxF_lt {α:Type} {p:α→Bool} {d:α}:∀ {xs:List α},¬ idxF p xs < 0→(idxF p xs).toNat < xs.length∧p (getI xs d (idxF p xs).toNat)=true∧∀ j:Nat,(j:Int) < idxF p xs→p (getI xs d j)=false
 | [],h=>by simp [idxF] at h
 | x::r,h=>by
   unfold idxF at h ⊢
   split
   ·rename_i hp
    refine ⟨by simp,?_,fun j hj=>by omega⟩
    simpa [getI,List.getD] using hp
   ·rename_i hp
    rw [if_neg hp] at h
    split at h
    ·exact absurd h (by decide)
    ·rename_i h1
     rw [if_neg h1]
     obtain ⟨h2,h3,h4⟩:=idxF_lt (d:=d) h1
     have e:(idxF p r+1).toNat=(idxF p r).toNat+1:=by omega
     rw [e]
     refine ⟨by simpa using h2,by simpa [getI,List.getD] using h3,fun j hj=>?_⟩
     cases j with
     | zero=>simpa [getI,List.getD] using hp
     | succ j =>
       have:=h4 j (by omega)
       simpa [getI,List.getD] using this
theorem idxF_neg {α:Type} {p:α→Bool} {d:α}:∀ {xs:List α},idxF p xs < 0→∀ j,j < xs.length→p (getI xs d j)=false
 | [],_,j,hj=>by simp at hj
 | x::r,h,j,hj=>by
   unfold idxF at h
   split at h
   ·exact absurd h (by decide)
   ·rename_i hp
    split at h
    ·rename_i h1
     cases j with
     | zero=>simpa [getI,List.getD] using hp
     | succ j=>have:=idxF_neg (d:=d) h1 j (by simpa using hj);simpa [getI,List.getD] using this
    ·omega
theorem runG_spec {e a b:Int} {xs:List StT} {ws:List WiT} (F:Facts e a b xs ws) {du mo:List Int} {de tl fa:Int}:∀ (n:Nat) (out:List ViT) (t:Int),out.length+n=xs.length→t=prevE e out out.length →
 (∀ j,j < out.length→VisR xs du mo de tl fa e out j)→(∀ k,k < ws.length→wTo ws k < out.length→¬ LateAt ws out k) →
 RunR xs ws du mo de tl fa e (runG xs ws du mo de tl fa n out.length out t).1 (runG xs ws du mo de tl fa n out.length out t).2.1 (runG xs ws du mo de tl fa n out.length out t).2.2
 | 0,out,t,h1,h2,h3,h4=>⟨by show out.length≤_;omega,h3,fun k hk hl hla=>absurd hla (h4 k hk hl),.inl ⟨rfl,rfl,by show out.length=_;omega⟩⟩
 | n+1,out,t,h1,h2,h3,h4=>by
   simp only [runG]
   split
   ·rename_i hok
    obtain ⟨r,hr⟩:∃ r,r=reachedAt xs du mo de tl fa out.length t:=⟨_,rfl⟩
    rw [← hr] at hok ⊢
    obtain ⟨out',ho⟩:∃ out',out'=out++[((out.length:Int),r.1.1,r.1.2,r.1.2+getI du 0 out.length)]:=⟨_,rfl⟩
    have hlen:out'.length=out.length+1:=by rw [ho];simp
    have hv:vis out' out.length=((out.length:Int),r.1.1,r.1.2,r.1.2+getI du 0 out.length):=by rw [ho];exact vis_eq
    have hvis:∀ j,j < out'.length→VisR xs du mo de tl fa e out' j:=fun j hj=>by
     by_cases hj2:j < out.length
     ·have:=h3 j hj2
      unfold VisR at this ⊢
      rw [ho,vis_lt hj2,prevE_lt (by omega)];exact this
     ·obtain rfl:j=out.length:=by omega
      unfold VisR
      rw [hv,ho,prevE_lt (Nat.le_refl _),← h2,← hr]
      exact ⟨by rw [← hok],rfl,rfl⟩
    have hold:∀ k,k < ws.length→wTo ws k < out.length→¬ LateAt ws out' k:=fun k hk hl hla=>by
     refine h4 k hk hl ?_
     have W:=wi_ok F k hk
     unfold LateAt at hla ⊢
     rw [ho,vis_lt (by omega),vis_lt (by omega)] at hla
     exact hla
    have hlw:∀ k,k < ws.length→(lateW out.length r.1.2 out' (getI ws tWin.dflt k)=true↔wTo ws k=out.length∧LateAt ws out' k):=fun k hk=>by
     unfold LateAt
     show (decide (wTo ws k=(out.length:Int))&&decide (wLi ws k < r.1.2 - (vis out' (wFr ws k).toNat).2.2.2))=true↔_
     simp only [Bool.and_eq_true,decide_eq_true_eq]
     constructor
     ·rintro ⟨h5,h6⟩
      refine ⟨h5,?_⟩
      rw [show (wTo ws k).toNat=out.length by omega,hv];exact h6
     ·rintro ⟨h5,h6⟩
      refine ⟨h5,?_⟩
      rw [show (wTo ws k).toNat=out.length by omega,hv] at h6;exact h6
    rw [← ho]
    split
    ·rename_i hk
     have hnone:=idxF_neg (d:=tWin.dflt) hk
     have e2:out.length+1=out'.length:=hlen.symm
     rw [e2]
     refine runG_spec F n out' _ (by omega) ?_ hvis fun k hk2 hl hla=>?_
     ·rw [← e2,ho,prevE_eq]
     ·by_cases hl2:wTo ws k < out.length
      ·exact hold k hk2 hl2 hla
      ·have:=(hlw k hk2).2 ⟨by omega,hla⟩
       rw [hnone k hk2] at this;cases this
    ·rename_i hk
     obtain ⟨k1,k2,k3⟩:=idxF_lt (d:=tWin.dflt) hk
     have:=(hlw _ k1).1 k2
     show RunR xs ws du mo de tl fa e out' 2 (idxF (lateW out.length r.1.2 out') ws)
     refine ⟨by omega,hvis,fun k hk2 hl hla=>?_,.inr (.inr ⟨rfl,by omega,by omega,by rw [hlen];omega,this.2⟩)⟩
     by_cases hl2:wTo ws k < out.length
     ·exact absurd hla (hold k hk2 hl2)
     ·have h6:=(hlw k hk2).2 ⟨by omega,hla⟩
      refine ⟨rfl,by omega,Decidable.byContradiction fun h7=>?_⟩
      rw [k3 k (by omega)] at h6;cases h6
   ·rename_i hok
    refine ⟨by show out.length≤_;omega,h3,fun k hk hl hla=>absurd hla (h4 k hk hl),.inr (.inl ⟨rfl,rfl,by show out.length < _;omega,?_⟩)⟩
    rw [← h2];simpa using hok
theorem run_spec {e a b:Int} {xs:List StT} {ws:List WiT} {du mo:List Int} {de tl fa:Int} (h:possF e a b xs ws du mo de tl fa=true) :
 (runF e a b xs ws du mo de tl fa).2.2=0∧RunR xs ws du mo de tl fa e (runF e a b xs ws du mo de tl fa).1 (runF e a b xs ws du mo de tl fa).2.1.1 (runF e a b xs ws du mo de tl fa).2.1.2:=by
 have F:=(poss_facts h).toFacts
 unfold runF
 rw [h]
 exact ⟨rfl,runG_spec F xs.length [] e (by simp) rfl (fun j hj=>by simp at hj) (fun k hk hl=>by have:=wi_ok F k hk;simp at hl;omega)⟩
def sSt (xs:List StT) (j:Nat):Int:=(getI xs tStage.dflt j).2.2.2.1
end Go.AM.YtmohhhbgcehnpaaGreat.Pl
end
