/- ExB, FcB, AmUnr, FcD. -/
import Derived.Test.YtbepaplaahcnkaaGreatPc36
import Derived.Test.YtbepaplaahcnkaaGreatPc10
import Derived.WalkKit
import Derived.RegionTactic
import Derived.Shelf.RegionOpenPlain
import Derived.Lib.UnsafeStr
import Derived.Lib.Builder
import Derived.Lib.Walk
import Derived.Laws.Externs
import Derived.Test.YtbepaplaahcnkaaGreatPc16
import Derived.LoopNIn
import Derived.Test.YtbepaplaahcnkaaGreatPc31

set_option linter.all false
section
namespace Go.AM.YtbepaplaahcnkaaGreat.Ex
open Go.Proofs Go.AM.YtbepaplaahcnkaaGreat.Fc Go.AM.YtbepaplaahcnkaaGreat.Bs Go.AM.YtbepaplaahcnkaaGreat.Gn
set_option maxRecDepth 100000
set_option maxHeartbeats 8000000
def gapOk (tl ch:Int) (x:FcT):Bool:=decide (tl=x.2.2.2.2.2.2.2.2.2.2.2.1)&&decide (ch=x.2.2.2.2.2.2.2.2.2.2.2.2.1)
def surF (fr to er:Int):FcT→Bool:=mtF fr to (0 - er)
def mayL (tl ch fr to er:Int) (g:List FcT):List (FcT→Bool):=[surF fr to er,mtF fr to er]++(g.filter (gapOk tl ch)).map fun x=>mtF x.2.2.2.2.2.1 x.2.2.2.2.2.2.1 er
def nearF (tl ch fr to er:Int) (g:List FcT) (x:FcT):Bool:=gapOk tl ch x&&(mayL tl ch fr to er g).any fun c=>c x
def entF (tl ch fr to er:Int) (l1 l3 l11:List FcT) (w:Int):List EnT:=entW (fun p=>whoF l3 p.2.2.2.2.2.2.2.1 p.2.2.2.2.2.1) (nearF tl ch fr to er l11) (surF fr to er) l1 w
def judF (tl ch fr to er:Int) (l1 l3 l4 l11:List FcT):List VdT:=(Gn.sortI (Gn.keysOf (wfM l1 l3 l4))).map (verE (entF tl ch fr to er l1 l3 l11))
structure JuOk (tl ch fr to er:Int) (l1 l3 l4 l11:List FcT):Prop where
 val:exV tl ch fr to er=true
 waf:WfOk l1 l3 l4
 n1:l1.length≤12
 n11:l11.length≤1000
 ids:l1.Pairwise fun a b=>(a.2.1:Int)≠b.2.1
theorem mayL_take {tl ch fr to er:Int} {g:List FcT} {i:Nat} (h:i < g.length):mayL tl ch fr to er (g.take (i+1))=bif gapOk tl ch (getI g tFc.dflt i) then mayL tl ch fr to er (g.take i)++[mtF (getI g tFc.dflt i).2.2.2.2.2.1 (getI g tFc.dflt i).2.2.2.2.2.2.1 er] else mayL tl ch fr to er (g.take i):=by
 unfold mayL
 rw [filter_snoc (d:=tFc.dflt) h]
 cases gapOk tl ch (getI g tFc.dflt i)
 ·rfl
 ·show _++List.map _ (_++[_])=_
  rw [List.map_append,List.append_assoc]
  rfl
theorem mayL_len {tl ch fr to er:Int} {g:List FcT}:(mayL tl ch fr to er g).length≤g.length+2:=by
 unfold mayL
 rw [List.length_append,List.length_map]
 have:=List.length_filter_le (gapOk tl ch) g
 show 2+_≤_
 omega
def fcOf:AObj→Option (List FcT)
 | .seq t xs=>match Ty.same t tFc with
   | some ⟨h⟩=>castK h xs fun xs=>some xs
   | none=>none
 | _=>none
theorem fcOf_spec {o:AObj} {l:List FcT} (h:fcOf o=some l):o=.seq tFc l:=by
 unfold fcOf at h
 split at h
 ·rename_i t xs
  split at h
  ·rename_i h1 _
   subst h1
   cases h
   rfl
  ·cases h
 ·cases h
def allRw:List AObj→Option (List (List FcT))
 | []=>some []
 | o::r=>match fcOf o with
   | some l=>match allRw r with
     | some ls=>some (l::ls)
     | none=>none
   | none=>none
theorem allRw_spec:∀ {os:List AObj} {ls:List (List FcT)},allRw os=some ls→os=ls.map fun l=>.seq tFc l
 | [],ls,h=>by cases h;rfl
 | v::r,ls,h=>by
   unfold allRw at h
   split at h
   ·rename_i l h1
    split at h
    ·rename_i ls' h2
     cases h
     rw [fcOf_spec h1,allRw_spec h2]
     rfl
    ·cases h
   ·cases h
def judS:Spec:=⟨true,fun args rows=>match args with
 | [.agg [.own 0,.own 1,.own 2,.own 3,.own 4,.own 5,.own 6,.own 7,.own 8,.own 9,.own 10],.agg [.int .i64 tl,.int .i64 ch,.int .i64 fr,.int .i64 to,.int .i64 er]]=>match allRw rows with
   | some [l1,l2,l3,l4,l5,l6,l7,l8,l9,l10,l11]=>some ⟨JuOk tl ch fr to er l1 l3 l4 l11,.own 11,[.dead,.dead,.dead,.dead,.dead,.dead,.dead,.dead,.dead,.dead,.dead,.seq tVd (judF tl ch fr to er l1 l3 l4 l11)],true⟩
   | _=>none
 | _=>none⟩
theorem judOk:SpecSound Tryz.prog 9 judS:=by
 refine soundR (envOf sigJuOk) Tryz.func9 (c:=body Tryz.f9) rfl (by kernel_rfl) rfl ?_
 intro args rows out hf hpre
 unfold judS at hf
 split at hf <;> try (cases hf;done)
 split at hf <;> try (cases hf;done)
 rename_i tl ch fr to er _ l1 l2 l3 l4 l5 l6 l7 l8 l9 l10 l11 hc
 cases hf
 obtain rfl:=allRw_spec hc
 refine ⟨Nat.le_of_ble_eq_true rfl,initI (args:=[.agg [.own 0,.own 1,.own 2,.own 3,.own 4,.own 5,.own 6,.own 7,.own 8,.own 9,.own 10],.agg [.int .i64 tl,.int .i64 ch,.int .i64 fr,.int .i64 to,.int .i64 er]]) (rows:=[.seq tFc l1,.seq tFc l2,.seq tFc l3,.seq tFc l4,.seq tFc l5,.seq tFc l6,.seq tFc l7,.seq tFc l8,.seq tFc l9,.seq tFc l10,.seq tFc l11]) rfl ?_⟩
 have HJ:JuOk tl ch fr to er l1 l3 l4 l11:=hpre
 refine freezeI 100000 rfl ?_
 refine freezeI 100001 rfl ?_
 refine freezeI 100002 rfl ?_
 refine freezeI 100003 rfl ?_
 refine freezeI 100004 rfl ?_
 refine freezeI 100005 rfl ?_
 refine freezeI 100006 rfl ?_
 refine freezeI 100007 rfl ?_
 refine freezeI 100008 rfl ?_
 refine freezeI 100009 rfl ?_
 refine freezeI 100010 rfl ?_
 obtain ⟨hval,hwf,hn1,hn11,hids⟩:=HJ
 clear hc hpre
 have her:0≤er∧er≤10000:=by
  have:=hval
  unfold exV inB at this
  simp only [Bool.and_eq_true,decide_eq_true_eq] at this
  omega
 repeat' (first|refine zN ?_|refine zE ?_|refine zP ?_|refine pD ?_|refine zQ ?_|refine zR ?_|refine zW ?_)
 refine condI rfl (fun c=>by have c:(!exV tl ch fr to er)=true:=c;rw [hval] at c;cases c) (fun _=>?_)
 repeat' (first|refine zN ?_|refine zE ?_|refine zP ?_|refine pD ?_|refine zQ ?_|refine zR ?_|refine zW ?_)
 refine loopI (σ:=Nat) (fun i=>[(49,.int .i64 i),(7,.own 5000)]) (fun i=>[(5000,.seq tCo (mayL tl ch fr to er (List.take (α:=FcT) i l11)))]) (fun i=>i≤List.length (α:=FcT) l11) (fun i=>List.length (α:=FcT) l11 - i) 0 rfl (fun _=>rfl) rfl ?_ ?_ ?_
 ·exact Nat.zero_le _
 ·repeat' (first|exact trivial|with_reducible exact rfl|refine And.intro ?_ ?_)
  all_goals rfl
 ·intro i hi
  have hml:=mayL_len (tl:=tl) (ch:=ch) (fr:=fr) (to:=to) (er:=er) (g:=List.take (α:=FcT) i l11)
  rw [List.length_take] at hml
  repeat' (first|refine zN ?_|refine zE ?_|refine zP ?_|refine pD ?_|refine zQ ?_|refine zR ?_|refine zW ?_)
  refine condI rfl (fun c1=>?_) (fun c1=>?_)
  ·simp only [decide_eq_true_eq] at c1
   have hil:i < List.length (α:=FcT) l11:=by omega
   have hin:((i:Int)).toNat=i:=by omega
   have hnx:=mayL_take (tl:=tl) (ch:=ch) (fr:=fr) (to:=to) (er:=er) hil
   obtain ⟨x,hx⟩:∃ x:FcT,x=getI l11 tFc.dflt i:=⟨_,rfl⟩
   rw [← hx] at hnx
   repeat' (first|refine zN ?_|refine zE ?_|refine zP ?_|refine pD ?_|refine zQ ?_|refine zR ?_|refine zW ?_)
   simp only [hin]
   rw [← hx]
   refine condI rfl (fun c2=>?_) (fun c2=>?_)
   ·have c2:gapOk tl ch x=true:=c2
    rw [c2] at hnx
    repeat' (first|refine zN ?_|refine zE ?_|refine zP ?_|refine pD ?_|refine pC (by first|(show (_+1) * _≤_;omega)|omega) ?_|refine zQ ?_|refine zR ?_|refine zW ?_)
    refine roundI (i+1) rfl ?_ ?_ ?_
    ·show i+1≤List.length (α:=FcT) l11
     omega
    ·show List.length (α:=FcT) l11 - (i+1) < List.length (α:=FcT) l11 - i
     omega
    ·repeat' (first|exact trivial|with_reducible exact rfl|refine And.intro ?_ ?_)
     all_goals first|rfl|exact hnx
   ·have c2:gapOk tl ch x=false:=c2
    rw [c2] at hnx
    repeat' (first|refine zN ?_|refine zE ?_|refine zP ?_|refine pD ?_|refine zQ ?_|refine zR ?_|refine zW ?_)
    refine roundI (i+1) rfl ?_ ?_ ?_
    ·show i+1≤List.length (α:=FcT) l11
     omega
    ·show List.length (α:=FcT) l11 - (i+1) < List.length (α:=FcT) l11 - i
     omega
    ·repeat' (first|exact trivial|with_reducible exact rfl|refine And.intro ?_ ?_)
     all_goals first|rfl|exact hnx
  ·simp only [decide_eq_false_iff_not] at c1
   have hie:i=List.length (α:=FcT) l11:=by omega
   rw [hie,List.take_length]
   have hml:=mayL_len (tl:=tl) (ch:=ch) (fr:=fr) (to:=to) (er:=er) (g:=l11)
   repeat' (first|refine zN ?_|refine zE ?_|refine zP ?_|refine zQ ?_|refine zW ?_)
   refine freezeI 5000 rfl ?_
   repeat' (first|refine zN ?_|refine zE ?_|refine zP ?_|refine pD ?_|refine pC (by (show (mayL tl ch fr to er l11).length≤1000000;omega)) ?_|refine zQ ?_|refine zR ?_|refine zW ?_)
   have hnf:∀ x,nearF tl ch fr to er l11 x=(gapOk tl ch x&&(mayL tl ch fr to er l11).any fun c=>c x):=fun _=>rfl
   obtain ⟨may,hmay⟩:∃ may:FcT→Bool,may=fun x=>(mayL tl ch fr to er l11).any fun c=>c x:=⟨_,rfl⟩
   rw [← hmay]
   have hnf:∀ x,nearF tl ch fr to er l11 x=(gapOk tl ch x&&may x):=fun x=>by rw [hmay];rfl
   repeat' (first|refine zN ?_|refine zE ?_|refine zP ?_|refine pD ?_|refine zQ ?_|refine zR ?_|refine zW ?_)
   refine loopI (σ:=Nat × WyT) (fun s=>[(77,.int .i64 s.1),(11,.own 5001)]) (fun s=>[(5001,.mmap tI tI .bool s.2 none)]) (fun s=>s.1≤List.length (α:=FcT) l1∧WOk s.2 (entF tl ch fr to er (List.take (α:=FcT) s.1 l1) l3 l11)) (fun s=>List.length (α:=FcT) l1 - s.1) (0,[]) rfl (fun _=>rfl) rfl ?_ ?_ ?_
   ·exact ⟨Nat.zero_le _,WOk.nil⟩
   ·repeat' (first|exact trivial|with_reducible exact rfl|refine And.intro ?_ ?_)
    all_goals rfl
   ·rintro ⟨i,W⟩ ⟨hi,hW⟩
    dsimp only at hi hW ⊢
    repeat' (first|refine zN ?_|refine zE ?_|refine zP ?_|refine pD ?_|refine zQ ?_|refine zR ?_|refine zW ?_)
    refine condI rfl (fun c1=>?_) (fun c1=>?_)
    ·simp only [decide_eq_true_eq] at c1
     have hil:i < List.length (α:=FcT) l1:=by omega
     have hin:((i:Int)).toNat=i:=by omega
     obtain ⟨x,hx⟩:∃ x:FcT,x=getI l1 tFc.dflt i:=⟨_,rfl⟩
     have htk:List.take (α:=FcT) (i+1) l1=List.take (α:=FcT) i l1++[x]:=by rw [hx];exact Bs.take_succ_getI hil
     repeat' (first|refine zN ?_|refine zE ?_|refine zP ?_|refine pD ?_|refine zQ ?_|refine zR ?_|refine zW ?_)
     simp only [hin]
     rw [← hx]
     obtain ⟨w,hw⟩:∃ w,w=whoF l3 x.2.2.2.2.2.2.2.1 x.2.2.2.2.2.1:=⟨_,rfl⟩
     refine condI rfl (fun c2=>?_) (fun c2=>?_)
     ·have c2:(!gapOk tl ch x||!may x)=true:=c2
      have hno:nearF tl ch fr to er l11 x=false:=by
       rw [hnf]
       cases hg:gapOk tl ch x
       ·rfl
       ·rw [hg] at c2
        cases hm:may x
        ·rfl
        ·rw [hm] at c2;cases c2
      repeat' (first|refine zN ?_|refine zE ?_|refine zP ?_|refine pD ?_|refine zQ ?_|refine zR ?_|refine zW ?_)
      refine roundI (i+1,W) rfl ?_ ?_ ?_
      ·refine ⟨by show i+1≤List.length (α:=FcT) l1;omega,?_⟩
       have:entF tl ch fr to er (List.take (α:=FcT) (i+1) l1) l3 l11=entF tl ch fr to er (List.take (α:=FcT) i l1) l3 l11:=funext fun v=>by
        rw [htk]
        exact entW_no hno v
       show WOk W (entF tl ch fr to er (List.take (α:=FcT) (i+1) l1) l3 l11)
       rw [this]
       exact hW
      ·show List.length (α:=FcT) l1 - (i+1) < List.length (α:=FcT) l1 - i
       omega
      ·repeat' (first|exact trivial|with_reducible exact rfl|refine And.intro ?_ ?_)
       all_goals rfl
     ·have c2:(!gapOk tl ch x||!may x)=false:=c2
      have hyes:nearF tl ch fr to er l11 x=true:=by
       rw [hnf]
       cases hg:gapOk tl ch x
       ·rw [hg] at c2;cases c2
       ·rw [hg] at c2
        cases hm:may x
        ·rw [hm] at c2;cases c2
        ·rfl
      have hoth:∀ v,v≠w→entF tl ch fr to er (List.take (α:=FcT) (i+1) l1) l3 l11 v=entF tl ch fr to er (List.take (α:=FcT) i l1) l3 l11 v:=fun v hv=>by
       rw [htk]
       exact entW_other (by rw [hw] at hv;exact hv)
      have hown:entF tl ch fr to er (List.take (α:=FcT) (i+1) l1) l3 l11 w=entF tl ch fr to er (List.take (α:=FcT) i l1) l3 l11 w++[((x.2.1:Int),surF fr to er x)]:=by
       rw [htk,hw]
       exact entW_own hyes
      have hfr:∀ e∈entF tl ch fr to er (List.take (α:=FcT) i l1) l3 l11 w,e.1≠(x.2.1:Int):=fun e he h=>by
       obtain ⟨q,hq,hqe⟩:=entW_ids e he
       have hpw:=hids
       rw [← List.take_append_drop (i+1) l1,htk] at hpw
       exact (List.pairwise_append.1 (List.pairwise_append.1 hpw).1).2.2 q hq x (by simp) (hqe.trans h)
      repeat' (first|refine zN ?_|refine zE ?_|refine zP ?_|refine pD ?_|refine pC (by exact hwf.n3) ?_|refine zQ ?_|refine zR ?_|refine zW ?_)
      rw [← hw]
      refine condI rfl (fun c3=>?_) (fun c3=>?_)
      ·have c3:(mmIdx tI w W).isNone=true:=c3
       have hn:mmIdx tI w W=none:=Option.isNone_iff_eq_none.1 c3
       obtain ⟨hW1,hs1⟩:=hW.new hn
       repeat' (first|refine zN ?_|refine zE ?_|refine zP ?_|refine zS ?_|refine zO ?_|refine zW ?_)
       refine zR ?_
       repeat' (first|with_reducible refine pN ?_|refine pD ?_|refine pC (by exact hn) ?_)
       repeat with_reducible refine cN ?_
       obtain ⟨y,hy,hyw,hyp⟩:=(hW1 w).2 _ hs1
       have hfind:mapFind tI .bool (x.2.1:Int) y.2=none:=find_no fun e he=>hfr e (hyp.mem_iff.1 he)
       have hset:=set_perm (b:=surF fr to er x) hfind
       have hnew:WOk (List.set (W++[(w,[])]) W.length (y.1,mapSet tI .bool (x.2.1:Int) (surF fr to er x) y.2)) (entF tl ch fr to er (List.take (α:=FcT) (i+1) l1) l3 l11):=hW1.put hs1 hy hoth (by rw [hown];exact hset.trans (hyp.append_right _))
       refine takeI 5001 6001 (W.length) (by rfl) (by rfl) (by rfl) hy ?_
       repeat' (first|refine zN ?_|refine zE ?_|refine zP ?_|refine zS ?_|refine zO ?_|refine zW ?_)
       refine zR ?_
       repeat' (first|with_reducible refine pN ?_|refine pD ?_|refine pC (by exact hs1) ?_)
       repeat with_reducible refine cN ?_
       repeat' (first|refine zN ?_|refine zE ?_|refine zP ?_|refine zQ ?_|refine zW ?_)
       refine backI 5001 (by rfl) (by rfl) (by rfl) hy ?_
       repeat' (first|refine zN ?_|refine zE ?_|refine zP ?_|refine pD ?_|refine zQ ?_|refine zR ?_|refine zW ?_)
       refine roundI (i+1,List.set (W++[(w,[])]) W.length (y.1,mapSet tI .bool (x.2.1:Int) (surF fr to er x) y.2)) rfl ?_ ?_ ?_
       ·exact ⟨by show i+1≤List.length (α:=FcT) l1;omega,hnew⟩
       ·show List.length (α:=FcT) l1 - (i+1) < List.length (α:=FcT) l1 - i
        omega
       ·repeat' (first|exact trivial|with_reducible exact rfl|refine And.intro ?_ ?_)
        all_goals first|rfl|(rw [hfind];rfl)
      ·have c3:(mmIdx tI w W).isNone=false:=c3
       obtain ⟨j,hs1⟩:=Option.isSome_iff_exists.1 (by rw [← Option.not_isNone,c3];rfl:(mmIdx tI w W).isSome=true)
       obtain ⟨y,hy,hyw,hyp⟩:=(hW w).2 _ hs1
       have hfind:mapFind tI .bool (x.2.1:Int) y.2=none:=find_no fun e he=>hfr e (hyp.mem_iff.1 he)
       have hset:=set_perm (b:=surF fr to er x) hfind
       have hnew:WOk (List.set W j (y.1,mapSet tI .bool (x.2.1:Int) (surF fr to er x) y.2)) (entF tl ch fr to er (List.take (α:=FcT) (i+1) l1) l3 l11):=hW.put hs1 hy hoth (by rw [hown];exact hset.trans (hyp.append_right _))
       refine takeI 5001 6001 (j) (by rfl) (by rfl) (by rfl) hy ?_
       repeat' (first|refine zN ?_|refine zE ?_|refine zP ?_|refine zS ?_|refine zO ?_|refine zW ?_)
       refine zR ?_
       repeat' (first|with_reducible refine pN ?_|refine pD ?_|refine pC (by exact hs1) ?_)
       repeat with_reducible refine cN ?_
       repeat' (first|refine zN ?_|refine zE ?_|refine zP ?_|refine zQ ?_|refine zW ?_)
       refine backI 5001 (by rfl) (by rfl) (by rfl) hy ?_
       repeat' (first|refine zN ?_|refine zE ?_|refine zP ?_|refine pD ?_|refine zQ ?_|refine zR ?_|refine zW ?_)
       refine roundI (i+1,List.set W j (y.1,mapSet tI .bool (x.2.1:Int) (surF fr to er x) y.2)) rfl ?_ ?_ ?_
       ·exact ⟨by show i+1≤List.length (α:=FcT) l1;omega,hnew⟩
       ·show List.length (α:=FcT) l1 - (i+1) < List.length (α:=FcT) l1 - i
        omega
       ·repeat' (first|exact trivial|with_reducible exact rfl|refine And.intro ?_ ?_)
        all_goals first|rfl|(rw [hfind];rfl)
    ·simp only [decide_eq_false_iff_not] at c1
     have hie:i=List.length (α:=FcT) l1:=by omega
     rw [hie,List.take_length] at hW
     clear hmay hnf
     repeat' (first|refine zN ?_|refine zE ?_|refine zP ?_|refine pD ?_|refine pC (by exact hwf) ?_|refine zQ ?_|refine zR ?_|refine zW ?_)
     refine tidyI [(0,.junk),(1,.junk),(2,.junk),(3,.junk),(4,.junk),(5,.junk),(6,.junk),(7,.junk),(10,.junk),(23,.junk),(47,.junk),(48,.junk),(49,.junk),(50,.junk),(75,.junk),(76,.junk),(77,.junk),(78,.junk)] [(2,.dead),(3,.dead),(5,.dead)] rfl rfl ?_ ?_
     ·repeat' (first|exact trivial|exact rfl|refine ⟨rfl,?_⟩|refine And.intro ?_ ?_)
     have hwl:List.length (Gn.sortI (Gn.keysOf (wfM l1 l3 l4)))≤1000:=by
      unfold Gn.sortI Gn.keysOf
      rw [sortF_length,List.length_map]
      exact Nat.le_trans hwf.few (by decide)
     exact judTail hW (fun w=>Nat.le_trans entW_len hn1) hwl
end Go.AM.YtbepaplaahcnkaaGreat.Ex
end

section
namespace Go.AM.YtbepaplaahcnkaaGreat.Fc
open Go.Proofs Go.RowKit
theorem heap_setCell1 {w:World} {b i:Nat} {v:Value} {cs:Array Value} {T:TypeId} (hb:w.heap[b]?=some (.cells cs T (0,0))):(w.setCell ⟨b,i,none⟩ v).heap[b]?=some (.cells (cs.setIfInBounds i v) T (0,0)):=by
 simp [World.setCell,Array.getElem?_modify,hb]
theorem heap_setCell2 {w:World} {b i:Nat} {v:Value} {k:Nat} (h:k≠b):(w.setCell ⟨b,i,none⟩ v).heap[k]?=w.heap[k]?:=by
 simp [World.setCell,Array.getElem?_modify,Ne.symm h]
set_option maxHeartbeats 2000000 in
set_option maxRecDepth 100000 in
theorem strRun {b g n cap:Nat} {p:Value} {T:TypeId} {cur:Array Value} {w:World} {l:List UInt8} (hb:w.heap[b]?=some (.cells #[p,.slice (some ⟨g,0,none⟩) n cap] T (0,0))) (hg:w.heap[g]?=some (.cells cur 5 (0,0)))
 (hn:l.length=n) (h0:l≠[]) (hcap:n≤cap) (hcm:cap≤maxLen) (hcs:cur.size=cap * 1) (hcell:∀ j x,l[j]?=some x→w.cell? ((⟨g,0,none⟩:Addr).add j)=some (.int .u8 x.toNat)) :
 Calls Tryz.prog 50 #[.pointer (some ⟨b,0,none⟩)] w fun e w'=>e=.returned (.string ⟨l.toArray⟩)∧w'.os=w.os∧w'.tape=w.tape∧w'.output=w.output∧w.heap.size≤w'.heap.size∧∀ k,k < w.heap.size→k≠g→w'.heap[k]?=w.heap[k]?:=by
 have hl0:l.length≠0:=by simpa using h0
 have c1:w.drew.cell? ⟨b,1,none⟩=some (.slice (some ⟨g,0,none⟩) n cap):=by
  have:w.drew.heap[b]?=some (.cells #[p,.slice (some ⟨g,0,none⟩) n cap] T (0,0)):=hb
  rw [Lib.cell_of_heap this];rfl
 have hSD:(Builtin.unsafeSliceData_ #[127] 202 #[.slice (some ⟨g,0,none⟩) n cap]).run Tryz.prog w.drew=.ok (.pointer (some ⟨g,0,none⟩)) w.drew :=
  Lib.run_unsafeSliceData_row _ _ _ _ _ _ (by omega)
 have hUS:(Builtin.unsafeString_ #[202,3] 9 #[.pointer (some ⟨g,0,none⟩),.int .i64 n]).run Tryz.prog w.drew=.ok (.string ⟨l.toArray⟩) (w.drew.freeze ⟨g,0,none⟩ l.length):=by
  rw [← hn]
  refine Lib.run_unsafeString_row w.drew 202 3 9 5 (by kernel_rfl) (by kernel_rfl) g cur.size (by have hg':w.drew.heap[g]?=some (.cells cur 5 (0,0)):=hg;simp [World.shape?,hg']) l h0 (by omega) (by unfold maxLen at hcm;omega) hcell
 have mixed:Tryz.prog.follows Departure.mixedOrders=true:=by kernel_rfl
 go_enter Tryz.func50,Tryz.ntmps50
 go_wp2
 go_region_o
 all_goals
  go_wp2
  go_ret
  refine ⟨rfl,?_,?_,?_,?_,fun k hk hkg=>?_⟩ <;> unfold World.freeze <;> split <;> try rfl
  ·exact Nat.le_refl _
  ·exact Nat.le_of_eq (Array.size_modify ..).symm
  ·simp [Array.getElem?_modify,Ne.symm hkg];rfl
set_option maxHeartbeats 1000000 in
set_option maxRecDepth 100000 in
theorem copyUsed {b:Nat} {w:World} (h0:w.cell? ⟨b,0,none⟩=some (.pointer (some ⟨b,0,none⟩))) :
 Calls Tryz.prog 171 #[.pointer (some ⟨b,0,none⟩)] w fun e w'=>e=.returned (.tuple #[])∧w'=w:=by
 obtain ⟨j,hj⟩:∃ j,Tryz.prog.info? 129=some j:=⟨_,rfl⟩
 have mixed:Tryz.prog.follows Departure.mixedOrders=true:=by kernel_rfl
 go_enter Tryz.func171,Tryz.ntmps171
 go_wp2
 rw [Lib.run_neq_ptr_same (te:=129) w _ (by kernel_rfl) hj]
 go_wp2
 go_end0
 exact ⟨rfl,rfl⟩
set_option maxHeartbeats 1000000 in
set_option maxRecDepth 100000 in
theorem copyFresh {b:Nat} {w:World} (h0:w.cell? ⟨b,0,none⟩=some (.pointer none)) (hsh:w.shape? b=some (131,2)) (hfz:w.frozen? ⟨b,0,none⟩=false) :
 Calls Tryz.prog 171 #[.pointer (some ⟨b,0,none⟩)] w fun e w'=>e=.returned (.tuple #[])∧w'=w.setCell ⟨b,0,none⟩ (.pointer (some ⟨b,0,none⟩)):=by
 obtain ⟨j,hj⟩:∃ j,Tryz.prog.info? 129=some j:=⟨_,rfl⟩
 have hjs:j.size=2:=by
  have:(Tryz.prog.info? 129).map (·.size)=some 2:=by kernel_rfl
  rw [hj] at this
  simpa using this
 have mixed:Tryz.prog.follows Departure.mixedOrders=true:=by kernel_rfl
 go_enter Tryz.func171,Tryz.ntmps171
 go_wp2
 rw [Lib.run_to_unsafe (t:=129) w ⟨b,0,none⟩ (by kernel_rfl) (by kernel_rfl) hj (by rw [hjs];decide) hsh (Nat.zero_lt_succ 1)]
 simp only [Result.andThen]
 rw [Oper.upon_value]
 go_wp2
 rw [run_callFunc_extern Tryz.func187 (by kernel_rfl) (by kernel_rfl) (by kernel_rfl) (e:=Extern.AbiNoEscape.same) (by kernel_rfl)]
 rw [Lib.run_noEscape]
 simp only [Result.andThen]
 rw [Oper.upon_value]
 go_wp2
 rw [Lib.run_from_unsafe (u:=129) w ⟨b,0,none⟩ (by kernel_rfl) (by kernel_rfl) hj hsh (by kernel_rfl)]
 simp only [Result.andThen]
 rw [Oper.upon_value]
 go_wp2
 go_end0
 exact ⟨rfl,rfl⟩
section
variable {P:Program}
theorem wpApp {ops:Array Oper} {rest:List Oper} {o:Oper} {a:Act} {w:World} {Q:Exit→Act→World→Prop} (hgd:o.guard=none) (sl x:Operand) (t u:TypeId)
 (ho:o.op=.call { callee:=.builtin .append,args:=#[sl,x],argTypes:=#[t,u] })
 {e e':TypeId} {i:TypeInfo} {z:Value} (ht:P.underlying t=some (.slice e)) (hu:P.underlying u=some .string) (hi:P.info? e=some i) (hz:i.zero=some z) (hzs:z.cells.size=1) (hs1:i.size=1) (hb1:i.bytes=1)
 (v:Value) (n:Nat) (xs:List Value) (hs:a.eval sl=v) (hown:ownsSeq w e' 1 v n xs) (s:ByteArray) (hx:a.eval x=.string s) (hby:n+s.size≤140737488355328)
 (h:∀ v' w' e2,ownsSeq w' e2 1 v' (n+s.size) (xs++Go.Lib.strCells s)→w.grownBy w' (blkOf v)→(∀ b,blkOf v'=some b→blkOf v=some b∨w.heap.size≤b)→(e2=e'∨e2=e)→wpList P ops Q rest (a.put o.dst v') w'):wpList P ops Q (o::rest) a w:=by
 refine wpList_plain hgd fun K hK=>?_
 obtain ⟨v',w',e2,hr,h2,h3,h4,h5⟩:=run_append_str (P:=P) (ty:=o.type) ht hu hi hz hzs hs1 hb1 v n xs hown s hby
 unfold Oper.wp execOp
 simp only [ho,resolve,invoke,builtin,Sem.run_bind,Sem.run_pure,Result.andThen_ok,List.map_toArray,List.map_cons,List.map_nil,hs,hx,hr]
 exact hK _ _ (h v' w' e2 h2 h3 h4 h5)
end
set_option maxHeartbeats 2000000 in
set_option maxRecDepth 100000 in
theorem writeRun {b n:Nat} {u:Bool} {v:Value} {w:World} {xs:List Value} {s:ByteArray} (hb:w.heap[b]?=some (.cells #[bldP b u,v] 131 (0,0))) (how:ownsSeq w 5 1 v n xs) (hne:blkOf v≠some b) (hby:n+s.size≤140737488355328) :
 Calls Tryz.prog 116 #[.pointer (some ⟨b,0,none⟩),.string s] w fun e w'=>e=.returned (.tuple #[.int .i64 s.size,.nilIface])∧w'.os=w.os∧w'.tape=w.tape∧w'.output=w.output∧w.heap.size≤w'.heap.size ∧
  (∃ v',w'.heap[b]?=some (.cells #[bldP b true,v'] 131 (0,0))∧ownsSeq w' 5 1 v' (n+s.size) (xs++Go.Lib.strCells s)∧blkOf v'≠some b∧∀ c,blkOf v'=some c→blkOf v=some c∨w.heap.size≤c) ∧
  ∀ k,k < w.heap.size→k≠b→blkOf v≠some k→w'.heap[k]?=w.heap[k]?:=by
 obtain ⟨i,hi⟩:∃ i,Tryz.prog.info? 5=some i:=⟨_,rfl⟩
 obtain ⟨z,hz⟩:∃ z,i.zero=some z:=by
  have:(Tryz.prog.info? 5).map (·.zero)=some (some (.int .u8 0)):=by kernel_rfl
  rw [hi] at this
  exact ⟨_,by simpa using this⟩
 have hz0:z=.int .u8 0:=by
  have:(Tryz.prog.info? 5).map (·.zero)=some (some (.int .u8 0)):=by kernel_rfl
  rw [hi] at this
  simp only [Option.map_some,Option.some.injEq,hz] at this
  exact this
 have hs1:i.size=1:=by
  have:(Tryz.prog.info? 5).map (·.size)=some 1:=by kernel_rfl
  rw [hi] at this
  simpa using this
 have hb1:i.bytes=1:=by
  have:(Tryz.prog.info? 5).map (·.bytes)=some 1:=by kernel_rfl
  rw [hi] at this
  simpa using this
 have mixed:Tryz.prog.follows Departure.mixedOrders=true:=by kernel_rfl
 have hblt:b < w.heap.size:=(Array.getElem?_eq_some_iff.1 hb).1
 have copy:Calls Tryz.prog 171 #[.pointer (some ⟨b,0,none⟩)] w fun e w'=>e=.returned (.tuple #[])∧w'.os=w.os∧w'.tape=w.tape∧w'.output=w.output∧w'.heap.size=w.heap.size∧w'.heap[b]?=some (.cells #[bldP b true,v] 131 (0,0))∧∀ k,k≠b→w'.heap[k]?=w.heap[k]?:=by
  cases u with
  | true =>
    refine (copyUsed (b:=b) (w:=w) (by rw [Lib.cell_of_heap hb];rfl)).mono ?_
    rintro e w' ⟨rfl,rfl⟩
    exact ⟨rfl,rfl,rfl,rfl,rfl,hb,fun _ _=>rfl⟩
  | false =>
    refine (copyFresh (b:=b) (w:=w) (by rw [Lib.cell_of_heap hb];rfl) (by simp [World.shape?,hb]) (Lib.frozen_of_heap hb 0)).mono ?_
    rintro e w' ⟨rfl,rfl⟩
    refine ⟨rfl,rfl,rfl,rfl,by simp [World.setCell],?_,fun k hk=>heap_setCell2 hk⟩
    rw [heap_setCell1 hb];rfl
 go_enter Tryz.func116,Tryz.ntmps116
 go_wp2_with (go_at_call 171;refine copy.mono ?_)
 rintro e w1 ⟨rfl,ho1,ht1,hu1,hs2,hbk,hk1⟩
 have how1:ownsSeq w1 5 1 v n xs:=ownsSeq_mono (fun c hc=>hk1 c (fun e=>hne (e ▸ hc))) how
 have c0:w1.cell? ⟨b,0,none⟩=some (bldP b true):=by rw [Lib.cell_of_heap hbk];rfl
 have c1:w1.cell? ⟨b,1,none⟩=some v:=by rw [Lib.cell_of_heap hbk];rfl
 go_wp2_with (at_builtin;refine wpApp rfl _ _ 127 9 rfl (e:=5) (by kernel_rfl) (by kernel_rfl) hi hz (by rw [hz0];rfl) hs1 hb1 _ _ _ rfl how1 s rfl hby ?_)
 intro v' w2 e2 hown' hgrow hat hee
 have he2:e2=5:=by first|exact hee|exact hee.elim (fun h=>h) (fun h=>h)
 subst he2
 have hlt:b < w1.heap.size:=by omega
 have hb2:w2.heap[b]?=some (.cells #[bldP b true,v] 131 (0,0)):=by
  rw [hgrow.block b hlt (fun e=>hne e.symm)]
  exact hbk
 have d0:w2.cell? ⟨b,0,none⟩=some (bldP b true):=by rw [Lib.cell_of_heap hb2];rfl
 have d1:w2.cell? ⟨b,1,none⟩=some v:=by rw [Lib.cell_of_heap hb2];rfl
 have f1:w2.frozen? ⟨b,1,none⟩=false:=Lib.frozen_of_heap hb2 1
 have hne':blkOf v'≠some b:=fun h=>by
  rcases hat b h with h|h
  ·exact hne h
  ·omega
 obtain ⟨ao,n',cap,rfl⟩:∃ ao n' cap,v'=.slice ao n' cap:=by
  rcases hown'.2 with ⟨_,hv,_⟩|⟨g,cap,cur,hv,_⟩
  ·exact ⟨_,_,_,hv⟩
  ·exact ⟨_,_,_,hv⟩
 go_wp2
 go_ret2
 refine ⟨rfl,hgrow.os.trans ho1,hgrow.tape.trans ht1,hgrow.output.trans hu1,?_,⟨_,?_,?_,hne',fun c hc=>(hat c hc).imp id (fun h=>by omega)⟩,fun k hk hkb hkv=>?_⟩
 ·have:=hgrow.size
  simp [World.setCell];omega
 ·rw [heap_setCell1 hb2];rfl
 ·exact ownsSeq_mono (fun c hc=>heap_setCell2 (fun e=>hne' (e ▸ hc))) hown'
 ·rw [heap_setCell2 hkb,hgrow.block k (by omega) (fun e=>hkv e.symm)]
  exact hk1 k hkb
theorem one_row {w0 w':World} {g0:Nat→Gh} {R0:Nat→Prop} {o o':AObj} (hlt:∀ b,R0 b→b < w0.heap.size) (hown:∀ b,Own g0 w0 0 o b→¬ R0 b) (hos:w'.os=w0.os) (htape:w'.tape=w0.tape) (hout:w'.output=w0.output) (hs:w0.heap.size≤w'.heap.size)
 (hfr:∀ k,k < w0.heap.size→¬ Own g0 w0 0 o k→w'.heap[k]?=w0.heap[k]?) (hrow:RowH g0 (locK [o']) R0 w' 0 o') (hown':∀ b,Own g0 w' 0 o' b→Own g0 w0 0 o b∨w0.heap.size≤b) :
 HeapR ⟨w0,pasOf g0 w0 [o],R0,g0,[]⟩ g0 R0 (locK [o']) (locRow [o']) w':=by
 have h1:∀ r x,locRow [o'] r=some x→r=0∧x=o':=fun r x h=>by
  cases r with
  | zero=>simp [locRow] at h;exact ⟨rfl,h.symm⟩
  | succ r=>simp [locRow] at h
 refine ⟨hs,hos,htape,hout,fun b hb hp=>hfr b hb (fun h=>hp ⟨0,o,rfl,h⟩),fun _ h=>h,fun b hb=>Nat.lt_of_lt_of_le (hlt b hb) hs,fun b hb _=>.inl hb,fun _ _ _=>rfl,fun r x h=>?_,fun r x h=>?_,fun r x b h hb=>?_,fun r r' x x' b h h' _ _=>(h1 r x h).1.trans (h1 r' x' h').1.symm⟩
 ·rw [(h1 r x h).1];simp [locK]
 ·obtain ⟨rfl,rfl⟩:=h1 r x h;exact hrow
 ·obtain ⟨rfl,rfl⟩:=h1 r x h
  rcases hown' b hb with h2|h2
  ·exact ⟨hown b h2,.inr ⟨0,o,rfl,h2⟩⟩
  ·exact ⟨fun h3=>by have:=hlt b h3;omega,.inl h2⟩
def writeS:Spec:=⟨true,fun args rows=>match args,rows with
 | [.ptr 0 0,.str s],[.bld T e u l]=>some ⟨(T=131∧e=5)∧l.length+s.size≤140737488355328,.junk,[.bld T e true (l++strB s)],true⟩
 | _,_=>none⟩
theorem writeOk:SpecSound Tryz.prog 116 writeS:=by
 intro args rows out hf hpre hraw w0 g0 R0 vals hlt hheld hown hsep hargs
 unfold writeS at hf
 dsimp only at hf
 split at hf <;> try (cases hf;done)
 rename_i s T e u l
 cases hf
 obtain ⟨⟨rfl,rfl⟩,hby⟩:=hpre
 obtain ⟨v,h1,h2,h3⟩:=hheld 0 _ rfl
 cases hargs with
 | cons ha hargs =>
 cases hargs with
 | cons hb hargs =>
 cases hargs
 cases ha
 cases hb
 refine (writeRun (n:=l.length) h1 h2 h3 hby).mono ?_
 rintro e w' ⟨rfl,q1,q2,q3,q4,⟨v',q5,q6,q7,q8⟩,q9⟩
 refine ⟨_,g0,R0,rfl,one_row hlt (hown 0 _ · rfl) q1 q2 q3 q4 (fun k hk hno=>q9 k hk (fun e=>hno (.inl e)) (fun e=>hno (.inr ⟨_,_,_,h1,e⟩))) ⟨v',q5,?_,q7⟩ (fun b hb=>?_),fun _ _=>rfl,Nat.le_refl _,.junk,fun h=>by cases h⟩
 ·rw [List.length_append,strB_len,List.map_append,← strCells_map]
  exact q6
 ·rcases hb with hb|⟨p,v2,T2,hb,hb2⟩
  ·exact .inl (.inl hb)
  ·rw [q5] at hb
   cases hb
   rcases q8 b hb2 with h|h
   ·exact .inl (.inr ⟨_,_,_,h1,h⟩)
   ·exact .inr h
def stringS:Spec:=⟨true,fun args rows=>match args,rows with
 | [.ptr 0 0],[.bld T e u l]=>some ⟨(T=131∧e=5)∧0 < l.length∧∀ x∈l,0≤x∧x < 256,.str (bytesS l),[.dead],true⟩
 | _,_=>none⟩
theorem stringOk:SpecSound Tryz.prog 50 stringS:=by
 intro args rows out hf hpre hraw w0 g0 R0 vals hlt hheld hown hsep hargs
 unfold stringS at hf
 dsimp only at hf
 split at hf <;> try (cases hf;done)
 rename_i T e u l
 cases hf
 obtain ⟨⟨rfl,rfl⟩,hl,hby⟩:=hpre
 obtain ⟨v,h1,h2,h3⟩:=hheld 0 _ rfl
 cases hargs with
 | cons ha hargs =>
 cases hargs
 cases ha
 rcases h2.2 with ⟨_,_,hn⟩|⟨g,cap,cur,rfl,h0,hh,hle,hc2,hcs,htk⟩
 ·omega
 have hcells:=own_cells h2 rfl
 refine (strRun (l:=l.map fun n=>UInt8.ofNat n.toNat) h1 hh (by simp) (by intro h;rw [List.map_eq_nil_iff] at h;rw [h] at hl;simp at hl) hle hc2 hcs (fun j x hx=>?_)).mono ?_
 ·obtain ⟨y,hy,rfl⟩:=List.getElem?_map .. ▸ hx |> Option.map_eq_some_iff.1
  have:=hby y (List.mem_of_getElem? hy)
  have h5:=hcells j (.int .u8 y) (by rw [List.getElem?_map,hy];rfl)
  rw [h5]
  have h6:((UInt8.ofNat y.toNat).toNat:Int)=y:=by
   rw [UInt8.toNat_ofNat'];omega
  rw [h6]
 ·rintro e w' ⟨rfl,q1,q2,q3,q4,q5⟩
  refine ⟨_,g0,R0,rfl,one_row hlt (hown 0 _ · rfl) q1 q2 q3 q4 (fun k hk hno=>q5 k hk (fun e=>hno (.inr ⟨_,_,_,h1,by rw [e,blkOf_pos h0]⟩))) trivial (fun b hb=>by cases hb),fun _ _=>rfl,Nat.le_refl _,.str ?_,fun h=>by cases h⟩
  have:(bytesS l).size=l.length:=by
   show ((l.map fun n=>UInt8.ofNat n.toNat).toArray).size=_
   simp
  rw [this];omega
end Go.AM.YtbepaplaahcnkaaGreat.Fc
end

section
namespace Go.AM
section
variable {P:Program} {tt:TT} {S:Nat→Option Spec}
def roundP (E:Env P tt S) (K:List Nat) (c:Code) (Q:AExit→St→Prop):Nat→St→Prop
 | 0,_=>False
 | m+1,st=>WP E K c st fun e st'=>match e with
   | .normal=>roundP E K c Q m st'
   | e=>Q e st'
def unrP (E:Env P tt S) (K:List Nat) (c:Code) (Q:AExit→St→Prop) (m:Nat) (e:AExit) (st:St):Prop:=match e with
 | .normal=>roundP E K c Q m st
 | e=>Q e st
variable {E:Env P tt S} {K:List Nat} {c:Code} {st:St} {Q:AExit→St→Prop}
theorem unrN {m:Nat} (k:WP E K c st (unrP E K c Q m)):unrP E K c Q (m+1) .normal st:=k
theorem unrE {m i:Nat} (k:Q (.exit i) st):unrP E K c Q m (.exit i) st:=k
theorem roundP_sound (hc:codeOk c=true) {C:Ctx} {Q':Exit→Act→World→Prop} (hq:∀ C' e s g' R' a' w',Later C C'→Q e s→Rel C' g' R' s a' w'→Q' (toExit e) a' w') :
 ∀ (m:Nat) (st:St) (C1:Ctx) (g:Nat→Gh) (R:Nat→Prop) (a:Act) (w:World),Later C C1→Rel C1 g R st a w→roundP E K c Q m st→Code.roundsIn (FR E.ro) 0 P c Q' m a w
 | 0,_,_,_,_,_,_,_,_,h=>h.elim
 | m+1,st,C1,g,R,a,w,hl,hrel,h=>by
   rw [roundsIn_succ]
   refine h hc C1 g R a w _ hrel fun C2 e s g' R' a' w' hl2 hz hr=>?_
   cases e with
   | normal=>exact roundP_sound hc hq m s C2 g' R' a' w' (hl.trans hl2) hr hz
   | exit id=>exact hq C2 (.exit id) s g' R' a' w' (hl.trans hl2) hz hr
   | ret=>exact hq C2 .ret s g' R' a' w' (hl.trans hl2) hz hr
theorem unrollI (m:Nat) (hc:isLoop c=true) (h:unrP E K (inner c) Q m .normal st):WP E K c st Q:=by
 cases c <;> simp [isLoop] at hc
 rename_i b
 intro hc C g R a w Z hrel hq
 simp only [codeOk] at hc
 exact wpIn_loop_rounds m (roundP_sound hc hq m st C g R a w (Later.refl C) hrel h)
end
end Go.AM
end

section
namespace Go.AM.YtbepaplaahcnkaaGreat.Fc
open Go.Proofs
set_option maxRecDepth 100000
set_option maxHeartbeats 4000000
abbrev tGr:Ty:=.pair (.int .u8) .bool
def g8 (z:Int):Int:=IntKind.wrap .u8 (z % 128)
def g7 (z:Int):Int:=z.fdiv (2 ^ (min (7:Int).toNat IntKind.u64.bits))
theorem g7_eq (z:Int):g7 z=z.fdiv 128:=rfl
theorem g8_eq (z:Int):g8 z=z % 128:=by
 unfold g8
 simp [IntKind.wrap,IntKind.signed,IntKind.bits]
 omega
def grpL (z:Int):List (Int × Bool):=(g8 z,decide (z < 128))::if z < 128 then [] else [(g8 (g7 z),decide (g7 z < 128))]
def grpItS:Spec:=⟨true,fun args rows=>match args,rows with
 | [.own 0,.ptr 2 0],[.yp 1,.yld (.pair (.int .u8) .bool) true Y p,.box [.int .u64 z]] =>
   some ⟨(0≤z∧z < 16384)∧YGo (t:=tGr) Y p (grpL z),.tup [],[.yp 3,.dead,.dead,.yld tGr true Y (cut (α:=Int × Bool) Y.cont p (grpL z)).1],true⟩
 | _,_=>none⟩
theorem grpItOk:SpecSound Tryz.prog 186 grpItS:=by
 refine soundR (envOf sigNil) Tryz.func186 (c:=body Tryz.f186) rfl (by kernel_rfl) rfl ?_
 intro args rows out hf hpre
 split at hf <;> try (cases hf;done)
 rename_i Y p z
 cases hf
 refine ⟨Nat.le_of_ble_eq_true rfl,initI (args:=[.own 0,.ptr 2 0]) (rows:=[.yp 1,.yld tGr true Y p,.box [.int .u64 z]]) rfl ?_⟩
 obtain ⟨⟨hz0,hz1⟩,hgo⟩:=hpre
 obtain ⟨tot,htot⟩:∃ tot,tot=(cut (α:=Int × Bool) Y.cont p (grpL z)).1:=⟨_,rfl⟩
 rw [← htot]
 obtain ⟨hgo1,hgo2⟩:=hgo
 repeat' (first|refine zN ?_|refine zE ?_|refine zP ?_|refine pD ?_|refine zQ ?_|refine zR ?_|refine zW ?_)
 refine unrollI 3 rfl ?_
 refine unrN ?_
 repeat' (first|refine zN ?_|refine zE ?_|refine zP ?_|refine pD ?_|refine pC (by exact hgo1) ?_|refine zQ ?_|refine zR ?_|refine zW ?_)
 have hcut:∀ {c:List (Int × Bool)→Bool} {q:List (Int × Bool)} {x:Int × Bool} {l:List (Int × Bool)},(c (q++[x])=false∨l=[])→(cut c q (x::l)).1=q++[x]:=fun {c q x l} h=>by
  show (bif c (q++[x]) then cut c (q++[x]) l else (q++[x],false)).1=_
  rcases h with h|h
  ·rw [h];rfl
  ·subst h
   cases c (q++[x]) <;> rfl
 refine condI rfl (fun c1=>?_) (fun c1=>?_)
 ·have c1':(!Y.cont (p++[(g8 z,decide (z < 128))])||decide (z < 128))=true:=c1
  simp only [Bool.or_eq_true,Bool.not_eq_true',decide_eq_true_eq] at c1'
  have ht:tot=p++[(g8 z,decide (z < 128))]:=by
   rw [htot]
   exact hcut (c1'.imp id fun h=>by rw [if_pos h])
  rw [ht]
  repeat' (first|refine zN ?_|refine zE ?_|refine zP ?_|refine pD ?_|refine zQ ?_|refine zR ?_|refine zW ?_)
  refine endR rfl ?_
  repeat' (first|exact trivial|exact rfl|refine ⟨rfl,?_⟩|refine And.intro ?_ ?_)
 have c1':(!Y.cont (p++[(g8 z,decide (z < 128))])||decide (z < 128))=false:=c1
 simp only [Bool.or_eq_false_iff,Bool.not_eq_false',decide_eq_false_iff_not] at c1'
 obtain ⟨c1a,c1b⟩:=c1'
 have hgo2:=hgo2 c1a
 rw [if_neg c1b] at hgo2
 obtain ⟨hgo3,_⟩:=hgo2
 have h7:g7 z < 128:=by
  rw [g7_eq,Int.fdiv_eq_ediv_of_nonneg _ (by omega)]
  omega
 have h70:0≤g7 z:=by
  rw [g7_eq,Int.fdiv_eq_ediv_of_nonneg _ (by omega)]
  omega
 have ht:tot=p++[(g8 z,decide (z < 128))]++[(g8 (g7 z),decide (g7 z < 128))]:=by
  rw [htot]
  show (bif Y.cont (p++[(g8 z,decide (z < 128))]) then cut (α:=Int × Bool) Y.cont (p++[(g8 z,decide (z < 128))]) (if z < 128 then [] else [(g8 (g7 z),decide (g7 z < 128))]) else (p++[(g8 z,decide (z < 128))],false)).1=_
  rw [c1a,if_neg c1b]
  exact hcut (.inr rfl)
 rw [ht]
 repeat' (first|refine zN ?_|refine zE ?_|refine zP ?_|refine pD ?_|refine zQ ?_|refine zR ?_|refine zW ?_)
 refine unrN ?_
 refine tidyI [(3,.junk),(15,.junk)] [(100000,.yp 3000),(3000,.yld tGr true Y (p++[(g8 z,decide (z < 128))])),(100002,.box [.int .u64 (g7 z)])] rfl rfl ?_ ?_
 ·repeat' (first|exact trivial|exact rfl|refine ⟨rfl,?_⟩|refine And.intro ?_ ?_)
 repeat' (first|refine zN ?_|refine zE ?_|refine zP ?_|refine pD ?_|refine pC (by first|exact hgo3|exact h70) ?_|refine zQ ?_|refine zR ?_|refine zW ?_)
 refine condI rfl (fun c2=>?_) (fun c2=>?_)
 ·repeat' (first|refine zN ?_|refine zE ?_|refine zP ?_|refine pD ?_|refine zQ ?_|refine zR ?_|refine zW ?_)
  refine endR rfl ?_
  repeat' (first|exact trivial|exact rfl|refine ⟨rfl,?_⟩|refine And.intro ?_ ?_)
 ·have c2':(!Y.cont (p++[(g8 z,decide (z < 128))]++[(g8 (g7 z),decide (g7 z < 128))])||decide (g7 z < 128))=false:=c2
  simp only [Bool.or_eq_false_iff,decide_eq_false_iff_not] at c2'
  exact absurd h7 c2'.2
def grpS:Spec:=⟨true,fun args rows=>match args,rows with
 | [.int .u64 z],[]=>some ⟨True,.fn 186 [] [.ptr 0 0],[.box [.int .u64 z]],true⟩
 | _,_=>none⟩
theorem grpOk:SpecSound Tryz.prog 170 grpS:=by
 refine soundR (envOf sigNil) Tryz.func170 (c:=body Tryz.f170) rfl (by kernel_rfl) rfl ?_
 intro args rows out hf hpre
 split at hf <;> try (cases hf;done)
 rename_i z
 cases hf
 refine ⟨Nat.le_of_ble_eq_true rfl,initI (args:=[.int .u64 z]) (rows:=[]) rfl ?_⟩
 repeat' (first|refine zN ?_|refine zE ?_|refine zP ?_|refine pD ?_|refine zQ ?_|refine zR ?_|refine zW ?_)
 refine endR rfl ?_
 repeat' (first|exact trivial|exact rfl|refine ⟨rfl,?_⟩|refine And.intro ?_ ?_)
def byteB (x:Int × Bool):Int:=bif x.2 then x.1 else x.1+128
def putB (n:Int):List Int:=(grpL (2 * n)).map byteB
theorem cut_none {α:Type} {L:List α}:(cut (contOf fun (_:List α)=>none) [] L).1=L:=by
 rw [cut_all (fun _ _ _ _=>rfl)]
 rfl
def sigPi:List (Nat × Spec):=[(170,grpS),(186,grpItS)]
theorem sigPiOk:SigOk Tryz.prog (look sigPi):=sigCons (sigCons sigNil
 Tryz.func186 (by kernel_rfl) (c:=body Tryz.f186) rfl grpItOk)
 Tryz.func170 (by kernel_rfl) (c:=body Tryz.f170) rfl grpOk
def putIntS:Spec:=plain fun
 | [.int .i64 n]=>outV (0≤n∧n≤1000) (.tup [.str (bytesS (putB n)),.int .i64 0])
 | _=>none
theorem putIntOk:SpecSound Tryz.prog 115 putIntS:=by
 refine soundP (envOf sigPiOk) Tryz.func115 (c:=body Tryz.f115) rfl (by kernel_rfl) rfl ?_
 intro args out hf hpre
 split at hf <;> try (cases hf;done)
 rename_i n
 cases hf
 refine ⟨Nat.le_of_ble_eq_true rfl,initI (args:=[.int .i64 n]) rfl ?_⟩
 obtain ⟨h0,h1⟩:=hpre
 repeat' (first|refine zN ?_|refine zE ?_|refine zP ?_|refine pD ?_|refine zQ ?_|refine zR ?_|refine zW ?_)
 refine condI rfl (fun c=>by first|(simp at c;done)|(simp at c;omega)) (fun c=>?_)
 clear c
 have hz:IntKind.wrap .u64 (n.fdiv (2 ^ min (Int.toNat 63) IntKind.i64.bits))=0:=by
  have:n.fdiv (2 ^ min (Int.toNat 63) IntKind.i64.bits)=0:=by
   show n.fdiv 9223372036854775808=0
   rw [Int.fdiv_eq_ediv_of_nonneg _ (by omega)]
   omega
  rw [this]
  rfl
 have hz2:IntKind.wrap .u64 (IntKind.wrap .u64 n * 2 ^ min (Int.toNat 1) IntKind.u64.bits)=2 * n:=by
  show IntKind.wrap .u64 (IntKind.wrap .u64 n * 2)=2 * n
  simp [IntKind.wrap,IntKind.signed,IntKind.bits]
  omega
 repeat' (first|refine zN ?_|refine zE ?_|refine zP ?_|refine pD ?_|refine pC (by first|exact h0|exact hz) ?_|refine zQ ?_|refine zR ?_|refine zW ?_)
 rw [hz2]
 obtain ⟨z,hzn⟩:∃ z,z=2 * n:=⟨_,rfl⟩
 unfold putB
 rw [← hzn]
 have hb:∀ x∈grpL z,0≤x.1∧x.1 < 128:=fun x hx=>by
  have h8:∀ y,0≤g8 y∧g8 y < 128:=fun y=>by rw [g8_eq];omega
  unfold grpL at hx
  rcases List.mem_cons.1 hx with rfl|hx
  ·exact h8 _
  ·split at hx
   ·cases hx
   ·rw [List.mem_singleton.1 hx];exact h8 _
 refine rangeI (tGr) true (fun q=>[(4,.box [.own 55000]),(55000,.seq (.int .u8) (q.map byteB))]) (fun _=>none) (grpL z) 20 rfl rfl rfl rfl rfl rfl rfl rfl rfl (fun _=>rfl) (fun _=>rfl) (fun _=>rfl) rfl rfl rfl ?_ ?_ ?_ ?_ ?_ ?_
 ·exact ⟨rfl,rfl,rfl,by repeat' (first|exact trivial|exact rfl|refine And.intro ?_ ?_),by repeat' (first|exact trivial|exact rfl|refine And.intro ?_ ?_),rfl,rfl,rfl⟩
 ·repeat' (first|exact trivial|exact rfl|refine ⟨rfl,?_⟩|refine And.intro ?_ ?_)
 ·rfl
 ·intro J
  exact ⟨_,_,rfl,fun h=>⟨⟨by omega,by omega⟩,h⟩,rfl,rfl⟩
 ·intro l q x hq hjq hok
  refine ⟨_,rfl,?_⟩
  have hx:=hb x (hq.subset (by simp))
  have hl:q.length≤2:=by
   have h:=hq.length_le
   have:(grpL z).length≤2:=by
    unfold grpL
    split <;> simp
   simp only [List.length_append,List.length_singleton] at h
   omega
  have hqb:(q.map byteB).length≤2:=by rw [List.length_map];exact hl
  have hap:(q++[x]).map byteB=q.map byteB++[byteB x]:=by rw [List.map_append];rfl
  rw [hap]
  obtain ⟨x1,x2⟩:=x
  have hx1:0≤x1:=hx.1
  have hx2:x1 < 128:=hx.2
  cases x2
  ·repeat' (first|refine zN ?_|refine zE ?_|refine zP ?_|refine pD ?_|refine zQ ?_|refine zR ?_|refine zW ?_)
   refine asN ?_
   repeat' (first|refine zN ?_|refine zE ?_|refine zP ?_|refine pD ?_|refine zQ ?_|refine zR ?_|refine zW ?_)
   refine condT rfl ?_
   repeat' (first|refine zN ?_|refine zE ?_|refine zP ?_|refine pD ?_|refine pC (by first|exact hx1|exact hx2|exact rfl|(simp only [List.length_singleton];omega)) ?_|refine zQ ?_|refine zR ?_|refine zW ?_)
   refine yN rfl rfl ?_
   repeat' (first|exact trivial|exact rfl|refine ⟨rfl,?_⟩|refine And.intro ?_ ?_)
  ·repeat' (first|refine zN ?_|refine zE ?_|refine zP ?_|refine pD ?_|refine zQ ?_|refine zR ?_|refine zW ?_)
   refine asN ?_
   repeat' (first|refine zN ?_|refine zE ?_|refine zP ?_|refine pD ?_|refine zQ ?_|refine zR ?_|refine zW ?_)
   refine condF rfl ?_
   repeat' (first|refine zN ?_|refine zE ?_|refine zP ?_|refine pD ?_|refine pC (by first|(simp only [List.length_singleton];omega)) ?_|refine zQ ?_|refine zR ?_|refine zW ?_)
   refine yN rfl rfl ?_
   repeat' (first|exact trivial|exact rfl|refine ⟨rfl,?_⟩|refine And.intro ?_ ?_)
 ·rw [cut_none]
  repeat' (first|refine zN ?_|refine zE ?_|refine zP ?_|refine pD ?_|refine zQ ?_|refine zR ?_|refine zW ?_)
  refine endR rfl ?_
  repeat' (first|exact trivial|exact rfl|refine ⟨rfl,?_⟩|refine And.intro ?_ ?_)
end Go.AM.YtbepaplaahcnkaaGreat.Fc
end
