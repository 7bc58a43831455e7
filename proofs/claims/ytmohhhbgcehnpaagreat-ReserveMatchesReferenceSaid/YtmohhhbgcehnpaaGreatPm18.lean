/- CaRefA, CaE. -/
import Derived.Test.YtmohhhbgcehnpaaGreatPm17
import Derived.Test.YtmohhhbgcehnpaaGreatPm14

section
set_option linter.all false
namespace Go.AM.YtmohhhbgcehnpaaGreat
open Go.Proofs
set_option maxRecDepth 100000
set_option maxHeartbeats 8000000
def refNewS:Spec:=⟨true,fun args rows=>match args,rows with
 | [],[]=>some ⟨True,.ptr 0 0,[.box [.own 1],.seq Bk []],true⟩
 | _,_=>none⟩
theorem refNewOk:SpecSound Tryz.prog 28 refNewS:=by
 refine soundR (envOf sigNil) Tryz.func28 (c:=body Tryz.f28) rfl (by kernel_rfl) rfl ?_
 intro args rows out hf hpre
 split at hf <;> try (cases hf;done)
 cases hf
 refine ⟨Nat.le_of_ble_eq_true rfl,initI (args:=[]) (rows:=[]) rfl ?_⟩
 repeat' (first|refine zN ?_|refine zE ?_|refine zP ?_|refine pD ?_|refine zS ?_|refine zR ?_|refine zO ?_|refine zB ?_|refine zX ?_|refine zT ?_|refine skipI rfl ?_)
 refine endR rfl ?_
 repeat' (first|exact trivial|exact rfl|refine ⟨rfl,?_⟩|refine And.intro ?_ ?_)
def meetR (t s e:Int) (b:Bk.El):Bool:=decide (b.1=t)&&decide (s < e)&&decide (b.2.1 < e)&&decide (s < b.2.2.1)
def refBusyS:Spec:=plain fun
 | [.el (.slice (.pair (.int .i64) (.pair (.int .i64) (.pair (.int .i64) (.int .i64))))) [xs] 0 0,.int .i64 t,.int .i64 s,.int .i64 e]=>outV (List.length (α:=Bk.El) xs≤1000000) (.bool (List.any (α:=Bk.El) xs (meetR t s e)))
 | _=>none
theorem any_take_yes {α:Type} {p:α→Bool} {d:α} {xs:List α} {i:Nat} (hi:i < xs.length) (h:p (getI xs d i)=true):xs.any p=true:=by
 rw [List.any_eq_true]
 have e:getI xs d i=xs[i]:=by simp [getI,List.getD,List.getElem?_eq_getElem hi]
 exact ⟨xs[i],List.getElem_mem hi,by rw [← e];exact h⟩
theorem refBusyOk:SpecSound Tryz.prog 61 refBusyS:=by
 refine soundP (envOf sigNil) Tryz.func61 (c:=body Tryz.f61) rfl (by kernel_rfl) rfl ?_
 intro args out hf hpre
 split at hf <;> try (cases hf;done)
 rename_i xs t s e
 cases hf
 refine ⟨Nat.le_of_ble_eq_true rfl,initI (args:=[.el (.slice Bk) [xs] 0 0,.int .i64 t,.int .i64 s,.int .i64 e]) rfl ?_⟩
 have hX:getI ([xs]:List (Ty.slice Bk).El) (Ty.slice Bk).dflt 0=xs:=rfl
 have hxs:List.length (α:=Bk.El) xs≤1000000:=hpre
 repeat' (first|refine zN ?_|refine zE ?_|refine zP ?_|refine pD ?_|refine pC (by (simp only [hX];omega)) ?_|refine zS ?_|refine zR ?_|refine zO ?_|refine zB ?_|refine zX ?_|refine zT ?_|refine skipI rfl ?_)
 refine loopI (σ:=Nat) (fun i=>[(9,.int .i64 i)]) (fun i=>[]) (fun i=>i≤xs.length∧List.any (α:=Bk.El) (xs.take i) (meetR t s e)=false) (fun i=>xs.length - i) 0 rfl (fun _=>rfl) rfl ?_ ?_ ?_
 ·exact ⟨Nat.zero_le _,rfl⟩
 ·repeat' (first|exact trivial|exact rfl|refine ⟨rfl,?_⟩|refine And.intro ?_ ?_)
 ·rintro i ⟨hi,hn⟩
  repeat' (first|refine zN ?_|refine zE ?_|refine zP ?_|refine pD ?_|refine pC (by (simp only [hX];omega)) ?_|refine zS ?_|refine zR ?_|refine zO ?_|refine zB ?_|refine zX ?_|refine zT ?_|refine skipI rfl ?_)
  refine condI rfl (fun c1=>?_) (fun c1=>?_)
  ·have c1:(i:Int) < (List.length (α:=Bk.El) xs:Nat):=of_decide_eq_true c1
   have hin:((i:Int)).toNat=i:=by omega
   have hil:i < xs.length:=by omega
   repeat' (first|refine zN ?_|refine zE ?_|refine zP ?_|refine pD ?_|refine pC (by (simp only [hX];omega)) ?_|refine zS ?_|refine zR ?_|refine zO ?_|refine zB ?_|refine zX ?_|refine zT ?_|refine skipI rfl ?_)
   refine condI rfl (fun c2=>?_) (fun c2=>?_)
   ·have c2':meetR t s e (getI xs Bk.dflt ((i:Int)).toNat)=true:=c2
    rw [hin] at c2'
    repeat' (first|refine zN ?_|refine zE ?_|refine zP ?_|refine pD ?_|refine pC (by (simp only [hX];omega)) ?_|refine zS ?_|refine zR ?_|refine zO ?_|refine zB ?_|refine zX ?_|refine zT ?_|refine skipI rfl ?_)
    refine endR rfl ?_
    repeat' (first|exact trivial|exact rfl|refine ⟨rfl,?_⟩|refine And.intro ?_ ?_)
    exact any_take_yes hil c2'
   ·have c2':meetR t s e (getI xs Bk.dflt ((i:Int)).toNat)=false:=c2
    rw [hin] at c2'
    repeat' (first|refine zN ?_|refine zE ?_|refine zP ?_|refine pD ?_|refine pC (by (simp only [hX];omega)) ?_|refine zS ?_|refine zR ?_|refine zO ?_|refine zB ?_|refine zX ?_|refine zT ?_|refine skipI rfl ?_)
    refine roundI (i+1) rfl ?_ ?_ ?_
    ·refine ⟨by omega,?_⟩
     rw [take_succ_getI (d:=Bk.dflt) hil,List.any_append,hn]
     simp [c2']
    ·show xs.length - (i+1) < xs.length - i
     omega
    ·repeat' (first|exact trivial|exact rfl|refine ⟨rfl,?_⟩|refine And.intro ?_ ?_)
  ·have c1:¬ (i:Int) < (List.length (α:=Bk.El) xs:Nat):=of_decide_eq_false c1
   rw [List.take_of_length_le (i:=i) (by omega)] at hn
   repeat' (first|refine zN ?_|refine zE ?_|refine zP ?_|refine pD ?_|refine pC (by (simp only [hX];omega)) ?_|refine zS ?_|refine zR ?_|refine zO ?_|refine zB ?_|refine zX ?_|refine zT ?_|refine skipI rfl ?_)
   refine endR rfl ?_
   repeat' (first|exact trivial|exact rfl|refine ⟨rfl,?_⟩|refine And.intro ?_ ?_)
   exact hn
def stepR (t n f:Int) (b:Bk.El):Int:=if b.1=t∧f≤1000000 - n∧b.2.1 < f+n∧f < b.2.2.1 then b.2.2.1 else f
def foldR (t n:Int) (l:List Bk.El) (f:Int):Int:=l.foldl (stepR t n) f
def refFirstF (l:List Bk.El) (t f n:Int):Int × Bool :=
 if t < 0∨60≤t∨n < 1∨1000000 < n then (0,false) else if 1000000 - n < foldR t n l (max f 0) then (0,false) else (foldR t n l (max f 0),true)
theorem stepR_le (t n f:Int) (b:Bk.El):f≤stepR t n f b:=by
 unfold stepR
 split
 ·omega
 ·exact Int.le_refl _
theorem foldR_le (t n:Int):∀ (l:List Bk.El) (f:Int),f≤foldR t n l f
 | [],f=>Int.le_refl _
 | b::l,f=>Int.le_trans (stepR_le t n f b) (foldR_le t n l _)
theorem foldR_take {t n:Int} {l:List Bk.El} {i:Nat} (h:i < l.length) (f:Int):foldR t n (l.take (i+1)) f=stepR t n (foldR t n (l.take i) f) (getI l Bk.dflt i):=by
 rw [take_succ_getI (d:=Bk.dflt) h]
 unfold foldR
 rw [List.foldl_append]
 rfl
def refFirstS:Spec:=plain fun
 | [.el (.slice (.pair (.int .i64) (.pair (.int .i64) (.pair (.int .i64) (.int .i64))))) [xs] 0 0,.int .i64 t,.int .i64 f,.int .i64 n]=>outV (List.length (α:=Bk.El) xs≤1000000) (.tup [.int .i64 (refFirstF xs t f n).1,.bool (refFirstF xs t f n).2])
 | _=>none
theorem refFirstOk:SpecSound Tryz.prog 134 refFirstS:=by
 refine soundP (envOf sigNil) Tryz.func134 (c:=body Tryz.f134) rfl (by kernel_rfl) rfl ?_
 intro args out hf hpre
 split at hf <;> try (cases hf;done)
 rename_i xs t f n
 cases hf
 refine ⟨Nat.le_of_ble_eq_true rfl,initI (args:=[.el (.slice Bk) [xs] 0 0,.int .i64 t,.int .i64 f,.int .i64 n]) rfl ?_⟩
 have hX:getI ([xs]:List (Ty.slice Bk).El) (Ty.slice Bk).dflt 0=xs:=rfl
 have hxs:List.length (α:=Bk.El) xs≤1000000:=hpre
 repeat' (first|refine zN ?_|refine zE ?_|refine zP ?_|refine pD ?_|refine pC (by (simp only [decide_eq_true_eq,decide_eq_false_iff_not,Bool.or_eq_false_iff] at *;omega)) ?_|refine zS ?_|refine zR ?_|refine zO ?_|refine zB ?_|refine zX ?_|refine zT ?_|refine skipI rfl ?_)
 refine condI rfl (fun c0=>?_) (fun c0=>?_)
 ·have c0':(decide (t < 0)||decide (60≤t)||decide (n < 1)||decide (1000000 < n))=true:=c0
  simp only [Bool.or_eq_true,decide_eq_true_eq,or_assoc] at c0'
  repeat' (first|refine zN ?_|refine zE ?_|refine zP ?_|refine pD ?_|refine pC (by (simp only [hX];omega)) ?_|refine zS ?_|refine zR ?_|refine zO ?_|refine zB ?_|refine zX ?_|refine zT ?_|refine skipI rfl ?_)
  refine endR rfl ?_
  repeat' (first|exact trivial|exact rfl|refine ⟨rfl,?_⟩|refine And.intro ?_ ?_)
  all_goals
   unfold refFirstF
   rw [if_pos c0']
 ·have c0':(decide (t < 0)||decide (60≤t)||decide (n < 1)||decide (1000000 < n))=false:=c0
  simp only [Bool.or_eq_false_iff,decide_eq_false_iff_not] at c0'
  obtain ⟨⟨⟨h1,h2⟩,h3⟩,h4⟩:=c0'
  have e0:refFirstF xs t f n=if 1000000 - n < foldR t n xs (max f 0) then (0,false) else (foldR t n xs (max f 0),true):=by
   unfold refFirstF
   rw [if_neg (by omega)]
  repeat' (first|refine zN ?_|refine zE ?_|refine zP ?_|refine pD ?_|refine pC (by (simp only [hX];omega)) ?_|refine zS ?_|refine zR ?_|refine zO ?_|refine zB ?_|refine zX ?_|refine zT ?_|refine skipI rfl ?_)
  have hmx:0≤max f 0:=Int.le_max_right _ _
  generalize max f 0=f0 at *
  refine loopI (σ:=Nat) (fun i=>[(10,.int .i64 (foldR t n (xs.take i) f0)),(11,.int .i64 i)]) (fun i=>[]) (fun i=>i≤xs.length) (fun i=>xs.length - i) 0 rfl (fun _=>rfl) rfl ?_ ?_ ?_
  ·exact Nat.zero_le _
  ·repeat' (first|exact trivial|exact rfl|refine ⟨rfl,?_⟩|refine And.intro ?_ ?_)
  ·intro i hi
   have hle:=foldR_le t n (xs.take i) f0
   repeat' (first|refine zN ?_|refine zE ?_|refine zP ?_|refine pD ?_|refine pC (by (simp only [hX];omega)) ?_|refine zS ?_|refine zR ?_|refine zO ?_|refine zB ?_|refine zX ?_|refine zT ?_|refine skipI rfl ?_)
   refine condI rfl (fun c1=>?_) (fun c1=>?_)
   ·have c1:(i:Int) < (List.length (α:=Bk.El) xs:Nat):=of_decide_eq_true c1
    have hin:((i:Int)).toNat=i:=by omega
    have hil:i < xs.length:=by omega
    repeat' (first|refine zN ?_|refine zE ?_|refine zP ?_|refine pD ?_|refine pC (by first|(simp only [hX];omega)|(simp only [decide_eq_true_eq,Bool.and_eq_true] at *;omega)) ?_|refine zS ?_|refine zR ?_|refine zO ?_|refine zB ?_|refine zX ?_|refine zT ?_|refine skipI rfl ?_)
    refine condI rfl (fun c2=>?_) (fun c2=>?_)
    ·have c2':(decide ((getI xs Bk.dflt ((i:Int)).toNat).1=t)&&decide (foldR t n (xs.take i) f0≤1000000 - n)&&decide ((getI xs Bk.dflt ((i:Int)).toNat).2.1 < foldR t n (xs.take i) f0+n)&&decide (foldR t n (xs.take i) f0 < (getI xs Bk.dflt ((i:Int)).toNat).2.2.1))=true:=c2
     simp only [hin,Bool.and_eq_true,decide_eq_true_eq,and_assoc] at c2'
     repeat' (first|refine zN ?_|refine zE ?_|refine zP ?_|refine pD ?_|refine pC (by (simp only [hX];omega)) ?_|refine zS ?_|refine zR ?_|refine zO ?_|refine zB ?_|refine zX ?_|refine zT ?_|refine skipI rfl ?_)
     refine roundI (i+1) rfl ?_ ?_ ?_
     ·show i+1≤xs.length
      omega
     ·show xs.length - (i+1) < xs.length - i
      omega
     ·repeat' (first|exact trivial|with_reducible exact rfl|refine And.intro ?_ ?_)
      ·rw [foldR_take hil]
       unfold stepR
       rw [if_pos c2',hin]
       rfl
      ·rfl
    ·have c2':(decide ((getI xs Bk.dflt ((i:Int)).toNat).1=t)&&decide (foldR t n (xs.take i) f0≤1000000 - n)&&decide ((getI xs Bk.dflt ((i:Int)).toNat).2.1 < foldR t n (xs.take i) f0+n)&&decide (foldR t n (xs.take i) f0 < (getI xs Bk.dflt ((i:Int)).toNat).2.2.1))=false:=c2
     rw [← Bool.not_eq_true] at c2'
     simp only [hin,Bool.and_eq_true,decide_eq_true_eq,and_assoc] at c2'
     repeat' (first|refine zN ?_|refine zE ?_|refine zP ?_|refine pD ?_|refine pC (by (simp only [hX];omega)) ?_|refine zS ?_|refine zR ?_|refine zO ?_|refine zB ?_|refine zX ?_|refine zT ?_|refine skipI rfl ?_)
     refine roundI (i+1) rfl ?_ ?_ ?_
     ·show i+1≤xs.length
      omega
     ·show xs.length - (i+1) < xs.length - i
      omega
     ·repeat' (first|exact trivial|with_reducible exact rfl|refine And.intro ?_ ?_)
      ·rw [foldR_take hil]
       unfold stepR
       rw [if_neg c2']
      ·rfl
   ·have c1:¬ (i:Int) < (List.length (α:=Bk.El) xs:Nat):=of_decide_eq_false c1
    rw [List.take_of_length_le (i:=i) (by omega)] at hle ⊢
    repeat' (first|refine zN ?_|refine zE ?_|refine zP ?_|refine pD ?_|refine pC (by (simp only [hX];omega)) ?_|refine zS ?_|refine zR ?_|refine zO ?_|refine zB ?_|refine zX ?_|refine zT ?_|refine skipI rfl ?_)
    refine condI rfl (fun c2=>?_) (fun c2=>?_)
    ·simp only [decide_eq_true_eq] at c2
     repeat' (first|refine zN ?_|refine zE ?_|refine zP ?_|refine pD ?_|refine pC (by (simp only [hX];omega)) ?_|refine zS ?_|refine zR ?_|refine zO ?_|refine zB ?_|refine zX ?_|refine zT ?_|refine skipI rfl ?_)
     refine endR rfl ?_
     repeat' (first|exact trivial|exact rfl|refine ⟨rfl,?_⟩|refine And.intro ?_ ?_)
     all_goals rw [e0,if_pos c2]
    ·simp only [decide_eq_false_iff_not] at c2
     repeat' (first|refine zN ?_|refine zE ?_|refine zP ?_|refine pD ?_|refine pC (by (simp only [hX];omega)) ?_|refine zS ?_|refine zR ?_|refine zO ?_|refine zB ?_|refine zX ?_|refine zT ?_|refine skipI rfl ?_)
     refine endR rfl ?_
     repeat' (first|exact trivial|exact rfl|refine ⟨rfl,?_⟩|refine And.intro ?_ ?_)
     all_goals rw [e0,if_neg c2]
def aheadB (b c:Bk.El):Bool:=decide (c.1 < b.1)||(decide (c.1=b.1)&&decide (c.2.1 < b.2.1))
def posR (xs:List Bk.El) (b:Bk.El):Nat:=(xs.takeWhile (aheadB b)).length
def freeR (xs:List Bk.El) (b:Bk.El):Bool:=validB b.1 b.2.1 b.2.2.1 b.2.2.2&&!xs.any (meetR b.1 b.2.1 b.2.2.1)
def bookR (xs:List Bk.El) (b:Bk.El):List Bk.El:=if freeR xs b=true then xs.take (posR xs b)++([b]++xs.drop (posR xs b)) else xs
def errR (xs:List Bk.El) (b:Bk.El):Int:=if freeR xs b=true then 0 else 70
def refBookS:Spec:=⟨true,fun args rows=>match args,rows with
 | [.ptr 0 0,.agg [.int .i64 t,.int .i64 s,.int .i64 e,.int .i64 o]],[.box [.own 1],.seq (.pair (.int .i64) (.pair (.int .i64) (.pair (.int .i64) (.int .i64)))) xs] =>
   some ⟨List.length (α:=Bk.El) xs≤100000,.int .i64 (errR xs (t,s,e,o)),[.box [.own 2],.dead,.seq Bk (bookR xs (t,s,e,o))],true⟩
 | _,_=>none⟩
theorem ahead_takeWhile {b:Bk.El} {xs:List Bk.El} {k:Nat} (hk:k≤xs.length) (h:∀ j,j < k→aheadB b (getI xs Bk.dflt j)=true) (he:k < xs.length→aheadB b (getI xs Bk.dflt k)=false):posR xs b=k:=by
 unfold posR
 induction xs generalizing k with
 | nil=>simp at hk;subst hk;rfl
 | cons x xs ih =>
   cases k with
   | zero =>
     have:aheadB b x=false:=he (by simp)
     rw [List.takeWhile_cons_of_neg (by rw [this];simp)];rfl
   | succ k =>
     have h0:aheadB b x=true:=h 0 (by omega)
     rw [List.takeWhile_cons_of_pos h0,List.length_cons,ih (k:=k) (by simpa using hk) (fun j hj=>h (j+1) (by omega)) (fun hk'=>he (by simpa using hk'))]
def sigRBook:List (Nat × Spec):=[(60,validS),(61,refBusyS)]
theorem sigRBookOk:SigOk Tryz.prog (look sigRBook):=sigCons (sigCons sigNil Tryz.func61 (by kernel_rfl) (c:=body Tryz.f61) rfl refBusyOk)
 Tryz.func60 (by kernel_rfl) (c:=body Tryz.f60) rfl validRefOk
theorem refBookOk:SpecSound Tryz.prog 31 refBookS:=by
 refine soundR (envOf sigRBookOk) Tryz.func31 (c:=body Tryz.f31) rfl (by kernel_rfl) rfl ?_
 intro args rows out hf hpre
 split at hf <;> try (cases hf;done)
 rename_i t s e o xs
 cases hf
 refine ⟨Nat.le_of_ble_eq_true rfl,initI (args:=[.ptr 0 0,.agg [.int .i64 t,.int .i64 s,.int .i64 e,.int .i64 o]]) (rows:=[.box [.own 1],.seq Bk xs]) rfl ?_⟩
 have hxs:List.length (α:=Bk.El) xs≤100000:=hpre
 have hxs':List.length (α:=Bk.El) xs≤1000000:=by omega
 repeat' (first|refine zN ?_|refine zE ?_|refine zP ?_|refine pD ?_|refine pC (by first|exact hxs'|exact fun _=>hxs') ?_|refine zS ?_|refine zR ?_|refine zO ?_|refine zB ?_|refine zX ?_|refine zT ?_|refine skipI rfl ?_)
 refine condI rfl (fun c1=>?_) (fun c1=>?_)
 ·have c1':(!validB t s e o||List.any (α:=Bk.El) xs (meetR t s e))=true:=c1
  have hno:freeR xs (t,s,e,o)=false:=by
   unfold freeR
   show (validB t s e o&&!List.any (α:=Bk.El) xs (meetR t s e))=false
   revert c1'
   cases validB t s e o <;> cases List.any (α:=Bk.El) xs (meetR t s e) <;> simp
  refine renameI 100001 3000 rfl ?_
  repeat' (first|refine zN ?_|refine zE ?_|refine zP ?_|refine pD ?_|refine zS ?_|refine zR ?_|refine zO ?_|refine zB ?_|refine zX ?_|refine zT ?_|refine skipI rfl ?_)
  refine endR rfl ?_
  repeat' (first|exact trivial|exact rfl|refine ⟨rfl,?_⟩|refine And.intro ?_ ?_)
  ·unfold errR
   rw [hno];rfl
  ·unfold bookR
   rw [hno];rfl
 ·have c1':(!validB t s e o||List.any (α:=Bk.El) xs (meetR t s e))=false:=c1
  have hyes:freeR xs (t,s,e,o)=true:=by
   unfold freeR
   show (validB t s e o&&!List.any (α:=Bk.El) xs (meetR t s e))=true
   revert c1'
   cases validB t s e o <;> cases List.any (α:=Bk.El) xs (meetR t s e) <;> simp
  repeat' (first|refine zN ?_|refine zE ?_|refine zP ?_|refine pD ?_|refine zS ?_|refine zR ?_|refine zO ?_|refine zB ?_|refine zX ?_|refine zT ?_|refine skipI rfl ?_)
  refine loopI (σ:=Nat) (fun k=>[(5,.int .i64 k)]) (fun k=>[]) (fun k=>k≤List.length (α:=Bk.El) xs∧∀ j,j < k→aheadB (t,s,e,o) (getI xs Bk.dflt j)=true) (fun k=>List.length (α:=Bk.El) xs - k) 0 rfl (fun _=>rfl) rfl ?_ ?_ ?_
  ·exact ⟨Nat.zero_le _,fun j hj=>by omega⟩
  ·repeat' (first|exact trivial|exact rfl|refine ⟨rfl,?_⟩|refine And.intro ?_ ?_)
  ·rintro k ⟨hk,hA⟩
   have hkn:((k:Int)).toNat=k:=by omega
   repeat' (first|refine zN ?_|refine zE ?_|refine zP ?_|refine pD ?_|refine pC (by (simp only [decide_eq_true_eq] at *;omega)) ?_|refine zS ?_|refine zR ?_|refine zO ?_|refine zB ?_|refine zX ?_|refine zT ?_|refine skipI rfl ?_)
   refine condI rfl (fun c2=>?_) (fun c2=>?_)
   ·have c2':(decide ((k:Int) < (List.length (α:=Bk.El) xs:Nat))&&aheadB (t,s,e,o) (getI xs Bk.dflt ((k:Int)).toNat))=true:=c2
    rw [Bool.and_eq_true,decide_eq_true_eq,hkn] at c2'
    obtain ⟨c2',c3⟩:=c2'
    repeat' (first|refine zN ?_|refine zE ?_|refine zP ?_|refine pD ?_|refine zS ?_|refine zR ?_|refine zO ?_|refine zB ?_|refine zX ?_|refine zT ?_|refine skipI rfl ?_)
    refine roundI (k+1) rfl ?_ ?_ ?_
    ·refine ⟨by omega,fun j hj=>?_⟩
     rcases Nat.lt_or_ge j k with h|h
     ·exact hA j h
     ·rw [show j=k by omega];exact c3
    ·show List.length (α:=Bk.El) xs - (k+1) < List.length (α:=Bk.El) xs - k
     omega
    ·repeat' (first|exact trivial|exact rfl|refine ⟨rfl,?_⟩|refine And.intro ?_ ?_)
   ·have c2':(decide ((k:Int) < (List.length (α:=Bk.El) xs:Nat))&&aheadB (t,s,e,o) (getI xs Bk.dflt ((k:Int)).toNat))=false:=c2
    rw [← Bool.not_eq_true,Bool.and_eq_true,decide_eq_true_eq,hkn] at c2'
    have hpos:posR xs (t,s,e,o)=k:=ahead_takeWhile hk hA fun h=>by
     rw [← Bool.not_eq_true]
     exact fun h2=>c2' ⟨by omega,h2⟩
    repeat' (first|with_reducible refine cE ?_|with_reducible refine cN ?_|refine zX ?_|with_reducible refine lE ?_|refine zE ?_|refine zS ?_|fail)
    refine freezeI 100001 rfl ?_
    have hd:(List.drop k xs).length≤List.length (α:=Bk.El) xs:=by rw [List.length_drop];omega
    repeat' (first|refine zN ?_|refine zE ?_|refine zP ?_|refine pD ?_|refine pC (by first|(simp only [List.length_take,List.length_drop,List.length_append,List.length_cons,List.length_nil,hkn,List.drop_zero];omega)) ?_|refine zS ?_|refine zR ?_|refine zO ?_|refine zB ?_|refine zX ?_|refine zT ?_|refine skipI rfl ?_)
    refine endR rfl ?_
    repeat' (first|exact trivial|exact rfl|refine ⟨rfl,?_⟩|refine And.intro ?_ ?_)
    ·unfold errR
     rw [hyes];rfl
    ·unfold bookR
     rw [if_pos hyes,hpos]
     simp [hkn]
end Go.AM.YtmohhhbgcehnpaaGreat
end

section
set_option linter.all false
namespace Go.AM.YtmohhhbgcehnpaaGreat
open Go.Proofs
set_option maxRecDepth 100000
set_option maxHeartbeats 4000000
theorem idxF_cases {α:Type} {p:α→Bool} {d:α}:∀ {xs:List α},(idxF p xs=-1∧∀ x∈xs,p x=false)∨(∃ i:Nat,idxF p xs=i∧i < xs.length∧(∀ x∈xs.take i,p x=false)∧p (getI xs d i)=true)
 | []=>.inl ⟨rfl,by simp⟩
 | x::xs=>by
   by_cases hx:p x=true
   ·exact .inr ⟨0,by simp [idxF,hx],by simp,by simp,hx⟩
   ·have hx:p x=false:=by simpa using hx
    rcases idxF_cases (p:=p) (d:=d) (xs:=xs) with ⟨h1,h2⟩|⟨i,h1,h2,h3,h4⟩
    ·refine .inl ⟨by simp [idxF,hx,h1],fun y hy=>?_⟩
     rcases List.mem_cons.1 hy with rfl|hy
     ·exact hx
     ·exact h2 y hy
    ·refine .inr ⟨i+1,?_,by simp;omega,fun y hy=>?_,h4⟩
     ·simp only [idxF,hx,h1]
      simp
      omega
     ·rw [List.take_succ_cons] at hy
      rcases List.mem_cons.1 hy with rfl|hy
      ·exact hx
      ·exact h3 y hy
def delF (xs:List Bk.El) (o:Int):List Bk.El:=xs.filter fun b=>!ownsB o b
theorem take_set_succ {α:Type} {d:α} {L:List α} {i:Nat} {v:α} (h:i < L.length):(L.set i v).take (i+1)=L.take i++[v]:=by
 rw [List.take_succ_eq_append_getElem (by simpa using h),List.take_set_of_le (by omega)]
 simp
def sigDel:List (Nat × Spec):=[(123,idxS),(92,free1S)]
theorem sigDelOk:SigOk Tryz.prog (look sigDel):=sigCons (sigCons sigNil Tryz.func92 (by kernel_rfl) (c:=body Tryz.f92) rfl free1Ok)
 Tryz.func123 (by kernel_rfl) (c:=body Tryz.f123) rfl idxOk
def delS:Spec:=⟨true,fun args rows=>match args,rows with
 | [.own 0,.fn 92 [] [.ptr 1 0]],[.seq (.pair (.int .i64) (.pair (.int .i64) (.pair (.int .i64) (.int .i64)))) xs,.box [.int .i64 o]] =>
   some ⟨True,.own 2,[.dead,.box [.int .i64 o],.seq Bk (delF xs o)],true⟩
 | _,_=>none⟩
theorem delOk:SpecSound Tryz.prog 91 delS:=by
 refine soundR (envOf sigDelOk) Tryz.func91 (c:=body Tryz.f91) rfl (by kernel_rfl) rfl ?_
 intro args rows out hf hpre
 split at hf <;> try (cases hf;done)
 rename_i xs o
 cases hf
 refine ⟨Nat.le_of_ble_eq_true rfl,initI (args:=[.own 0,.fn 92 [] [.ptr 1 0]]) (rows:=[.seq Bk xs,.box [.int .i64 o]]) rfl ?_⟩
 refine factRow (r:=100000) (ty:=Bk) rfl (fun hmx _=>?_)
 have hmx:xs.length * 32≤140737488355328:=hmx
 repeat' (first|refine zN ?_|refine zE ?_|refine zP ?_|refine pD ?_|refine zS ?_|refine zR ?_|refine zO ?_|refine zB ?_|refine zX ?_|refine zT ?_|refine skipI rfl ?_)
 refine condI rfl (fun c1=>?_) (fun c1=>?_)
 ·simp only [decide_eq_true_eq] at c1
  rcases idxF_cases (p:=ownsB o) (d:=Bk.dflt) (xs:=xs) with ⟨_,h2⟩|⟨i,h1,_⟩
  ·refine renameI 100000 3000 rfl ?_
   repeat' (first|refine zN ?_|refine zE ?_|refine zP ?_|refine pD ?_|refine zS ?_|refine zR ?_|refine zO ?_|refine zB ?_|refine zX ?_|refine zT ?_|refine skipI rfl ?_)
   refine endR rfl ?_
   repeat' (first|exact trivial|exact rfl|refine ⟨rfl,?_⟩|refine And.intro ?_ ?_)
   unfold delF
   exact List.filter_eq_self.2 fun x hx=>by show (!ownsB o x)=true;rw [h2 x hx];rfl
  ·omega
 ·simp only [decide_eq_false_iff_not] at c1
  rcases idxF_cases (p:=ownsB o) (d:=Bk.dflt) (xs:=xs) with ⟨h1,_⟩|⟨i,h1,h2,h3,h4⟩
  ·exact absurd h1 c1
  ·rw [h1]
   repeat' (first|refine zN ?_|refine zE ?_|refine zP ?_|refine pD ?_|refine zS ?_|refine zR ?_|refine zO ?_|refine zB ?_|refine zX ?_|refine zT ?_|refine skipI rfl ?_)
   refine loopI (σ:=Nat × Nat × List Bk.El) (fun p=>[(5,.int .i64 p.1),(6,.int .i64 p.2.1)]) (fun p=>[(100000,.seq Bk p.2.2)]) (fun p=>p.1 < p.2.1∧p.2.1≤xs.length∧p.2.2.length=xs.length∧p.2.2.take p.1=(xs.take p.2.1).filter (fun b=>!ownsB o b)∧p.2.2.drop p.2.1=xs.drop p.2.1) (fun p=>xs.length - p.2.1) (i,i+1,xs) rfl (fun _=>rfl) rfl ?_ ?_ ?_
   ·refine ⟨by show i < i+1;omega,by show i+1≤xs.length;omega,rfl,?_,rfl⟩
    show xs.take i=(xs.take (i+1)).filter (fun b=>!ownsB o b)
    rw [take_succ_getI (d:=Bk.dflt) h2,List.filter_append,List.filter_eq_self.2 fun x hx=>by rw [h3 x hx];rfl]
    simp [h4]
   ·repeat' (first|exact trivial|exact rfl|refine ⟨rfl,?_⟩|refine And.intro ?_ ?_)
   ·rintro ⟨k,j,L⟩ ⟨q1,q2,q3,q4,q5⟩
    simp only at q1 q2 q3 q4 q5
    repeat' (first|refine zN ?_|refine zE ?_|refine zP ?_|refine pD ?_|refine zS ?_|refine zR ?_|refine zO ?_|refine zB ?_|refine zX ?_|refine zT ?_|refine skipI rfl ?_)
    refine condI rfl (fun c2=>?_) (fun c2=>?_)
    ·simp only [decide_eq_true_eq] at c2
     have hj:j < xs.length:=by omega
     have hjj:(j:Int).toNat=j:=by omega
     have hget:getI L Bk.dflt j=getI xs Bk.dflt j:=by
      have:=congrArg (fun l=>l[0]?) q5
      simp only [List.getElem?_drop,Nat.add_zero] at this
      simp [getI,List.getD,this]
     have hd1:L.drop (j+1)=xs.drop (j+1):=by
      have:=congrArg (List.drop 1) q5
      simpa [List.drop_drop] using this
     have hown:ownsB o (getI L Bk.dflt j)=ownsB o (getI xs Bk.dflt j):=by rw [hget]
     repeat' (first|refine zN ?_|refine zE ?_|refine zP ?_|refine pD ?_|refine zS ?_|refine zR ?_|refine zO ?_|refine zB ?_|refine zX ?_|refine zT ?_|refine skipI rfl ?_)
     refine condI rfl (fun c3=>?_) (fun c3=>?_)
     ·repeat' (first|refine zN ?_|refine zE ?_|refine zP ?_|refine pD ?_|refine zS ?_|refine zR ?_|refine zO ?_|refine zB ?_|refine zX ?_|refine zT ?_|refine skipI rfl ?_)
      refine roundI (k+1,j+1,L.set k (getI xs Bk.dflt j)) rfl ?_ ?_ ?_
      ·refine ⟨by show k+1 < j+1;omega,by show j+1≤xs.length;omega,by show (L.set k _).length=_;simpa using q3,?_,?_⟩
       ·show (L.set k (getI xs Bk.dflt j)).take (k+1)=(xs.take (j+1)).filter _
        rw [take_set_succ (d:=Bk.dflt) (by omega),q4,take_succ_getI (d:=Bk.dflt) hj,List.filter_append]
        have:ownsB o (getI xs Bk.dflt j)=false:=by
         rw [← hown]
         simpa [ownsB,hjj] using c3
        simp [this]
       ·show (L.set k (getI xs Bk.dflt j)).drop (j+1)=xs.drop (j+1)
        rw [List.drop_set_of_lt (by omega),hd1]
      ·show xs.length - (j+1) < xs.length - j
       omega
      ·repeat' (first|exact trivial|exact rfl|refine ⟨rfl,?_⟩|refine And.intro ?_ ?_)
       show L.set k (getI xs Bk.dflt j)=L.set (k:Int).toNat (getI L Bk.dflt (j:Int).toNat)
       rw [show ((k:Int)).toNat=k by omega,hjj,hget]
     ·repeat' (first|refine zN ?_|refine zE ?_|refine zP ?_|refine pD ?_|refine zS ?_|refine zR ?_|refine zO ?_|refine zB ?_|refine zX ?_|refine zT ?_|refine skipI rfl ?_)
      refine roundI (k,j+1,L) rfl ?_ ?_ ?_
      ·refine ⟨by show k < j+1;omega,by show j+1≤xs.length;omega,q3,?_,hd1⟩
       show L.take k=(xs.take (j+1)).filter _
       rw [q4,take_succ_getI (d:=Bk.dflt) hj,List.filter_append]
       have:ownsB o (getI xs Bk.dflt j)=true:=by
        rw [← hown]
        simpa [ownsB,hjj] using c3
       simp [this]
      ·show xs.length - (j+1) < xs.length - j
       omega
      ·repeat' (first|exact trivial|exact rfl|refine ⟨rfl,?_⟩|refine And.intro ?_ ?_)
    ·simp only [decide_eq_false_iff_not] at c2
     have hj:j=xs.length:=by omega
     subst hj
     repeat' (first|refine zN ?_|refine zE ?_|refine zP ?_|refine pD ?_|refine pC (by (simp;omega)) ?_|refine zS ?_|refine zR ?_|refine zO ?_|refine zB ?_|refine zX ?_|refine zT ?_|refine skipI rfl ?_)
     refine endR rfl ?_
     repeat' (first|exact trivial|exact rfl|refine ⟨rfl,?_⟩|refine And.intro ?_ ?_)
     have hk:(L.take k).length=k:=by rw [List.length_take];omega
     dsimp only
     rw [show ((k:Int)).toNat=k by omega,List.take_left' hk,q4,List.take_length]
     rfl
def sigFree:List (Nat × Spec):=[(27,lenS),(91,delS)]
theorem sigFreeOk:SigOk Tryz.prog (look sigFree):=sigCons (sigCons sigNil Tryz.func91 (by kernel_rfl) (c:=body Tryz.f91) rfl delOk)
 Tryz.func27 (by kernel_rfl) (c:=body Tryz.f27) rfl lenOk
def freedF (xss:List (List Bk.El)) (o:Int):List (List Bk.El):=xss.map fun xs=>delF xs o
theorem delF_len (xs:List Bk.El) (o:Int):(delF xs o).length≤xs.length:=List.length_filter_le _ _
theorem freed_ok {xss:List (List Bk.El)} (h:Cal xss) (o:Int):Cal (freedF xss o):=⟨by unfold freedF;rw [List.length_map];exact h.len,fun xs hx=>by
 unfold freedF at hx
 obtain ⟨ys,hy,rfl⟩:=List.mem_map.1 hx
 exact Nat.le_trans (delF_len ys o) (h.small ys hy)⟩
def freeS:Spec:=⟨true,fun args rows=>match args,rows with
 | [.nilptr,.int .i64 o],[]=>some ⟨True,.int .i64 0,[],true⟩
 | [.ptr 0 0,.int .i64 o],[.arr (.pair (.int .i64) (.pair (.int .i64) (.pair (.int .i64) (.int .i64)))) xss none]=>some ⟨Cal xss,.int .i64 (lenF xss - lenF (freedF xss o)),[.arr Bk (freedF xss o) none],true⟩
 | _,_=>none⟩
theorem map_take_set {f:List Bk.El→List Bk.El} {xss:List (List Bk.El)} {i:Nat} (h:i < xss.length):((xss.take i).map f++xss.drop i).set i (f (getI xss [] i))=(xss.take (i+1)).map f++xss.drop (i+1):=by
 have h1:((xss.take i).map f).length=i:=by simp;omega
 rw [take_succ_getI (d:=[]) h,List.map_append,List.set_append_right _ _ (by omega),h1,Nat.sub_self,List.drop_eq_getElem_cons h,List.set_cons_zero]
 simp only [List.map_cons,List.map_nil,List.append_assoc,List.singleton_append]
theorem map_take_get {f:List Bk.El→List Bk.El} {xss:List (List Bk.El)} {i:Nat} (h:i < xss.length):getI ((xss.take i).map f++xss.drop i) [] i=getI xss [] i:=by
 have h1:((xss.take i).map f).length=i:=by simp;omega
 unfold getI
 rw [List.getD_eq_getElem?_getD,List.getD_eq_getElem?_getD,List.getElem?_append_right (by omega),h1,Nat.sub_self,List.getElem?_drop,Nat.add_zero]
theorem freeOk:SpecSound Tryz.prog 54 freeS:=by
 refine soundR (envOf sigFreeOk) Tryz.func54 (c:=body Tryz.f54) rfl (by kernel_rfl) rfl ?_
 intro args rows out hf hpre
 split at hf <;> try (cases hf;done)
 ·rename_i o
  cases hf
  refine ⟨Nat.le_of_ble_eq_true rfl,initI rfl ?_⟩
  repeat' (first|refine zN ?_|refine zE ?_|refine zP ?_|refine pD ?_|refine zS ?_|refine zR ?_|refine zO ?_|refine zB ?_|refine zX ?_|refine zT ?_|refine skipI rfl ?_)
  refine condT rfl ?_
  repeat' (first|refine zN ?_|refine zE ?_|refine zP ?_|refine pD ?_|refine zS ?_|refine zR ?_|refine zO ?_|refine zB ?_|refine zX ?_|refine zT ?_|refine skipI rfl ?_)
  refine endR rfl ?_
  repeat' (first|exact trivial|exact rfl|refine ⟨rfl,?_⟩|refine And.intro ?_ ?_)
 ·rename_i o xss
  cases hf
  change Cal xss at hpre
  refine ⟨Nat.le_of_ble_eq_true rfl,initI (args:=[.ptr 0 0,.int .i64 o]) (rows:=[.arr Bk xss none]) rfl ?_⟩
  have hl:=hpre.len
  have hb:=lenF_small hpre.small
  repeat' (first|refine zN ?_|refine zE ?_|refine zP ?_|refine pD ?_|refine zS ?_|refine zR ?_|refine zO ?_|refine zB ?_|refine zX ?_|refine zT ?_|refine skipI rfl ?_)
  refine condF rfl ?_
  repeat' (first|refine zN ?_|refine zE ?_|refine zP ?_|refine pD ?_|refine pC (by exact hpre) ?_|refine zS ?_|refine zR ?_|refine zO ?_|refine zB ?_|refine zX ?_|refine zT ?_|refine skipI rfl ?_)
  refine loopI (σ:=Nat) (fun i=>[(11,.int .i64 i)]) (fun i=>[(100000,.arr Bk ((xss.take i).map (fun xs=>delF xs o)++xss.drop i) none)]) (fun i=>i≤60) (fun i=>60 - i) 0 rfl (fun _=>rfl) rfl ?_ ?_ ?_
  ·exact Nat.zero_le _
  ·repeat' (first|exact trivial|exact rfl|refine ⟨rfl,?_⟩|refine And.intro ?_ ?_)
  ·intro i hi
   repeat' (first|refine zN ?_|refine zE ?_|refine zP ?_|refine pD ?_|refine zS ?_|refine zR ?_|refine zO ?_|refine zB ?_|refine zX ?_|refine zT ?_|refine skipI rfl ?_)
   refine condI rfl (fun c1=>?_) (fun c1=>?_)
   ·simp only [decide_eq_true_eq] at c1
    have hi2:i < xss.length:=by omega
    have h5:0+0+(i:Int).toNat * 1=i:=by omega
    have hlen:((xss.take i).map (fun xs=>delF xs o)++xss.drop i).length=60:=by simp;omega
    repeat' (first|refine zN ?_|refine zE ?_|refine zP ?_|refine pD ?_|refine pC (by first|(rw [h5,hlen];omega)|exact rfl) ?_|refine zS ?_|refine zR ?_|refine zO ?_|refine zB ?_|refine zX ?_|refine zT ?_|refine skipI rfl ?_)
    refine roundI (i+1) rfl ?_ ?_ ?_
    ·show i+1≤60
     omega
    ·show 60 - (i+1) < 60 - i
     omega
    ·repeat' (first|exact trivial|exact rfl|refine ⟨rfl,?_⟩|refine And.intro ?_ ?_)
     rw [h5,map_take_get hi2]
     exact (map_take_set hi2).symm
   ·simp only [decide_eq_false_iff_not] at c1
    have hi60:i=xss.length:=by omega
    subst hi60
    have hfr:(xss.take xss.length).map (fun xs=>delF xs o)++xss.drop xss.length=freedF xss o:=by
     rw [List.take_length,List.drop_length,List.append_nil];rfl
    rw [hfr]
    have hb2:=lenF_small (freed_ok hpre o).small
    have hl2:=(freed_ok hpre o).len
    repeat' (first|refine zN ?_|refine zE ?_|refine zP ?_|refine pD ?_|refine pC (by exact freed_ok hpre o) ?_|refine zS ?_|refine zR ?_|refine zO ?_|refine zB ?_|refine zX ?_|refine zT ?_|refine skipI rfl ?_)
    refine endR rfl ?_
    repeat' (first|exact trivial|exact rfl|refine ⟨rfl,?_⟩|refine And.intro ?_ ?_)
theorem take_drop_set {xss yss:List (List Bk.El)} {i:Nat} (h:i < xss.length) (k:i < yss.length):(xss.take i++yss.drop i).set i (getI xss [] i)=xss.take (i+1)++yss.drop (i+1):=by
 have h1:(xss.take i).length=i:=by rw [List.length_take];omega
 rw [take_succ_getI (d:=[]) h,List.set_append_right _ _ (by omega),h1,Nat.sub_self,List.drop_eq_getElem_cons k,List.set_cons_zero]
 simp only [List.append_assoc,List.singleton_append]
def sigCl:List (Nat × Spec):=[(23,newS),(72,cloneS)]
theorem sigClOk:SigOk Tryz.prog (look sigCl):=sigCons (sigCons sigNil Tryz.func72 (by kernel_rfl) (c:=body Tryz.f72) rfl cloneOk)
 Tryz.func23 (by kernel_rfl) (c:=body Tryz.f23) rfl newOk
def calCloneS:Spec:=plain fun
 | [.nilptr]=>outV True .nilptr
 | [.ext (.cref (.pair (.int .i64) (.pair (.int .i64) (.pair (.int .i64) (.int .i64)))) xss 0)]=>some ⟨Cal xss,.ptr 0 0,[.arr Bk xss none],false⟩
 | _=>none
theorem calCloneOk:SpecSound Tryz.prog 53 calCloneS:=by
 refine soundP (envOf sigClOk) Tryz.func53 (c:=body Tryz.f53) rfl (by kernel_rfl) rfl ?_
 intro args out hf hpre
 split at hf <;> try (cases hf;done)
 ·cases hf
  refine ⟨Nat.le_of_ble_eq_true rfl,initI rfl ?_⟩
  repeat' (first|refine zN ?_|refine zE ?_|refine zP ?_|refine pD ?_|refine zS ?_|refine zR ?_|refine zO ?_|refine zB ?_|refine zX ?_|refine zT ?_|refine skipI rfl ?_)
  refine condT rfl ?_
  repeat' (first|refine zN ?_|refine zE ?_|refine zP ?_|refine pD ?_|refine zS ?_|refine zR ?_|refine zO ?_|refine zB ?_|refine zX ?_|refine zT ?_|refine skipI rfl ?_)
  refine endR rfl ?_
  repeat' (first|exact trivial|exact rfl|refine ⟨rfl,?_⟩|refine And.intro ?_ ?_)
 ·rename_i xss
  cases hf
  change Cal xss at hpre
  refine ⟨Nat.le_of_ble_eq_true rfl,initI (args:=[.ext (.cref Bk xss 0)]) rfl ?_⟩
  have hl:=hpre.len
  repeat' (first|refine zN ?_|refine zE ?_|refine zP ?_|refine pD ?_|refine zS ?_|refine zR ?_|refine zO ?_|refine zB ?_|refine zX ?_|refine zT ?_|refine skipI rfl ?_)
  refine condF rfl ?_
  repeat' (first|refine zN ?_|refine zE ?_|refine zP ?_|refine pD ?_|refine pC (by exact hl) ?_|refine zS ?_|refine zR ?_|refine zO ?_|refine zB ?_|refine zX ?_|refine zT ?_|refine skipI rfl ?_)
  refine loopI (σ:=Nat) (fun i=>[(3,.ptr 3000 0),(13,.int .i64 i)]) (fun i=>[(3000,.arr Bk (xss.take i++noCal.drop i) none)]) (fun i=>i≤60) (fun i=>60 - i) 0 rfl (fun _=>rfl) rfl ?_ ?_ ?_
  ·exact Nat.zero_le _
  ·repeat' (first|exact trivial|exact rfl|refine ⟨rfl,?_⟩|refine And.intro ?_ ?_)
  ·intro i hi
   repeat' (first|refine zN ?_|refine zE ?_|refine zP ?_|refine pD ?_|refine zS ?_|refine zR ?_|refine zO ?_|refine zB ?_|refine zX ?_|refine zT ?_|refine skipI rfl ?_)
   refine condI rfl (fun c1=>?_) (fun c1=>?_)
   ·simp only [decide_eq_true_eq] at c1
    have hi2:i < xss.length:=by omega
    have h5:0+0+(i:Int).toNat * 1=i:=by omega
    have h6:(i:Int).toNat=i:=by omega
    have h4:=(hpre.get (i:=i) (by omega)).2
    have hlen:(xss.take i++noCal.drop i).length=60:=by simp [noCal];omega
    repeat' (first|refine zN ?_|refine zE ?_|refine zP ?_|refine pD ?_|refine pC (by first|(rw [h5,hlen];omega)|exact rfl|(rw [hl];omega)|(simp only [h6];omega)) ?_|refine zS ?_|refine zR ?_|refine zO ?_|refine zB ?_|refine zX ?_|refine zT ?_|refine skipI rfl ?_)
    refine roundI (i+1) rfl ?_ ?_ ?_
    ·show i+1≤60
     omega
    ·show 60 - (i+1) < 60 - i
     omega
    ·repeat' (first|exact trivial|exact rfl|refine ⟨rfl,?_⟩|refine And.intro ?_ ?_)
     rw [h5,h6]
     exact (take_drop_set hi2 (by simp [noCal];omega)).symm
   ·simp only [decide_eq_false_iff_not] at c1
    have hi60:i=xss.length:=by omega
    subst hi60
    repeat' (first|refine zN ?_|refine zE ?_|refine zP ?_|refine pD ?_|refine zS ?_|refine zR ?_|refine zO ?_|refine zB ?_|refine zX ?_|refine zT ?_|refine skipI rfl ?_)
    refine endR rfl ?_
    repeat' (first|exact trivial|exact rfl|refine ⟨rfl,?_⟩|refine And.intro ?_ ?_)
    rw [List.take_length,List.drop_of_length_le (by simp [noCal];omega),List.append_nil]
end Go.AM.YtmohhhbgcehnpaaGreat
end
