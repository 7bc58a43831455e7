/- GnS, ExA. -/
import Derived.Test.YtbepaplaahcnkaaGreatPc33
import Derived.Test.YtbepaplaahcnkaaGreatPc32
import Derived.Test.YtbepaplaahcnkaaGreatPc17
import Derived.Test.YtbepaplaahcnkaaGreatPc31

set_option linter.all false
section
namespace Go.AM.YtbepaplaahcnkaaGreat.Gn
open Go.Proofs Go.AM.YtbepaplaahcnkaaGreat.Bs
set_option maxRecDepth 100000
set_option maxHeartbeats 8000000
abbrev tI:Ty:=.int .i64
theorem take_succ_getI {α:Type} {xs:List α} {d:α} {j:Nat} (h:j < xs.length):xs.take (j+1)=xs.take j++[getI xs d j]:=by
 have:getI xs d j=xs[j]:=by simp [getI,List.getD,List.getElem?_eq_getElem h]
 rw [List.take_succ_eq_append_getElem h,this]
def nanS:Spec:=plain fun
 | [.int .i64 _]=>outV True (.bool false)
 | _=>none
theorem nanOk:SpecSound Tryz.prog 142 nanS:=by
 refine soundP (envOf sigNil) Tryz.func142 (c:=body Tryz.f142) rfl (by kernel_rfl) rfl ?_
 intro args out hf hpre
 split at hf <;> try (cases hf;done)
 rename_i n
 cases hf
 refine ⟨Nat.le_of_ble_eq_true rfl,initI (args:=[.int .i64 n]) rfl ?_⟩
 repeat' (first|refine zN ?_|refine zE ?_|refine zP ?_|refine pD ?_|refine zQ ?_|refine zR ?_|refine zW ?_)
 refine endR rfl ?_
 simp
def lessS:Spec:=plain fun
 | [.int .i64 a,.int .i64 b]=>outV True (.bool (decide (a < b)))
 | _=>none
def sigLs:List (Nat × Spec):=[(142,nanS)]
theorem sigLsOk:SigOk Tryz.prog (look sigLs):=sigCons sigNil Tryz.func142 (by kernel_rfl) (c:=body Tryz.f142) rfl nanOk
theorem lessOk:SpecSound Tryz.prog 110 lessS:=by
 refine soundP (envOf sigLsOk) Tryz.func110 (c:=body Tryz.f110) rfl (by kernel_rfl) rfl ?_
 intro args out hf hpre
 split at hf <;> try (cases hf;done)
 rename_i a b
 cases hf
 refine ⟨Nat.le_of_ble_eq_true rfl,initI (args:=[.int .i64 a,.int .i64 b]) rfl ?_⟩
 repeat' (first|refine zN ?_|refine zE ?_|refine zP ?_|refine pD ?_|refine zQ ?_|refine zR ?_|refine zW ?_)
 refine endR rfl ?_
 repeat' (first|exact trivial|exact rfl|refine ⟨rfl,?_⟩|refine And.intro ?_ ?_)
def sigIs:List (Nat × Spec):=[(110,lessS)]
theorem sigIsOk:SigOk Tryz.prog (look sigIs):=sigCons sigNil Tryz.func110 (by kernel_rfl) (c:=body Tryz.f110) rfl lessOk
def ltI (x y:Int):Bool:=decide (x < y)
def sortI (xs:List Int):List Int:=Bs.sortF (0:Int) ltI xs
open Bs
def isortS:Spec:=⟨true,fun args rows=>match args,rows with
 | [.own 0,.int .i64 0,.int .i64 n],[.seq (.int .i64) xs] =>
   some ⟨List.length (α:=Int) xs≤1000000∧n=List.length (α:=Int) xs,.tup [],[.seq tI (sortF (0:Int) ltI xs)],true⟩
 | _,_=>none⟩
theorem insSortOk:SpecSound Tryz.prog 104 isortS:=by
 refine soundR (envOf sigIsOk) Tryz.func104 (c:=body Tryz.f104) rfl (by kernel_rfl) rfl ?_
 intro args rows out hf hpre
 split at hf <;> try (cases hf;done)
 rename_i n xs
 cases hf
 refine ⟨Nat.le_of_ble_eq_true rfl,initI (args:=[.own 0,.int .i64 0,.int .i64 n]) (rows:=[.seq tI xs]) rfl ?_⟩
 obtain ⟨hlen,hn⟩:=hpre
 repeat' (first|refine zN ?_|refine zE ?_|refine zP ?_|refine pD ?_|refine zQ ?_|refine zR ?_|refine zW ?_)
 refine loopI (σ:=Nat) (fun i=>[(6,.int .i64 i)]) (fun i=>[(100000,.seq tI (sortF (0:Int) ltI (List.take (α:=Int) i xs)++List.drop (α:=Int) i xs))]) (fun i=>1≤i∧(i≤List.length (α:=Int) xs∨i=1)) (fun i=>List.length (α:=Int) xs+1 - i) 1 rfl (fun _=>rfl) rfl ?_ ?_ ?_
 ·exact ⟨Nat.le_refl _,.inr rfl⟩
 ·repeat' (first|exact trivial|with_reducible exact rfl|refine And.intro ?_ ?_)
  all_goals first|rfl|exact sortF_one
 rintro i ⟨hi1,hi⟩
 repeat' (first|refine zN ?_|refine zE ?_|refine zP ?_|refine pD ?_|refine zQ ?_|refine zR ?_|refine zW ?_)
 refine condI rfl (fun c1=>?_) (fun c1=>?_)
 ·simp only [decide_eq_true_eq] at c1
  have hil:i < List.length (α:=Int) xs:=by omega
  obtain ⟨x,hx⟩:∃ x:Int,x=getI xs (0:Int) i:=⟨_,rfl⟩
  obtain ⟨S,hS⟩:∃ S,S=sortF (0:Int) ltI (List.take (α:=Int) i xs):=⟨_,rfl⟩
  obtain ⟨T,hT⟩:∃ T,T=List.drop (α:=Int) (i+1) xs:=⟨_,rfl⟩
  have hSl:S.length=i:=by rw [hS,sortF_length,List.length_take];omega
  have hTl:T.length=List.length (α:=Int) xs - (i+1):=by rw [hT,List.length_drop]
  have hd0:sortF (0:Int) ltI (List.take (α:=Int) i xs)++List.drop (α:=Int) i xs=dat S x T i:=by
   unfold dat
   have t1:S.take i=S:=List.take_of_length_le (by omega)
   have t2:S.drop i=[]:=List.drop_of_length_le (by omega)
   have:List.drop (α:=Int) i xs=x::T:=by
    rw [hT,hx,List.drop_eq_getElem_cons hil]
    congr 1
    simp [getI,List.getD,List.getElem?_eq_getElem hil]
   rw [t1,t2,← hS,this]
   simp
  have hnext:insI (0:Int) ltI x S++T=sortF (0:Int) ltI (List.take (α:=Int) (i+1) xs)++List.drop (α:=Int) (i+1) xs:=by
   rw [hT,hS,← sortF_snoc,take_succ_getI (d:=(0:Int)) hil,hx]
  rw [hd0]
  repeat' (first|refine zN ?_|refine zE ?_|refine zP ?_|refine pD ?_|refine zQ ?_|refine zR ?_|refine zW ?_)
  refine loopI (σ:=Nat) (fun j=>[(7,.int .i64 j)]) (fun j=>[(100000,.seq tI (dat S x T j))]) (fun j=>j≤S.length∧posI (0:Int) ltI x S S.length=posI (0:Int) ltI x S j) (fun j=>j) i rfl (fun _=>rfl) rfl ?_ ?_ ?_
  ·exact ⟨by omega,by rw [hSl]⟩
  ·repeat' (first|exact trivial|exact rfl|refine ⟨rfl,?_⟩|refine And.intro ?_ ?_)
  rintro j ⟨hj,hp⟩
  have hdl:=dat_len (S:=S) (T:=T) (x:=x) (j:=j)
  repeat' (first|refine zN ?_|refine zE ?_|refine zP ?_|refine pD ?_|refine pC (by exact fun h=>by have:=of_decide_eq_true h;omega) ?_|refine zQ ?_|refine zR ?_|refine zW ?_)
  refine condI rfl (fun c2=>?_) (fun c2=>?_)
  ·have c2':(decide (0 < (j:Int))&&decide (getI (dat S x T j) (0:Int) ((j:Int)).toNat < getI (dat S x T j) (0:Int) ((j:Int) - 1).toNat))=true:=c2
   simp only [Bool.and_eq_true,decide_eq_true_eq] at c2'
   obtain ⟨k,rfl⟩:∃ k,j=k+1:=⟨j - 1,by omega⟩
   have e1:(((k+1:Nat):Int)).toNat=k+1:=by omega
   have e2:(((k+1:Nat):Int) - 1).toNat=k:=by omega
   rw [e1,e2,dat_at hj,dat_lo hj] at c2'
   have hpk:posI (0:Int) ltI x S (k+1)=posI (0:Int) ltI x S k:=by
    show (bif ltI x (getI S (0:Int) k) then posI (0:Int) ltI x S k else k+1)=posI (0:Int) ltI x S k
    rw [show ltI x (getI S (0:Int) k)=true from decide_eq_true c2'.2]
    rfl
   repeat' (first|refine zN ?_|refine zE ?_|refine zP ?_|refine pD ?_|refine pC (by first|omega|(rw [List.length_set];omega)) ?_|refine zQ ?_|refine zR ?_|refine zW ?_)
   refine roundI k rfl ?_ ?_ ?_
   ·exact ⟨by omega,hp.trans hpk⟩
   ·show k < k+1
    omega
   ·repeat' (first|exact trivial|with_reducible exact rfl|refine And.intro ?_ ?_)
    all_goals first|rfl|skip
    ·omega
    ·rw [e1,e2]
     exact (dat_swap hj).symm
  ·have c2':(decide (0 < (j:Int))&&decide (getI (dat S x T j) (0:Int) ((j:Int)).toNat < getI (dat S x T j) (0:Int) ((j:Int) - 1).toNat))=false:=c2
   have hpj:posI (0:Int) ltI x S j=j:=by
    cases j with
    | zero=>rfl
    | succ k =>
      have e1:(((k+1:Nat):Int)).toNat=k+1:=by omega
      have e2:(((k+1:Nat):Int) - 1).toNat=k:=by omega
      rw [e1,e2,dat_at hj,dat_lo hj] at c2'
      simp only [Bool.and_eq_false_iff,decide_eq_false_iff_not] at c2'
      show (bif ltI x (getI S (0:Int) k) then posI (0:Int) ltI x S k else k+1)=k+1
      rw [show ltI x (getI S (0:Int) k)=false from decide_eq_false (by rcases c2' with h|h;exact absurd (by omega) h;exact h)]
      rfl
   have hins:dat S x T j=insI (0:Int) ltI x S++T:=by
    unfold dat insI
    rw [hp,hpj]
   repeat' (first|refine zN ?_|refine zE ?_|refine zP ?_|refine pD ?_|refine zQ ?_|refine zR ?_|refine zW ?_)
   refine roundI (i+1) rfl ?_ ?_ ?_
   ·exact ⟨by show 1≤i+1;omega,.inl (by show i+1≤List.length (α:=Int) xs;omega)⟩
   ·show List.length (α:=Int) xs+1 - (i+1) < List.length (α:=Int) xs+1 - i
    omega
   ·repeat' (first|exact trivial|with_reducible exact rfl|refine And.intro ?_ ?_)
    all_goals first|rfl|exact (hins.trans hnext).symm
 ·simp only [decide_eq_false_iff_not] at c1
  repeat' (first|refine zN ?_|refine zE ?_|refine zP ?_|refine pD ?_|refine zQ ?_|refine zR ?_|refine zW ?_)
  refine endN rfl ?_
  repeat' (first|exact trivial|with_reducible exact rfl|refine And.intro ?_ ?_)
  all_goals first|rfl|skip
  rw [List.take_of_length_le (by omega),List.drop_of_length_le (by omega),List.append_nil]
def sigPd:List (Nat × Spec):=[(104,isortS)]
theorem sigPdOk:SigOk Tryz.prog (look sigPd):=sigCons sigNil Tryz.func104 (by kernel_rfl) (c:=body Tryz.f104) rfl insSortOk
def pdqS:Spec:=⟨true,fun args rows=>match args,rows with
 | [.own 0,.int .i64 0,.int .i64 n,.int .i64 _],[.seq (.int .i64) xs]=>some ⟨List.length (α:=Int) xs≤12∧n=List.length (α:=Int) xs,.tup [],[.seq tI (sortF (0:Int) ltI xs)],true⟩
 | _,_=>none⟩
theorem pdqOk:SpecSound Tryz.prog 43 pdqS:=by
 refine soundR (envOf sigPdOk) Tryz.func43 (c:=body Tryz.f43) rfl (by kernel_rfl) rfl ?_
 intro args rows out hf hpre
 split at hf <;> try (cases hf;done)
 rename_i n k xs
 cases hf
 refine ⟨Nat.le_of_ble_eq_true rfl,initI (args:=[.own 0,.int .i64 0,.int .i64 n,.int .i64 k]) (rows:=[.seq tI xs]) rfl ?_⟩
 obtain ⟨hl,hn⟩:=hpre
 have hl:List.length (α:=Int) xs≤12:=hl
 repeat' (first|refine zN ?_|refine zE ?_|refine zP ?_|refine pD ?_|refine zQ ?_|refine zR ?_|refine zW ?_)
 refine loopI (σ:=Unit) (fun u=>[]) (fun u=>[]) (fun u=>True) (fun u=>0) () rfl (fun _=>rfl) rfl ?_ ?_ ?_
 ·trivial
 ·repeat' (first|exact trivial|exact rfl|refine ⟨rfl,?_⟩|refine And.intro ?_ ?_)
 rintro ⟨⟩ _
 repeat' (first|refine zN ?_|refine zE ?_|refine zP ?_|refine pD ?_|refine zQ ?_|refine zR ?_|refine zW ?_)
 refine condI rfl (fun c1=>?_) (fun c1=>?_)
 ·repeat' (first|refine zN ?_|refine zE ?_|refine zP ?_|refine pD ?_|refine pC (by exact ⟨by omega,hn⟩) ?_|refine zQ ?_|refine zR ?_|refine zW ?_)
  refine endR rfl ?_
  repeat' (first|exact trivial|exact rfl|refine ⟨rfl,?_⟩|refine And.intro ?_ ?_)
 ·exfalso
  simp only [decide_eq_false_iff_not] at c1
  omega
def lenF (n:Int):Int:=if n=0 then 0 else if n=1 then 1 else if n < 4 then 2 else if n < 8 then 3 else 4
theorem wrapU {n:Nat} (h:n≤12):IntKind.wrap .u64 (n:Int)=n:=by
 simp [IntKind.wrap,IntKind.signed,IntKind.bits];omega
def len64S:Spec:=plain fun
 | [.int .u64 n]=>outV (0≤n∧n≤12) (.int .i64 (lenF n))
 | _=>none
theorem len64Ok:SpecSound Tryz.prog 114 len64S:=by
 refine soundP (envOf sigNil) Tryz.func114 (c:=body Tryz.f114) rfl (by kernel_rfl) rfl ?_
 intro args out hf hpre
 split at hf <;> try (cases hf;done)
 rename_i n
 cases hf
 refine ⟨Nat.le_of_ble_eq_true rfl,initI (args:=[.int .u64 n]) rfl ?_⟩
 obtain ⟨h0,h1⟩:=hpre
 repeat' (first|refine zN ?_|refine zE ?_|refine zP ?_|refine pD ?_|refine zQ ?_|refine zR ?_|refine zW ?_)
 refine condI rfl (fun c=>absurd (of_decide_eq_true c) (by omega)) (fun _=>?_)
 repeat' (first|refine zN ?_|refine zE ?_|refine zP ?_|refine pD ?_|refine zQ ?_|refine zR ?_|refine zW ?_)
 refine condI rfl (fun c=>absurd (of_decide_eq_true c) (by omega)) (fun _=>?_)
 repeat' (first|refine zN ?_|refine zE ?_|refine zP ?_|refine pD ?_|refine zQ ?_|refine zR ?_|refine zW ?_)
 refine condI rfl (fun c=>absurd (of_decide_eq_true c) (by omega)) (fun _=>?_)
 have hn:n=0∨n=1∨n=2∨n=3∨n=4∨n=5∨n=6∨n=7∨n=8∨n=9∨n=10∨n=11∨n=12:=by omega
 repeat' (first|refine zN ?_|refine zE ?_|refine zP ?_|refine pD ?_|refine pC (by first|(clear h0 h1;rcases hn with rfl|rfl|rfl|rfl|rfl|rfl|rfl|rfl|rfl|rfl|rfl|rfl|rfl <;> decide)) ?_|refine zQ ?_|refine zR ?_|refine zW ?_)
 refine endR rfl ?_
 repeat' (first|exact trivial|with_reducible exact rfl|refine And.intro ?_ ?_)
 clear h0 h1
 rcases hn with rfl|rfl|rfl|rfl|rfl|rfl|rfl|rfl|rfl|rfl|rfl|rfl|rfl <;> decide
def sigLn:List (Nat × Spec):=[(114,len64S)]
theorem sigLnOk:SigOk Tryz.prog (look sigLn):=sigCons sigNil Tryz.func114 (by kernel_rfl) (c:=body Tryz.f114) rfl len64Ok
def lenS:Spec:=plain fun
 | [.int .u64 n]=>outV (0≤n∧n≤12) (.int .i64 (lenF n))
 | _=>none
theorem lenOk:SpecSound Tryz.prog 44 lenS:=by
 refine soundP (envOf sigLnOk) Tryz.func44 (c:=body Tryz.f44) rfl (by kernel_rfl) rfl ?_
 intro args out hf hpre
 split at hf <;> try (cases hf;done)
 rename_i n
 cases hf
 refine ⟨Nat.le_of_ble_eq_true rfl,initI (args:=[.int .u64 n]) rfl ?_⟩
 obtain ⟨h0,h1⟩:=hpre
 repeat' (first|refine zN ?_|refine zE ?_|refine zP ?_|refine pD ?_|refine zQ ?_|refine zR ?_|refine zW ?_)
 refine condF rfl ?_
 repeat' (first|refine zN ?_|refine zE ?_|refine zP ?_|refine pD ?_|refine pC (by exact ⟨h0,h1⟩) ?_|refine zQ ?_|refine zR ?_|refine zW ?_)
 refine endR rfl ?_
 repeat' (first|exact trivial|exact rfl|refine ⟨rfl,?_⟩|refine And.intro ?_ ?_)
def sigSo:List (Nat × Spec):=[(44,lenS),(43,pdqS)]
theorem sigSoOk:SigOk Tryz.prog (look sigSo):=sigCons (sigCons sigNil Tryz.func43 (by kernel_rfl) (c:=body Tryz.f43) rfl pdqOk) Tryz.func44 (by kernel_rfl) (c:=body Tryz.f44) rfl lenOk
def sortS:Spec:=⟨true,fun args rows=>match args,rows with
 | [.own 0],[.seq (.int .i64) xs]=>some ⟨List.length (α:=Int) xs≤12,.tup [],[.seq tI (sortI xs)],true⟩
 | [.own 0],[.bag (.int .i64) xs]=>some ⟨List.length (α:=Int) xs≤12,.tup [],[.seq tI (sortI xs)],true⟩
 | _,_=>none⟩
theorem sortI_perm {xs ys:List Int} (h:xs.Perm ys):sortI xs=sortI ys :=
 sortF_eq (k:=id) h (fun _ _ _ _=>rfl) (fun _ _ _ _ h=>h)
theorem sortOk:SpecSound Tryz.prog 20 sortS:=by
 refine soundR (envOf sigSoOk) Tryz.func20 (c:=body Tryz.f20) rfl (by kernel_rfl) rfl ?_
 intro args rows out hf hpre
 unfold sortS at hf
 split at hf <;> try (cases hf;done)
 ·rename_i xs
  cases hf
  refine ⟨Nat.le_of_ble_eq_true rfl,initI (args:=[.own 0]) (rows:=[.seq tI xs]) rfl ?_⟩
  have hl:List.length (α:=Int) xs≤12:=hpre
  have hw:IntKind.wrap .u64 (List.length (α:=Int) xs:Int)=(List.length (α:=Int) xs:Int):=wrapU hl
  repeat' (first|refine zN ?_|refine zE ?_|refine zP ?_|refine pD ?_|refine pC (by first|(rw [hw];omega)|exact ⟨hl,rfl⟩|omega) ?_|refine zQ ?_|refine zR ?_|refine zW ?_)
  refine endN rfl ?_
  repeat' (first|exact trivial|with_reducible exact rfl|refine And.intro ?_ ?_)
  all_goals rfl
 ·rename_i xs
  cases hf
  refine ⟨Nat.le_of_ble_eq_true rfl,initI (args:=[.own 0]) (rows:=[.bag tI xs]) rfl ?_⟩
  have hl:List.length (α:=Int) xs≤12:=hpre
  refine bagI 100000 rfl (fun ys hys=>?_)
  rw [← sortI_perm hys]
  have hl:List.length (α:=Int) ys≤12:=by rw [hys.length_eq];exact hl
  have hw:IntKind.wrap .u64 (List.length (α:=Int) ys:Int)=(List.length (α:=Int) ys:Int):=wrapU hl
  repeat' (first|refine zN ?_|refine zE ?_|refine zP ?_|refine pD ?_|refine pC (by first|(rw [hw];omega)|exact ⟨hl,rfl⟩|omega) ?_|refine zQ ?_|refine zR ?_|refine zW ?_)
  refine endN rfl ?_
  repeat' (first|exact trivial|with_reducible exact rfl|refine And.intro ?_ ?_)
  all_goals rfl
def keysOf (m:List (Int × Bool)):List Int:=m.map (·.1)
def keys1S:Spec:=⟨true,fun args rows=>match args,rows with
 | [.own 0,.ptr 2 0],[.yp 1,.yld (.int .i64) false Y p,.box [.own 3],.map (.int .i64) .bool m] =>
   some ⟨(p=[]∧Y.ok=okP (keysOf m))∧Y.cont=(fun _=>true)∧∀ (p q:List Int) (O R:Nat→Prop) (w:World),p.Perm q→Y.J p O R w→Y.J q O R w,.tup [],[.yp 4,.dead,.dead,.dead,.yld tI false Y (keysOf m)],true⟩
 | _,_=>none⟩
theorem keys1Ok:SpecSound Tryz.prog 103 keys1S:=by
 refine soundR (envOf sigNil) Tryz.func103 (c:=body Tryz.f103) rfl (by kernel_rfl) rfl ?_
 intro args rows out hf hpre
 split at hf <;> try (cases hf;done)
 rename_i Y p m
 cases hf
 refine ⟨Nat.le_of_ble_eq_true rfl,initI (args:=[.own 0,.ptr 2 0]) (rows:=[.yp 1,.yld (.int .i64) false Y p,.box [.own 3],.map tI .bool m]) rfl ?_⟩
 obtain ⟨ok,cont,J⟩:=Y
 obtain ⟨⟨h1,h2⟩,h3,hJ⟩:=hpre
 dsimp only at h1 h2 h3 hJ
 subst h1 h2 h3
 repeat' (first|refine zN ?_|refine zE ?_|refine zP ?_|refine pD ?_|refine zQ ?_|refine zR ?_|refine zW ?_)
 refine mitI 5 rfl (fun D l hpm hD=>?_)
 refine renameI 100001 3001 rfl ?_
 refine loopI (σ:=Option (Int × Bool) × MitG × List (Int × Bool)) (fun z=>[]) (fun z=>[(5,.mit 100003 tI .bool l z.1 (some z.2.1)),(100000,.yp 3000),(3000,.yld tI false ⟨okP (keysOf m),fun _=>true,J⟩ (keysOf z.2.2))]) (fun z=>Vis l z.2.2 z.2.1.was) (fun z=>z.2.1.left) (none,D,[]) rfl (fun _=>rfl) rfl ?_ ?_ ?_
 ·exact Vis.nil hD
 ·repeat' (first|exact trivial|with_reducible exact rfl|refine And.intro ?_ ?_)
  all_goals rfl
 rintro ⟨cur,D1,P⟩ hV
 dsimp only at hV ⊢
 refine zS ?_
 refine nextI rfl rfl rfl rfl rfl rfl (fun _ _=>rfl) (fun hall=>?_) (fun j y D2 hj hwj hD2 hleft=>?_)
 ·have hP:P.Perm m:=(hV.all hall).trans hpm
  repeat' (first|refine zN ?_|refine zE ?_|refine zP ?_|refine pD ?_|refine zQ ?_|refine zR ?_|refine zW ?_)
  refine yldI (t:=.int .i64) 3000 (keysOf m) (by rfl) ?_ ?_
  ·intro O R w h
   exact hJ (keysOf P) (keysOf m) O R w (hP.map _) h
  refine condF rfl ?_
  repeat' (first|refine zN ?_|refine zE ?_|refine zP ?_|refine pD ?_|refine zQ ?_|refine zR ?_|refine zW ?_)
  refine endN rfl ?_
  repeat' (first|exact trivial|with_reducible exact rfl|refine And.intro ?_ ?_)
  all_goals rfl
 ·have hV2:=hV.step hj hwj (fun i hi=>hD2 i hi)
  obtain ⟨q,hq⟩:=hV.fresh hj hwj
  have hok:okP (keysOf m) (keysOf P++[y.1]):=⟨keysOf q,by
   have:=(hq.trans hpm).map (fun e:Int × Bool=>e.1)
   simpa [keysOf] using this⟩
  repeat' (first|refine zN ?_|refine zE ?_|refine zP ?_|refine pD ?_|refine zQ ?_|refine zR ?_|refine zW ?_)
  refine condT rfl ?_
  repeat' (first|refine zN ?_|refine zE ?_|refine zP ?_|refine pD ?_|refine pC (by exact hok) ?_|refine zQ ?_|refine zR ?_|refine zW ?_)
  refine condF rfl ?_
  repeat' (first|refine zN ?_|refine zE ?_|refine zP ?_|refine pD ?_|refine zQ ?_|refine zR ?_|refine zW ?_)
  refine roundI (some y,D2,P++[y]) rfl ?_ ?_ ?_
  ·exact hV2
  ·exact hleft
  ·repeat' (first|exact trivial|with_reducible exact rfl|refine And.intro ?_ ?_)
   all_goals first|rfl|(unfold keysOf;simp)
def sigAp:List (Nat × Spec):=[(103,keys1S)]
theorem sigApOk:SigOk Tryz.prog (look sigAp):=sigCons sigNil Tryz.func103 (by kernel_rfl) (c:=body Tryz.f103) rfl keys1Ok
def apsS:Spec:=⟨true,fun args rows=>match args,rows with
 | [.nilsl,.fn 103 [] [.ptr 0 0]],[.box [.own 1],.map (.int .i64) .bool m]=>some ⟨List.length (α:=Int × Bool) m≤1000,.own 2,[.dead,.dead,.bag tI (keysOf m)],true⟩
 | _,_=>none⟩
theorem apsOk:SpecSound Tryz.prog 164 apsS:=by
 refine soundR (envOf sigApOk) Tryz.func164 (c:=body Tryz.f164) rfl (by kernel_rfl) rfl ?_
 intro args rows out hf hpre
 split at hf <;> try (cases hf;done)
 rename_i m
 cases hf
 refine ⟨Nat.le_of_ble_eq_true rfl,initI (args:=[.nilsl,.fn 103 [] [.ptr 0 0]]) (rows:=[.box [.own 1],.map tI .bool m]) rfl ?_⟩
 have hm:List.length (α:=Int × Bool) m≤1000:=hpre
 repeat' (first|refine zN ?_|refine zE ?_|refine zP ?_|refine zQ ?_|refine zW ?_)
 refine zR ?_
 repeat' (first|with_reducible refine pN ?_|refine pD ?_|fail)
 repeat with_reducible refine cN ?_
 repeat' (first|refine zN ?_|refine zE ?_|refine zP ?_|refine zQ ?_|refine zW ?_)
 refine zR ?_
 repeat' (first|with_reducible refine pN ?_|refine pD ?_|fail)
 repeat with_reducible refine cN ?_
 refine renameB 100001 3001 rfl ?_
 refine renameB 100000 3000 rfl ?_
 refine tidyI [(1,.junk)] [(2,.box [.own 54000]),(54000,.seq tI [])] rfl rfl ?_ ?_
 ·repeat' (first|exact trivial|exact rfl|refine ⟨rfl,?_⟩|refine And.intro ?_ ?_)
 repeat' (first|refine zN ?_|refine zE ?_|refine zP ?_|refine pD ?_|refine zQ ?_|refine zR ?_|refine zW ?_)
 refine rangeP (.int .i64) false (fun q=>[(2,.box [.own 55000]),(55000,.bag tI q)]) (keysOf m) 6 rfl rfl rfl rfl rfl rfl rfl rfl rfl (fun _=>rfl) (fun _=>rfl) (fun _=>rfl) rfl rfl rfl ?_ ?_ ?_ ?_ ?_ ?_
 ·exact ⟨rfl,rfl,rfl,by repeat' (first|exact trivial|exact rfl|refine And.intro ?_ ?_),by repeat' (first|exact trivial|exact rfl|refine And.intro ?_ ?_),rfl,rfl,rfl⟩
 ·repeat' (first|exact trivial|exact rfl|refine ⟨rfl,?_⟩|refine And.intro ?_ ?_)
  all_goals exact List.Perm.refl _
 ·intro p q h
  repeat' (first|exact trivial|rfl|exact ⟨_,rfl,h⟩|refine And.intro ?_ ?_)
 ·intro J hJ
  exact ⟨_,_,rfl,⟨⟨rfl,rfl⟩,rfl,hJ⟩,rfl,rfl⟩
 ·intro l q x hok hel
  refine ⟨_,rfl,?_⟩
  have hl:q.length+1≤1000:=by
   obtain ⟨r,hr⟩:=hok
   have:=hr.length_eq
   simp [keysOf] at this
   omega
  repeat' (first|refine zN ?_|refine zE ?_|refine zP ?_|refine pD ?_|refine zQ ?_|refine zR ?_|refine zW ?_)
  refine asN ?_
  refine bagI 55000 (by rfl) (fun ys hys=>?_)
  have hyl:=hys.length_eq
  repeat' (first|refine zN ?_|refine zE ?_|refine zP ?_|refine pD ?_|refine pC (by first|omega|(show List.length _+_≤_;simp;omega)) ?_|refine zQ ?_|refine zR ?_|refine zW ?_)
  refine yN rfl rfl ?_
  repeat' (first|exact trivial|exact rfl|refine ⟨rfl,?_⟩|refine And.intro ?_ ?_)
  all_goals first|rfl|exact hys.append_right _
 ·repeat' (first|refine zN ?_|refine zE ?_|refine zP ?_|refine pD ?_|refine zQ ?_|refine zR ?_|refine zW ?_)
  refine endR rfl ?_
  repeat' (first|exact trivial|exact rfl|refine ⟨rfl,?_⟩|refine And.intro ?_ ?_)
  all_goals exact List.Perm.refl _
def sigCo:List (Nat × Spec):=[(164,apsS)]
theorem sigCoOk:SigOk Tryz.prog (look sigCo):=sigCons sigNil Tryz.func164 (by kernel_rfl) (c:=body Tryz.f164) rfl apsOk
def collS:Spec:=⟨true,fun args rows=>match args,rows with
 | [.fn 103 [] [.ptr 0 0]],[.box [.own 1],.map (.int .i64) .bool m]=>some ⟨List.length (α:=Int × Bool) m≤1000,.own 2,[.dead,.dead,.bag tI (keysOf m)],true⟩
 | _,_=>none⟩
theorem collOk:SpecSound Tryz.prog 102 collS:=by
 refine soundR (envOf sigCoOk) Tryz.func102 (c:=body Tryz.f102) rfl (by kernel_rfl) rfl ?_
 intro args rows out hf hpre
 split at hf <;> try (cases hf;done)
 rename_i m
 cases hf
 refine ⟨Nat.le_of_ble_eq_true rfl,initI (args:=[.fn 103 [] [.ptr 0 0]]) (rows:=[.box [.own 1],.map tI .bool m]) rfl ?_⟩
 repeat' (first|refine zN ?_|refine zE ?_|refine zP ?_|refine pD ?_|refine pC (by exact hpre) ?_|refine zQ ?_|refine zR ?_|refine zW ?_)
 refine endR rfl ?_
 repeat' (first|exact trivial|exact rfl|refine ⟨rfl,?_⟩|refine And.intro ?_ ?_)
 all_goals first|rfl|exact List.Perm.refl _
def sigSd:List (Nat × Spec):=[(102,collS),(20,sortS)]
theorem sigSdOk:SigOk Tryz.prog (look sigSd):=sigCons (sigCons sigNil Tryz.func20 (by kernel_rfl) (c:=body Tryz.f20) rfl sortOk) Tryz.func102 (by kernel_rfl) (c:=body Tryz.f102) rfl collOk
def sortedS:Spec:=⟨true,fun args rows=>match args,rows with
 | [.fn 103 [] [.ptr 0 0]],[.box [.own 1],.map (.int .i64) .bool m]=>some ⟨List.length (α:=Int × Bool) m≤12,.own 2,[.dead,.dead,.seq tI (sortI (keysOf m))],true⟩
 | _,_=>none⟩
theorem sortedOk:SpecSound Tryz.prog 41 sortedS:=by
 refine soundR (envOf sigSdOk) Tryz.func41 (c:=body Tryz.f41) rfl (by kernel_rfl) rfl ?_
 intro args rows out hf hpre
 split at hf <;> try (cases hf;done)
 rename_i m
 cases hf
 refine ⟨Nat.le_of_ble_eq_true rfl,initI (args:=[.fn 103 [] [.ptr 0 0]]) (rows:=[.box [.own 1],.map tI .bool m]) rfl ?_⟩
 have hm:List.length (α:=Int × Bool) m≤12:=hpre
 have hm2:List.length (keysOf m)≤12:=by unfold keysOf;rw [List.length_map];exact hm
 repeat' (first|refine zN ?_|refine zE ?_|refine zP ?_|refine pD ?_|refine pC (by first|exact hm2|exact Nat.le_trans hm (by decide)) ?_|refine zQ ?_|refine zR ?_|refine zW ?_)
 refine endR rfl ?_
 repeat' (first|exact trivial|exact rfl|refine ⟨rfl,?_⟩|refine And.intro ?_ ?_)
 all_goals first|rfl|exact List.Perm.refl _
def keysS:Spec:=⟨true,fun args rows=>match args,rows with
 | [.own 0],[.map (.int .i64) .bool m]=>some ⟨True,.fn 103 [] [.ptr 1 0],[.map tI .bool m,.box [.own 0]],true⟩
 | _,_=>none⟩
theorem keysOk:SpecSound Tryz.prog 42 keysS:=by
 refine soundR (envOf sigNil) Tryz.func42 (c:=body Tryz.f42) rfl (by kernel_rfl) rfl ?_
 intro args rows out hf hpre
 split at hf <;> try (cases hf;done)
 rename_i m
 cases hf
 refine ⟨Nat.le_of_ble_eq_true rfl,initI (args:=[.own 0]) (rows:=[.map tI .bool m]) rfl ?_⟩
 repeat' (first|refine zN ?_|refine zE ?_|refine zP ?_|refine pD ?_|refine zQ ?_|refine zR ?_|refine zW ?_)
 refine endR rfl ?_
 repeat' (first|exact trivial|exact rfl|refine ⟨rfl,?_⟩|refine And.intro ?_ ?_)
end Go.AM.YtbepaplaahcnkaaGreat.Gn
end

section
namespace Go.AM.YtbepaplaahcnkaaGreat.Ex
open Go.Proofs Go.AM.YtbepaplaahcnkaaGreat.Fc Go.AM.YtbepaplaahcnkaaGreat.Bs Go.AM.YtbepaplaahcnkaaGreat.Gn
set_option maxRecDepth 100000
set_option maxHeartbeats 8000000
def in1S:Spec:=plain fun
 | [.int .i64 n,.int .i64 h]=>outV True (.bool (decide (n≥0)&&decide (n≤h)))
 | _=>none
theorem in1Ok:SpecSound Tryz.prog 31 in1S:=by
 refine soundP (envOf sigNil) Tryz.func31 (c:=body Tryz.f31) rfl (by kernel_rfl) rfl ?_
 intro args out hf hpre
 split at hf <;> try (cases hf;done)
 rename_i n h
 cases hf
 refine ⟨Nat.le_of_ble_eq_true rfl,initI (args:=[.int .i64 n,.int .i64 h]) rfl ?_⟩
 repeat' (first|refine zN ?_|refine zE ?_|refine zP ?_|refine pD ?_|refine zQ ?_|refine zR ?_|refine zW ?_)
 refine endR rfl ?_
 repeat' (first|exact trivial|exact rfl|refine ⟨rfl,?_⟩|refine And.intro ?_ ?_)
def sigIn1:List (Nat × Spec):=[(31,in1S)]
theorem sigIn1Ok:SigOk Tryz.prog (look sigIn1):=sigCons sigNil Tryz.func31 (by kernel_rfl) (c:=body Tryz.f31) rfl in1Ok
def inB (n h:Int):Bool:=decide (n≥0)&&decide (n≤h)
def exV (tl ch fr to er:Int):Bool:=(((inB tl 59&&inB ch 3)&&inB fr to)&&decide (to≤1000000))&&inB er 10000
def valS:Spec:=plain fun
 | [.agg [.int .i64 tl,.int .i64 ch,.int .i64 fr,.int .i64 to,.int .i64 er]]=>outV True (.bool (exV tl ch fr to er))
 | _=>none
theorem valOk:SpecSound Tryz.prog 15 valS:=by
 refine soundP (envOf sigIn1Ok) Tryz.func15 (c:=body Tryz.f15) rfl (by kernel_rfl) rfl ?_
 intro args out hf hpre
 split at hf <;> try (cases hf;done)
 rename_i tl ch fr to er
 cases hf
 refine ⟨Nat.le_of_ble_eq_true rfl,initI (args:=[.agg [.int .i64 tl,.int .i64 ch,.int .i64 fr,.int .i64 to,.int .i64 er]]) rfl ?_⟩
 repeat' (first|refine zN ?_|refine zE ?_|refine zP ?_|refine pD ?_|refine zQ ?_|refine zR ?_|refine zW ?_)
 refine endR rfl ?_
 repeat' (first|exact trivial|exact rfl|refine ⟨rfl,?_⟩|refine And.intro ?_ ?_)
def envT {S:Nat→Option Spec} (h:SigOk Tryz.prog S):Env Tryz.prog tt S:=⟨ttOk,h,mixed,none⟩
theorem soundT {S:Nat→Option Spec} (E:Env Tryz.prog tt S) {K:List Nat} {f:Nat} {fn:Func} {c:Code} {F:List AV→Option Out} (hf:Tryz.prog.funcs[f]?=some fn) (hb:fn.body=some c) (hc:codeOk c=true) (hk:forceL (keepOf fn c) some=some K)
 (h:∀ args out,F args=some out→out.pre→args.length≤fn.ntmps∧WP E K c (St.init fn.ntmps args []) (endOf tt fn.results.toList 0 out)) (hro:E.ro=none:=by rfl):SpecSound Tryz.prog f (plain F) :=
 spec_of_WP E K hf hb hc (fun args rows out hout hpre hr=>by
  have:=hr rfl
  subst this
  exact h args out hout hpre) hro
abbrev tCo:Ty:=.fn1 tFc .bool
def mtF (fr to lo:Int) (x:FcT):Bool:=decide (IntKind.wrap .i64 ((x.2.2.2.2.2.1:Int) - lo)≤to)&&decide (IntKind.wrap .i64 ((x.2.2.2.2.2.2.1:Int)+lo)≥fr)
def mt1S:Spec:=plain fun
 | [.agg [.int .i64 a0,.int .i64 a1,.int .i64 a2,.int .i64 a3,.bool a4,.int .i64 a5,.int .i64 a6,.int .i64 a7,.int .i64 a8,.int .i64 a9,.int .i64 a10,.int .i64 a11,.int .i64 a12,.int .i64 a13,.int .i64 a14,.int .i64 a15,.int .i64 a16,.int .i64 a17,.str a18],.el (.int .i64) [lo] 0 0,.el (.int .i64) [to] 0 0,.el (.int .i64) [fr] 0 0]=>outV True (.bool (mtF fr to lo (a0,a1,a2,a3,a4,a5,a6,a7,a8,a9,a10,a11,a12,a13,a14,a15,a16,a17,a18)))
 | _=>none
theorem mt1Ok:SpecSound Tryz.prog 32 mt1S:=by
 refine soundT (envT sigNil) Tryz.func32 (c:=body Tryz.f32) rfl (by kernel_rfl) rfl ?_
 intro args out hf hpre
 split at hf <;> try (cases hf;done)
 rename_i a0 a1 a2 a3 a4 a5 a6 a7 a8 a9 a10 a11 a12 a13 a14 a15 a16 a17 a18 lo to fr
 cases hf
 refine ⟨Nat.le_of_ble_eq_true rfl,initI (args:=[.agg (fA a0 a1 a2 a3 a4 a5 a6 a7 a8 a9 a10 a11 a12 a13 a14 a15 a16 a17 a18),.el (.int .i64) [lo] 0 0,.el (.int .i64) [to] 0 0,.el (.int .i64) [fr] 0 0]) rfl ?_⟩
 repeat' (first|refine zN ?_|refine zE ?_|refine zP ?_|refine pD ?_|refine zQ ?_|refine zR ?_|refine zW ?_)
 refine endR rfl ?_
 repeat' (first|exact trivial|exact rfl|refine ⟨rfl,?_⟩|refine And.intro ?_ ?_)
theorem seen_mt (fr to lo:Int):Seen (.fn 32 [] [.el (.int .i64) [lo] 0 0,.el (.int .i64) [to] 0 0,.el (.int .i64) [fr] 0 0]) (.ext (.fn1 tFc .bool (mtF fr to lo))):=seen1 mt1Ok (callF Tryz.func32 (by kernel_rfl) (c:=body Tryz.f32) rfl) rfl rfl rfl rfl fun x=>⟨_,rfl,trivial,rfl⟩
def meetsS:Spec:=⟨true,fun args rows=>match args,rows with
 | [.int .i64 fr,.int .i64 to,.int .i64 lo],[]=>some ⟨True,.ext (.fn1 tFc .bool (mtF fr to lo)),[],true⟩
 | _,_=>none⟩
theorem meetsOk:SpecSound Tryz.prog 16 meetsS:=by
 refine soundR (envOf sigNil) Tryz.func16 (c:=body Tryz.f16) rfl (by kernel_rfl) rfl ?_
 intro args rows out hf hpre
 split at hf <;> try (cases hf;done)
 rename_i fr to lo
 cases hf
 refine ⟨Nat.le_of_ble_eq_true rfl,initI (args:=[.int .i64 fr,.int .i64 to,.int .i64 lo]) (rows:=[]) rfl ?_⟩
 refine zS ?_
 refine zR ?_
 repeat' (first|with_reducible refine pN ?_|refine pD ?_|fail)
 with_reducible refine cN ?_
 refine zS ?_
 refine zR ?_
 repeat' (first|with_reducible refine pN ?_|refine pD ?_|fail)
 with_reducible refine cN ?_
 refine freezeBoxI 3 (.int .i64) rfl ?_
 refine freezeBoxI 4 (.int .i64) rfl ?_
 refine freezeBoxI 5 (.int .i64) rfl ?_
 refine seeI 6 (.ext (.fn1 tFc .bool (mtF fr to lo))) rfl (seen_mt fr to lo) ?_
 repeat' (first|refine zN ?_|refine zE ?_|refine zP ?_|refine pD ?_|refine zQ ?_|refine zR ?_|refine zW ?_)
 refine endR rfl ?_
 repeat' (first|exact trivial|exact rfl|refine ⟨rfl,?_⟩|refine And.intro ?_ ?_)
def e11S:Spec:=⟨true,fun args rows=>match args,rows with
 | [.ext (.fn1 (.pair (.int .i64) (.pair (.int .i64) (.pair (.int .i64) (.pair (.int .i64) (.pair .bool (.pair (.int .i64) (.pair (.int .i64) (.pair (.int .i64) (.pair (.int .i64) (.pair (.int .i64) (.pair (.int .i64) (.pair (.int .i64) (.pair (.int .i64) (.pair (.int .i64) (.pair (.int .i64) (.pair (.int .i64) (.pair (.int .i64) (.pair (.int .i64) .str)))))))))))))))))) .bool c),.el (.pair (.int .i64) (.pair (.int .i64) (.pair (.int .i64) (.pair (.int .i64) (.pair .bool (.pair (.int .i64) (.pair (.int .i64) (.pair (.int .i64) (.pair (.int .i64) (.pair (.int .i64) (.pair (.int .i64) (.pair (.int .i64) (.pair (.int .i64) (.pair (.int .i64) (.pair (.int .i64) (.pair (.int .i64) (.pair (.int .i64) (.pair (.int .i64) .str)))))))))))))))))) [x] 0 0],[]=>some ⟨True,.bool (c x),[],true⟩
 | _,_=>none⟩
theorem e11Ok:SpecSound Tryz.prog 35 e11S:=by
 refine soundR (envOf sigNil) Tryz.func35 (c:=body Tryz.f35) rfl (by kernel_rfl) rfl ?_
 intro args rows out hf hpre
 split at hf <;> try (cases hf;done)
 rename_i c x
 cases hf
 refine ⟨Nat.le_of_ble_eq_true rfl,initI (args:=[.ext (.fn1 tFc .bool c),.el tFc [x] 0 0]) (rows:=[]) rfl ?_⟩
 obtain ⟨a0,a1,a2,a3,a4,a5,a6,a7,a8,a9,a10,a11,a12,a13,a14,a15,a16,a17,a18⟩:=x
 repeat' (first|refine zN ?_|refine zE ?_|refine zP ?_|refine pD ?_|refine zQ ?_|refine zR ?_|refine zW ?_)
 refine endR rfl ?_
 repeat' (first|exact trivial|exact rfl|refine ⟨rfl,?_⟩|refine And.intro ?_ ?_)
def sigIx:List (Nat × Spec):=[(35,e11S)]
theorem sigIxOk:SigOk Tryz.prog (look sigIx):=sigCons sigNil Tryz.func35 (by kernel_rfl) (c:=body Tryz.f35) rfl e11Ok
def ixS:Spec:=⟨true,fun args rows=>match args,rows with
 | [.sl (.fn1 (.pair (.int .i64) (.pair (.int .i64) (.pair (.int .i64) (.pair (.int .i64) (.pair .bool (.pair (.int .i64) (.pair (.int .i64) (.pair (.int .i64) (.pair (.int .i64) (.pair (.int .i64) (.pair (.int .i64) (.pair (.int .i64) (.pair (.int .i64) (.pair (.int .i64) (.pair (.int .i64) (.pair (.int .i64) (.pair (.int .i64) (.pair (.int .i64) .str)))))))))))))))))) .bool) l,.fn 35 [] [.el (.pair (.int .i64) (.pair (.int .i64) (.pair (.int .i64) (.pair (.int .i64) (.pair .bool (.pair (.int .i64) (.pair (.int .i64) (.pair (.int .i64) (.pair (.int .i64) (.pair (.int .i64) (.pair (.int .i64) (.pair (.int .i64) (.pair (.int .i64) (.pair (.int .i64) (.pair (.int .i64) (.pair (.int .i64) (.pair (.int .i64) (.pair (.int .i64) .str)))))))))))))))))) [x] 0 0]],[]=>some ⟨List.length (α:=FcT→Bool) l≤1000000,.int .i64 (idxF (fun c:FcT→Bool=>c x) l),[],true⟩
 | _,_=>none⟩
theorem ixOk:SpecSound Tryz.prog 98 ixS:=by
 refine soundR (envOf sigIxOk) Tryz.func98 (c:=body Tryz.f98) rfl (by kernel_rfl) rfl ?_
 intro args rows out hf hpre
 split at hf <;> try (cases hf;done)
 rename_i l x
 cases hf
 refine ⟨Nat.le_of_ble_eq_true rfl,initI (args:=[.sl (.fn1 tFc .bool) l,.fn 35 [] [.el tFc [x] 0 0]]) (rows:=[]) rfl ?_⟩
 have hlen:List.length (α:=FcT→Bool) l≤1000000:=hpre
 repeat' (first|refine zN ?_|refine zE ?_|refine zP ?_|refine pD ?_|refine zQ ?_|refine zR ?_|refine zW ?_)
 refine loopI (σ:=Nat) (fun i=>[(8,.int .i64 i)]) (fun i=>[]) (fun i=>i≤List.length (α:=FcT→Bool) l∧∀ j,j < i→(getI l (Ty.dflt tCo) j) x=false) (fun i=>List.length (α:=FcT→Bool) l - i) 0 rfl (fun _=>rfl) rfl ?_ ?_ ?_
 ·exact ⟨Nat.zero_le _,fun j hj=>by omega⟩
 ·repeat' (first|exact trivial|exact rfl|refine ⟨rfl,?_⟩|refine And.intro ?_ ?_)
 rintro i ⟨hi,hb⟩
 repeat' (first|refine zN ?_|refine zE ?_|refine zP ?_|refine pD ?_|refine zQ ?_|refine zR ?_|refine zW ?_)
 refine condI rfl (fun c1=>?_) (fun c1=>?_)
 ·simp only [decide_eq_true_eq] at c1
  have hil:i < List.length (α:=FcT→Bool) l:=by omega
  have hin:((i:Int)).toNat=i:=by omega
  repeat' (first|refine zN ?_|refine zE ?_|refine zP ?_|refine pD ?_|refine zQ ?_|refine zR ?_|refine zW ?_)
  refine condI rfl (fun c2=>?_) (fun c2=>?_)
  ·have c2:getI l (Ty.dflt tCo) ((i:Int)).toNat x=true:=c2
   rw [hin] at c2
   repeat' (first|refine zN ?_|refine zE ?_|refine zP ?_|refine pD ?_|refine zQ ?_|refine zR ?_|refine zW ?_)
   refine endR rfl ?_
   repeat' (first|exact trivial|exact rfl|refine ⟨rfl,?_⟩|refine And.intro ?_ ?_)
   all_goals exact (idxF_found (p:=fun c:FcT→Bool=>c x) (d:=Ty.dflt tCo) hil hb c2)
  ·have c2:getI l (Ty.dflt tCo) ((i:Int)).toNat x=false:=c2
   rw [hin] at c2
   repeat' (first|refine zN ?_|refine zE ?_|refine zP ?_|refine pD ?_|refine zQ ?_|refine zR ?_|refine zW ?_)
   refine roundI (i+1) rfl ?_ ?_ ?_
   ·refine ⟨by show i+1≤List.length (α:=FcT→Bool) l;omega,fun j hj=>?_⟩
    by_cases hji:j=i
    ·subst hji;exact c2
    ·exact hb j (by omega)
   ·show List.length (α:=FcT→Bool) l - (i+1) < List.length (α:=FcT→Bool) l - i
    omega
   ·repeat' (first|exact trivial|with_reducible exact rfl|refine And.intro ?_ ?_)
    all_goals rfl
 ·simp only [decide_eq_false_iff_not] at c1
  repeat' (first|refine zN ?_|refine zE ?_|refine zP ?_|refine pD ?_|refine zQ ?_|refine zR ?_|refine zW ?_)
  refine endR rfl ?_
  repeat' (first|exact trivial|exact rfl|refine ⟨rfl,?_⟩|refine And.intro ?_ ?_)
  all_goals exact (idxF_none (p:=fun c:FcT→Bool=>c x) (d:=Ty.dflt tCo) fun j hj=>hb j (by have hj:j < List.length (α:=FcT→Bool) l:=hj;omega))
def sigCt:List (Nat × Spec):=[(98,ixS)]
theorem sigCtOk:SigOk Tryz.prog (look sigCt):=sigCons sigNil Tryz.func98 (by kernel_rfl) (c:=body Tryz.f98) rfl ixOk
def ctS:Spec:=⟨true,fun args rows=>match args,rows with
 | [.sl (.fn1 (.pair (.int .i64) (.pair (.int .i64) (.pair (.int .i64) (.pair (.int .i64) (.pair .bool (.pair (.int .i64) (.pair (.int .i64) (.pair (.int .i64) (.pair (.int .i64) (.pair (.int .i64) (.pair (.int .i64) (.pair (.int .i64) (.pair (.int .i64) (.pair (.int .i64) (.pair (.int .i64) (.pair (.int .i64) (.pair (.int .i64) (.pair (.int .i64) .str)))))))))))))))))) .bool) l,.fn 35 [] [.el (.pair (.int .i64) (.pair (.int .i64) (.pair (.int .i64) (.pair (.int .i64) (.pair .bool (.pair (.int .i64) (.pair (.int .i64) (.pair (.int .i64) (.pair (.int .i64) (.pair (.int .i64) (.pair (.int .i64) (.pair (.int .i64) (.pair (.int .i64) (.pair (.int .i64) (.pair (.int .i64) (.pair (.int .i64) (.pair (.int .i64) (.pair (.int .i64) .str)))))))))))))))))) [x] 0 0]],[]=>some ⟨List.length (α:=FcT→Bool) l≤1000000,.bool (List.any (α:=FcT→Bool) l fun c=>c x),[],true⟩
 | _,_=>none⟩
theorem ctOk:SpecSound Tryz.prog 34 ctS:=by
 refine soundR (envOf sigCtOk) Tryz.func34 (c:=body Tryz.f34) rfl (by kernel_rfl) rfl ?_
 intro args rows out hf hpre
 split at hf <;> try (cases hf;done)
 rename_i l x
 cases hf
 refine ⟨Nat.le_of_ble_eq_true rfl,initI (args:=[.sl (.fn1 tFc .bool) l,.fn 35 [] [.el tFc [x] 0 0]]) (rows:=[]) rfl ?_⟩
 repeat' (first|refine zN ?_|refine zE ?_|refine zP ?_|refine pD ?_|refine pC (by exact hpre) ?_|refine zQ ?_|refine zR ?_|refine zW ?_)
 refine endR rfl ?_
 repeat' (first|exact trivial|exact rfl|refine ⟨rfl,?_⟩|refine And.intro ?_ ?_)
 all_goals exact idxF_any.symm
def sigE1:List (Nat × Spec):=[(34,ctS)]
theorem sigE1Ok:SigOk Tryz.prog (look sigE1):=sigCons sigNil Tryz.func34 (by kernel_rfl) (c:=body Tryz.f34) rfl ctOk
def e1S:Spec:=plain fun
 | [.agg [.int .i64 a0,.int .i64 a1,.int .i64 a2,.int .i64 a3,.bool a4,.int .i64 a5,.int .i64 a6,.int .i64 a7,.int .i64 a8,.int .i64 a9,.int .i64 a10,.int .i64 a11,.int .i64 a12,.int .i64 a13,.int .i64 a14,.int .i64 a15,.int .i64 a16,.int .i64 a17,.str a18],.el (.slice (.fn1 (.pair (.int .i64) (.pair (.int .i64) (.pair (.int .i64) (.pair (.int .i64) (.pair .bool (.pair (.int .i64) (.pair (.int .i64) (.pair (.int .i64) (.pair (.int .i64) (.pair (.int .i64) (.pair (.int .i64) (.pair (.int .i64) (.pair (.int .i64) (.pair (.int .i64) (.pair (.int .i64) (.pair (.int .i64) (.pair (.int .i64) (.pair (.int .i64) .str)))))))))))))))))) .bool)) [l] 0 0]=>outV (List.length (α:=FcT→Bool) l≤1000000) (.bool (List.any (α:=FcT→Bool) l fun c=>c (a0,a1,a2,a3,a4,a5,a6,a7,a8,a9,a10,a11,a12,a13,a14,a15,a16,a17,a18)))
 | _=>none
theorem e1Ok:SpecSound Tryz.prog 33 e1S:=by
 refine soundP (envOf sigE1Ok) Tryz.func33 (c:=body Tryz.f33) rfl (by kernel_rfl) rfl ?_
 intro args out hf hpre
 split at hf <;> try (cases hf;done)
 rename_i a0 a1 a2 a3 a4 a5 a6 a7 a8 a9 a10 a11 a12 a13 a14 a15 a16 a17 a18 l
 cases hf
 refine ⟨Nat.le_of_ble_eq_true rfl,initI (args:=[.agg (fA a0 a1 a2 a3 a4 a5 a6 a7 a8 a9 a10 a11 a12 a13 a14 a15 a16 a17 a18),.el (.slice tCo) [l] 0 0]) rfl ?_⟩
 repeat' (first|refine zN ?_|refine zE ?_|refine zP ?_|refine zS ?_|refine zO ?_|refine zW ?_)
 refine zR ?_
 repeat' (first|with_reducible refine pN ?_|refine pD ?_|fail)
 repeat with_reducible refine cN ?_
 refine freezeBoxI 2 tFc rfl ?_
 repeat' (first|refine zN ?_|refine zE ?_|refine zP ?_|refine pD ?_|refine pC (by exact hpre) ?_|refine zQ ?_|refine zR ?_|refine zW ?_)
 refine endR rfl ?_
 repeat' (first|exact trivial|exact rfl|refine ⟨rfl,?_⟩|refine And.intro ?_ ?_)
theorem seen_e1 (l:List (FcT→Bool)) (h:l.length≤1000000):Seen (.fn 33 [] [.el (.slice tCo) [l] 0 0]) (.ext (.fn1 tFc .bool (fun x=>l.any fun c=>c x))):=seen1 e1Ok (callF Tryz.func33 (by kernel_rfl) (c:=body Tryz.f33) rfl) rfl rfl rfl rfl fun x=>⟨_,rfl,h,rfl⟩
def eitS:Spec:=⟨true,fun args rows=>match args,rows with
 | [.sl (.fn1 (.pair (.int .i64) (.pair (.int .i64) (.pair (.int .i64) (.pair (.int .i64) (.pair .bool (.pair (.int .i64) (.pair (.int .i64) (.pair (.int .i64) (.pair (.int .i64) (.pair (.int .i64) (.pair (.int .i64) (.pair (.int .i64) (.pair (.int .i64) (.pair (.int .i64) (.pair (.int .i64) (.pair (.int .i64) (.pair (.int .i64) (.pair (.int .i64) .str)))))))))))))))))) .bool) l],[]=>some ⟨List.length (α:=FcT→Bool) l≤1000000,.ext (.fn1 tFc .bool (fun x=>List.any (α:=FcT→Bool) l fun c=>c x)),[],true⟩
 | _,_=>none⟩
theorem eitOk:SpecSound Tryz.prog 17 eitS:=by
 refine soundR (envOf sigNil) Tryz.func17 (c:=body Tryz.f17) rfl (by kernel_rfl) rfl ?_
 intro args rows out hf hpre
 split at hf <;> try (cases hf;done)
 rename_i l
 cases hf
 refine ⟨Nat.le_of_ble_eq_true rfl,initI (args:=[.sl (.fn1 tFc .bool) l]) (rows:=[]) rfl ?_⟩
 have hl:List.length (α:=FcT→Bool) l≤1000000:=hpre
 refine zS ?_
 refine zR ?_
 repeat' (first|with_reducible refine pN ?_|refine pD ?_|fail)
 with_reducible refine cN ?_
 refine zS ?_
 refine zR ?_
 repeat' (first|with_reducible refine pN ?_|refine pD ?_|fail)
 with_reducible refine cN ?_
 refine freezeBoxI 1 (.slice tCo) rfl ?_
 refine seeI 2 (.ext (.fn1 tFc .bool (fun x=>List.any (α:=FcT→Bool) l fun c=>c x))) rfl (seen_e1 l hl) ?_
 repeat' (first|refine zN ?_|refine zE ?_|refine zP ?_|refine pD ?_|refine zQ ?_|refine zR ?_|refine zW ?_)
 refine endR rfl ?_
 repeat' (first|exact trivial|exact rfl|refine ⟨rfl,?_⟩|refine And.intro ?_ ?_)
end Go.AM.YtbepaplaahcnkaaGreat.Ex
end
