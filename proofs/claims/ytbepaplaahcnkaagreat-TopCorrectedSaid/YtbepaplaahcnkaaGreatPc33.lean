/- BsB, TpG, AmBag, BsV. -/
import Derived.Test.YtbepaplaahcnkaaGreatPc32
import Derived.Test.YtbepaplaahcnkaaGreatPc30
import Derived.Test.YtbepaplaahcnkaaGreatPc31
import Derived.Test.YtbepaplaahcnkaaGreatPc19
import Derived.Test.YtbepaplaahcnkaaGreatPc17

set_option linter.all false
section
namespace Go.AM.YtbepaplaahcnkaaGreat.Bs
open Go.Proofs Go.AM.YtbepaplaahcnkaaGreat.Fc
set_option maxRecDepth 100000
set_option maxHeartbeats 8000000
def fDf:FcT:=tFc.dflt
theorem take_succ_getI {α:Type} {xs:List α} {d:α} {j:Nat} (h:j < xs.length):xs.take (j+1)=xs.take j++[getI xs d j]:=by
 have:getI xs d j=xs[j]:=by simp [getI,List.getD,List.getElem?_eq_getElem h]
 rw [List.take_succ_eq_append_getElem h,this]
def cmpLt {α:Type} (c:α→α→Int) (x y:α):Bool:=decide (c x y < 0)
def isortS:Spec:=⟨true,fun args rows=>match args,rows with
 | [.own 0,.int .i64 0,.int .i64 n,.ext (.fn2 (.pair (.int .i64) (.pair (.int .i64) (.pair (.int .i64) (.pair (.int .i64) (.pair .bool (.pair (.int .i64) (.pair (.int .i64) (.pair (.int .i64) (.pair (.int .i64) (.pair (.int .i64) (.pair (.int .i64) (.pair (.int .i64) (.pair (.int .i64) (.pair (.int .i64) (.pair (.int .i64) (.pair (.int .i64) (.pair (.int .i64) (.pair (.int .i64) .str)))))))))))))))))) (.int .i64) c)],[.seq (.pair (.int .i64) (.pair (.int .i64) (.pair (.int .i64) (.pair (.int .i64) (.pair .bool (.pair (.int .i64) (.pair (.int .i64) (.pair (.int .i64) (.pair (.int .i64) (.pair (.int .i64) (.pair (.int .i64) (.pair (.int .i64) (.pair (.int .i64) (.pair (.int .i64) (.pair (.int .i64) (.pair (.int .i64) (.pair (.int .i64) (.pair (.int .i64) .str)))))))))))))))))) xs] =>
   some ⟨List.length (α:=FcT) xs≤1000000∧n=List.length (α:=FcT) xs,.tup [],[.seq tFc (sortF fDf (cmpLt c) xs)],true⟩
 | _,_=>none⟩
theorem insSortOk:SpecSound Tryz.prog 175 isortS:=by
 refine soundR (envOf sigNil) Tryz.func175 (c:=body Tryz.f175) rfl (by kernel_rfl) rfl ?_
 intro args rows out hf hpre
 split at hf <;> try (cases hf;done)
 rename_i n c xs
 cases hf
 refine ⟨Nat.le_of_ble_eq_true rfl,initI (args:=[.own 0,.int .i64 0,.int .i64 n,.ext (.fn2 tFc (.int .i64) c)]) (rows:=[.seq tFc xs]) rfl ?_⟩
 obtain ⟨hlen,hn⟩:=hpre
 repeat' (first|refine zN ?_|refine zE ?_|refine zP ?_|refine pD ?_|refine zQ ?_|refine zR ?_|refine zW ?_)
 refine loopI (σ:=Nat) (fun i=>[(8,.int .i64 i)]) (fun i=>[(100000,.seq tFc (sortF fDf (cmpLt c) (List.take (α:=FcT) i xs)++List.drop (α:=FcT) i xs))]) (fun i=>1≤i∧(i≤List.length (α:=FcT) xs∨i=1)) (fun i=>List.length (α:=FcT) xs+1 - i) 1 rfl (fun _=>rfl) rfl ?_ ?_ ?_
 ·exact ⟨Nat.le_refl _,.inr rfl⟩
 ·repeat' (first|exact trivial|with_reducible exact rfl|refine And.intro ?_ ?_)
  all_goals first|rfl|exact sortF_one
 rintro i ⟨hi1,hi⟩
 repeat' (first|refine zN ?_|refine zE ?_|refine zP ?_|refine pD ?_|refine zQ ?_|refine zR ?_|refine zW ?_)
 refine condI rfl (fun c1=>?_) (fun c1=>?_)
 ·simp only [decide_eq_true_eq] at c1
  have hil:i < List.length (α:=FcT) xs:=by omega
  obtain ⟨x,hx⟩:∃ x:FcT,x=getI xs fDf i:=⟨_,rfl⟩
  obtain ⟨S,hS⟩:∃ S,S=sortF fDf (cmpLt c) (List.take (α:=FcT) i xs):=⟨_,rfl⟩
  obtain ⟨T,hT⟩:∃ T,T=List.drop (α:=FcT) (i+1) xs:=⟨_,rfl⟩
  have hSl:S.length=i:=by rw [hS,sortF_length,List.length_take];omega
  have hTl:T.length=List.length (α:=FcT) xs - (i+1):=by rw [hT,List.length_drop]
  have hd0:sortF fDf (cmpLt c) (List.take (α:=FcT) i xs)++List.drop (α:=FcT) i xs=dat S x T i:=by
   unfold dat
   have t1:S.take i=S:=List.take_of_length_le (by omega)
   have t2:S.drop i=[]:=List.drop_of_length_le (by omega)
   have:List.drop (α:=FcT) i xs=x::T:=by
    rw [hT,hx,List.drop_eq_getElem_cons hil]
    congr 1
    simp [getI,List.getD,List.getElem?_eq_getElem hil]
   rw [t1,t2,← hS,this]
   simp
  have hnext:insI fDf (cmpLt c) x S++T=sortF fDf (cmpLt c) (List.take (α:=FcT) (i+1) xs)++List.drop (α:=FcT) (i+1) xs:=by
   rw [hT,hS,← sortF_snoc,take_succ_getI (d:=fDf) hil,hx]
  rw [hd0]
  repeat' (first|refine zN ?_|refine zE ?_|refine zP ?_|refine pD ?_|refine zQ ?_|refine zR ?_|refine zW ?_)
  refine loopI (σ:=Nat) (fun j=>[(9,.int .i64 j)]) (fun j=>[(100000,.seq tFc (dat S x T j))]) (fun j=>j≤S.length∧posI fDf (cmpLt c) x S S.length=posI fDf (cmpLt c) x S j) (fun j=>j) i rfl (fun _=>rfl) rfl ?_ ?_ ?_
  ·exact ⟨by omega,by rw [hSl]⟩
  ·repeat' (first|exact trivial|exact rfl|refine ⟨rfl,?_⟩|refine And.intro ?_ ?_)
  rintro j ⟨hj,hp⟩
  have hdl:=dat_len (S:=S) (T:=T) (x:=x) (j:=j)
  repeat' (first|refine zN ?_|refine zE ?_|refine zP ?_|refine pD ?_|refine pC (by exact fun h=>by have:=of_decide_eq_true h;omega) ?_|refine zQ ?_|refine zR ?_|refine zW ?_)
  refine condI rfl (fun c2=>?_) (fun c2=>?_)
  ·have c2':(decide (0 < (j:Int))&&decide (c (getI (dat S x T j) fDf ((j:Int)).toNat) (getI (dat S x T j) fDf ((j:Int) - 1).toNat) < 0))=true:=c2
   simp only [Bool.and_eq_true,decide_eq_true_eq] at c2'
   obtain ⟨k,rfl⟩:∃ k,j=k+1:=⟨j - 1,by omega⟩
   have e1:(((k+1:Nat):Int)).toNat=k+1:=by omega
   have e2:(((k+1:Nat):Int) - 1).toNat=k:=by omega
   rw [e1,e2,dat_at hj,dat_lo hj] at c2'
   have hpk:posI fDf (cmpLt c) x S (k+1)=posI fDf (cmpLt c) x S k:=by
    show (bif cmpLt c x (getI S fDf k) then posI fDf (cmpLt c) x S k else k+1)=posI fDf (cmpLt c) x S k
    rw [show cmpLt c x (getI S fDf k)=true from decide_eq_true c2'.2]
    rfl
   repeat' (first|refine zN ?_|refine zE ?_|refine zP ?_|refine pD ?_|refine pC (by first|omega|(rw [List.length_set];omega)) ?_|refine zQ ?_|refine zR ?_|refine zW ?_)
   refine roundI k rfl ?_ ?_ ?_
   ·exact ⟨by omega,hp.trans hpk⟩
   ·show k < k+1
    omega
   ·repeat' (first|exact trivial|with_reducible exact rfl|refine And.intro ?_ ?_)
    all_goals first|rfl|skip
    ·omega
    ·rw [e1,e2]
     exact (dat_swap hj).symm
  ·have c2':(decide (0 < (j:Int))&&decide (c (getI (dat S x T j) fDf ((j:Int)).toNat) (getI (dat S x T j) fDf ((j:Int) - 1).toNat) < 0))=false:=c2
   have hpj:posI fDf (cmpLt c) x S j=j:=by
    cases j with
    | zero=>rfl
    | succ k =>
      have e1:(((k+1:Nat):Int)).toNat=k+1:=by omega
      have e2:(((k+1:Nat):Int) - 1).toNat=k:=by omega
      rw [e1,e2,dat_at hj,dat_lo hj] at c2'
      simp only [Bool.and_eq_false_iff,decide_eq_false_iff_not] at c2'
      show (bif cmpLt c x (getI S fDf k) then posI fDf (cmpLt c) x S k else k+1)=k+1
      rw [show cmpLt c x (getI S fDf k)=false from decide_eq_false (by rcases c2' with h|h;exact absurd (by omega) h;exact h)]
      rfl
   have hins:dat S x T j=insI fDf (cmpLt c) x S++T:=by
    unfold dat insI
    rw [hp,hpj]
   repeat' (first|refine zN ?_|refine zE ?_|refine zP ?_|refine pD ?_|refine zQ ?_|refine zR ?_|refine zW ?_)
   refine roundI (i+1) rfl ?_ ?_ ?_
   ·exact ⟨by show 1≤i+1;omega,.inl (by show i+1≤List.length (α:=FcT) xs;omega)⟩
   ·show List.length (α:=FcT) xs+1 - (i+1) < List.length (α:=FcT) xs+1 - i
    omega
   ·repeat' (first|exact trivial|with_reducible exact rfl|refine And.intro ?_ ?_)
    all_goals first|rfl|exact (hins.trans hnext).symm
 ·simp only [decide_eq_false_iff_not] at c1
  repeat' (first|refine zN ?_|refine zE ?_|refine zP ?_|refine pD ?_|refine zQ ?_|refine zR ?_|refine zW ?_)
  refine endN rfl ?_
  repeat' (first|exact trivial|with_reducible exact rfl|refine And.intro ?_ ?_)
  all_goals first|rfl|skip
  rw [List.take_of_length_le (by omega),List.drop_of_length_le (by omega),List.append_nil]
def stabS:Spec:=⟨true,fun args rows=>match args,rows with
 | [.own 0,.int .i64 n,.ext (.fn2 (.pair (.int .i64) (.pair (.int .i64) (.pair (.int .i64) (.pair (.int .i64) (.pair .bool (.pair (.int .i64) (.pair (.int .i64) (.pair (.int .i64) (.pair (.int .i64) (.pair (.int .i64) (.pair (.int .i64) (.pair (.int .i64) (.pair (.int .i64) (.pair (.int .i64) (.pair (.int .i64) (.pair (.int .i64) (.pair (.int .i64) (.pair (.int .i64) .str)))))))))))))))))) (.int .i64) c)],[.seq (.pair (.int .i64) (.pair (.int .i64) (.pair (.int .i64) (.pair (.int .i64) (.pair .bool (.pair (.int .i64) (.pair (.int .i64) (.pair (.int .i64) (.pair (.int .i64) (.pair (.int .i64) (.pair (.int .i64) (.pair (.int .i64) (.pair (.int .i64) (.pair (.int .i64) (.pair (.int .i64) (.pair (.int .i64) (.pair (.int .i64) (.pair (.int .i64) .str)))))))))))))))))) xs] =>
   some ⟨List.length (α:=FcT) xs≤19∧n=List.length (α:=FcT) xs,.tup [],[.seq tFc (sortF fDf (cmpLt c) xs)],true⟩
 | _,_=>none⟩
def sigStab:List (Nat × Spec):=[(175,isortS)]
theorem sigStabOk:SigOk Tryz.prog (look sigStab):=sigCons sigNil Tryz.func175 (by kernel_rfl) (c:=body Tryz.f175) rfl insSortOk
theorem stabOk:SpecSound Tryz.prog 141 stabS:=by
 refine soundR (envOf sigStabOk) Tryz.func141 (c:=body Tryz.f141) rfl (by kernel_rfl) rfl ?_
 intro args rows out hf hpre
 split at hf <;> try (cases hf;done)
 rename_i n c xs
 cases hf
 refine ⟨Nat.le_of_ble_eq_true rfl,initI (args:=[.own 0,.int .i64 n,.ext (.fn2 tFc (.int .i64) c)]) (rows:=[.seq tFc xs]) rfl ?_⟩
 obtain ⟨hlen,hn⟩:=hpre
 repeat' (first|refine zN ?_|refine zE ?_|refine zP ?_|refine pD ?_|refine zQ ?_|refine zR ?_|refine zW ?_)
 refine loopI (σ:=Unit) (fun u=>[]) (fun u=>[]) (fun u=>True) (fun u=>0) () rfl (fun _=>rfl) rfl ?_ ?_ ?_
 ·trivial
 ·repeat' (first|exact trivial|exact rfl|refine ⟨rfl,?_⟩|refine And.intro ?_ ?_)
 rintro ⟨⟩ _
 repeat' (first|refine zN ?_|refine zE ?_|refine zP ?_|refine pD ?_|refine zQ ?_|refine zR ?_|refine zW ?_)
 refine condI rfl (fun c1=>?_) (fun c1=>?_)
 ·exfalso
  simp only [decide_eq_true_eq] at c1
  omega
 ·repeat' (first|refine zN ?_|refine zE ?_|refine zP ?_|refine pD ?_|refine pC (by exact ⟨by omega,hn⟩) ?_|refine zQ ?_|refine zR ?_|refine zW ?_)
  refine loopI (σ:=Unit) (fun u=>[]) (fun u=>[]) (fun u=>True) (fun u=>0) () rfl (fun _=>rfl) rfl ?_ ?_ ?_
  ·trivial
  ·repeat' (first|exact trivial|exact rfl|refine ⟨rfl,?_⟩|refine And.intro ?_ ?_)
  rintro ⟨⟩ _
  repeat' (first|refine zN ?_|refine zE ?_|refine zP ?_|refine pD ?_|refine zQ ?_|refine zR ?_|refine zW ?_)
  refine condI rfl (fun c2=>?_) (fun c2=>?_)
  ·exfalso
   simp only [decide_eq_true_eq] at c2
   omega
  ·repeat' (first|refine zN ?_|refine zE ?_|refine zP ?_|refine pD ?_|refine zQ ?_|refine zR ?_|refine zW ?_)
   refine endN rfl ?_
   repeat' (first|exact trivial|with_reducible exact rfl|refine And.intro ?_ ?_)
   all_goals rfl
def sortS:Spec:=⟨true,fun args rows=>match args,rows with
 | [.own 0,.ext (.fn2 (.pair (.int .i64) (.pair (.int .i64) (.pair (.int .i64) (.pair (.int .i64) (.pair .bool (.pair (.int .i64) (.pair (.int .i64) (.pair (.int .i64) (.pair (.int .i64) (.pair (.int .i64) (.pair (.int .i64) (.pair (.int .i64) (.pair (.int .i64) (.pair (.int .i64) (.pair (.int .i64) (.pair (.int .i64) (.pair (.int .i64) (.pair (.int .i64) .str)))))))))))))))))) (.int .i64) c)],[.seq (.pair (.int .i64) (.pair (.int .i64) (.pair (.int .i64) (.pair (.int .i64) (.pair .bool (.pair (.int .i64) (.pair (.int .i64) (.pair (.int .i64) (.pair (.int .i64) (.pair (.int .i64) (.pair (.int .i64) (.pair (.int .i64) (.pair (.int .i64) (.pair (.int .i64) (.pair (.int .i64) (.pair (.int .i64) (.pair (.int .i64) (.pair (.int .i64) .str)))))))))))))))))) xs] =>
   some ⟨List.length (α:=FcT) xs≤19,.tup [],[.seq tFc (sortF fDf (cmpLt c) xs)],true⟩
 | _,_=>none⟩
def sigSort:List (Nat × Spec):=[(141,stabS)]
theorem sigSortOk:SigOk Tryz.prog (look sigSort):=sigCons sigNil Tryz.func141 (by kernel_rfl) (c:=body Tryz.f141) rfl stabOk
theorem sortOk:SpecSound Tryz.prog 69 sortS:=by
 refine soundR (envOf sigSortOk) Tryz.func69 (c:=body Tryz.f69) rfl (by kernel_rfl) rfl ?_
 intro args rows out hf hpre
 split at hf <;> try (cases hf;done)
 rename_i c xs
 cases hf
 refine ⟨Nat.le_of_ble_eq_true rfl,initI (args:=[.own 0,.ext (.fn2 tFc (.int .i64) c)]) (rows:=[.seq tFc xs]) rfl ?_⟩
 change List.length (α:=FcT) xs≤19 at hpre
 repeat' (first|refine zN ?_|refine zE ?_|refine zP ?_|refine pD ?_|refine pC (by exact ⟨hpre,rfl⟩) ?_|refine zQ ?_|refine zR ?_|refine zW ?_)
 refine endN rfl ?_
 repeat' (first|exact trivial|with_reducible exact rfl|refine And.intro ?_ ?_)
 all_goals rfl
theorem callF {f : Nat} {fn : Func} {c : Code} (hf : Tryz.prog.funcs[f]? = some fn) (hname : (fn.name == "runtime.NumGoroutine") = false) (hb : fn.body = some c) : ∀ args w, (callFunc f args).run PG w = .ok (.enter f args) w := fun args w => by
 have h1 : fn.name ≠ "runtime.NumGoroutine" := by simpa using hname
 have hf':PG.funcs[f]?=some fn:=hf
 simp [callFunc,hf',h1,hb]
def isOrdB (n:Nat):Bool:=Nat.beq n 54||Nat.beq n 58||Nat.beq n 60||Nat.beq n 64||Nat.beq n 67
theorem isOrdB_spec {n:Nat} (h:isOrdB n=true):isOrd n:=by
 unfold isOrdB at h
 simp only [Bool.or_eq_true] at h
 unfold isOrd
 rcases h with (((h|h)|h)|h)|h
 ·exact .inl (Nat.eq_of_beq_eq_true h)
 ·exact .inr (.inl (Nat.eq_of_beq_eq_true h))
 ·exact .inr (.inr (.inl (Nat.eq_of_beq_eq_true h)))
 ·exact .inr (.inr (.inr (.inl (Nat.eq_of_beq_eq_true h))))
 ·exact .inr (.inr (.inr (.inr (Nat.eq_of_beq_eq_true h))))
theorem seen_s {n:Nat} (h:isOrd n):Seen (.fn 70 [] [.el .code [n] 0 0]) (.ext (.fn2 tFc (.int .i64) (ordC n))):=seen2 srt1Ok (callF Tryz.func70 (by kernel_rfl) (c:=body Tryz.f70) rfl) rfl rfl rfl rfl fun x y=>⟨_,rfl,h,rfl⟩
def seeS:List AV→List AV
 | [x,.fn 70 [] [.el .code [n] 0 0]]=>match isOrdB n with
   | true=>[x,.ext (.fn2 tFc (.int .i64) (ordC n))]
   | false=>[x,.fn 70 [] [.el .code [n] 0 0]]
 | l=>l
theorem seeS_rel:∀ (g:Nat→Gh) (K R:Nat→Prop) (w:World) (args:List AV) (vals:List Value),RelL g K R w args vals→RelL g K R w (seeS args) vals:=by
 intro g K R w args vals h
 unfold seeS
 split
 ·rename_i x n
  cases hn:isOrdB n
  ·exact h
  ·cases h with
   | cons h1 h2 =>
   cases h2 with
   | cons h2 h3=>exact .cons h1 (.cons (seen_s (isOrdB_spec hn) _ _ _ _ _ h2) h3)
 ·exact h
def sortK:Spec:=⟨true,fun args rows=>sortS.f (seeS args) rows⟩
def sigSd:List (Nat × Spec):=[(69,sortK)]
theorem sigSdOk:SigOk Tryz.prog (look sigSd):=sigCons sigNil Tryz.func69 (by kernel_rfl) (c:=body Tryz.f69) rfl (sortOk.see seeS seeS_rel)
def sortedS:Spec:=⟨true,fun args rows=>match args,rows with
 | [.own 0,.fn n [] []],[.seq (.pair (.int .i64) (.pair (.int .i64) (.pair (.int .i64) (.pair (.int .i64) (.pair .bool (.pair (.int .i64) (.pair (.int .i64) (.pair (.int .i64) (.pair (.int .i64) (.pair (.int .i64) (.pair (.int .i64) (.pair (.int .i64) (.pair (.int .i64) (.pair (.int .i64) (.pair (.int .i64) (.pair (.int .i64) (.pair (.int .i64) (.pair (.int .i64) .str)))))))))))))))))) xs]=>some ⟨List.length (α:=FcT) xs≤19∧isOrd n,.tup [],[.seq tFc (sortF fDf (cmpLt (ordC n)) xs)],true⟩
 | _,_=>none⟩
theorem sortedOk:SpecSound Tryz.prog 24 sortedS:=by
 refine soundR (envOf sigSdOk) Tryz.func24 (c:=body Tryz.f24) rfl (by kernel_rfl) rfl ?_
 intro args rows out hf hpre
 split at hf <;> try (cases hf;done)
 rename_i n xs
 cases hf
 refine ⟨Nat.le_of_ble_eq_true rfl,initI (args:=[.own 0,.fn n [] []]) (rows:=[.seq tFc xs]) rfl ?_⟩
 obtain ⟨hl,hn⟩:=hpre
 have hl:List.length (α:=FcT) xs≤19:=hl
 have hno:=hn
 unfold isOrd at hn
 rcases hn with rfl|rfl|rfl|rfl|rfl
 all_goals
  repeat' (first|refine zN ?_|refine zE ?_|refine zP ?_|refine zS ?_|refine zO ?_|refine zW ?_)
  refine zR ?_
  repeat' (first|with_reducible refine pN ?_|refine pD ?_|fail)
  repeat with_reducible refine cN ?_
  refine freezeBoxI 3 .code rfl ?_
  repeat' (first|refine zN ?_|refine zE ?_|refine zP ?_|refine pD ?_|refine pC (by exact hl) ?_|refine zQ ?_|refine zR ?_|refine zW ?_)
  refine endN rfl ?_
  repeat' (first|exact trivial|with_reducible exact rfl|refine And.intro ?_ ?_)
  all_goals rfl
end Go.AM.YtbepaplaahcnkaaGreat.Bs
end

section
namespace Go.AM.YtbepaplaahcnkaaGreat.Tp
open Go.Proofs Go.AM.YtbepaplaahcnkaaGreat.Fc
set_option maxRecDepth 100000
set_option maxHeartbeats 8000000
theorem pick17Ok:SpecSound Tryz.prog 14 pickP:=by
 refine soundP (envOf sigNil) Tryz.func14 (c:=body Tryz.f14) rfl (by kernel_rfl) rfl ?_
 intro args out hf hpre
 split at hf <;> try (cases hf;done)
 rename_i c n
 cases hf
 refine ⟨Nat.le_of_ble_eq_true rfl,initI rfl ?_⟩
 refine factInt (t:=0) rfl (fun hc=>?_)
 have hc:=wrap64 hc
 change 0 < n at hpre
 repeat' (first|refine zN ?_|refine zE ?_|refine zP ?_|refine pD ?_|refine zQ ?_|refine zR ?_|refine zW ?_)
 refine condI rfl (fun c1=>?_) (fun c1=>?_)
 ·simp only [decide_eq_true_eq] at c1
  repeat' (first|refine zN ?_|refine zE ?_|refine zP ?_|refine pD ?_|refine zQ ?_|refine zR ?_|refine zW ?_)
  refine endR rfl ?_
  repeat' (first|exact trivial|exact rfl|refine ⟨rfl,?_⟩|refine And.intro ?_ ?_)
  exact pickF_neg hpre c1
 ·simp only [decide_eq_false_iff_not] at c1
  repeat' (first|refine zN ?_|refine zE ?_|refine zP ?_|refine pD ?_|refine zQ ?_|refine zR ?_|refine zW ?_)
  refine endR rfl ?_
  repeat' (first|exact trivial|exact rfl|refine ⟨rfl,?_⟩|refine And.intro ?_ ?_)
  exact pickF_pos hpre c1
abbrev t6:Ty:=.pair (.int .i64) (.pair (.int .i64) (.pair (.int .i64) (.pair (.int .i64) (.pair (.int .i64) (.int .i64)))))
abbrev t3:Ty:=.pair (.int .i64) (.pair (.int .i64) (.int .i64))
abbrev I6:Type:=Int × Int × Int × Int × Int × Int
abbrev I3:Type:=Int × Int × Int
def smP (y:I6):FcT:=(1,1+pickF y.2.2.1 12,1+pickF (Int.tdiv y.1 4) 3,pickF y.2.1 10,decide (pickF (Int.tdiv y.2.1 10) 6=0),pickF y.2.2.2.2.1 50,pickF y.2.2.2.2.1 50+5,1+pickF y.2.2.2.1 6,0,0,0,pickF y.2.2.2.2.2 3,0,pickF (Int.tdiv y.2.2.2.2.2 3) 4,1,1,0,0,(⟨#[]⟩:ByteArray))
def smS (y:I6):FcT:=(3,1+pickF y.2.2.1 12,1+pickF (Int.tdiv y.1 4) 3,pickF y.2.1 10,decide (pickF (Int.tdiv y.2.1 10) 6=0),pickF y.2.2.2.2.1 50,0,1+pickF y.2.2.2.1 6,1+Int.tmod (1+pickF y.2.2.2.1 6+pickF y.2.2.2.2.2 5) 6,0,0,0,0,0,0,0,0,0,(⟨#[]⟩:ByteArray))
def smL (y:I6):FcT:=(4,0,1+pickF (Int.tdiv y.1 4) 3,pickF y.2.1 10,decide (pickF (Int.tdiv y.2.1 10) 6=0),pickF y.2.2.2.2.1 50,0,1+pickF y.2.2.2.1 6,0,1+pickF y.2.2.2.2.2 3,1+pickF (Int.tdiv y.2.2.2.2.2 3) 2,0,0,0,0,0,0,0,(⟨#[]⟩:ByteArray))
def someF (y:I6):FcT:=bif decide (pickF y.1 4=0)||decide (pickF y.1 4=1) then smP y else bif decide (pickF y.1 4=2) then smS y else smL y
def someX (x:List I6):List FcT:=(x.take 30).map someF
def gapF (i:Nat) (y:I3):FcT:=(11,1+(i:Int),1,0,false,pickF y.2.1 60,pickF y.2.1 60+pickF y.2.2 20,0,0,0,0,pickF y.1 3,0,0,0,0,0,0,(⟨#[]⟩:ByteArray))
def gapsN (y:List I3) (n:Nat):List FcT:=(List.range n).map fun i=>gapF i (getI y (Ty.dflt t3) i)
def gapsX (y:List I3):List FcT:=gapsN y (min y.length 5)
def sigS17:List (Nat × Spec):=[(14,pickP)]
theorem sigS17Ok:SigOk Tryz.prog (look sigS17):=sigCons sigNil Tryz.func14 (by kernel_rfl) (c:=body Tryz.f14) rfl pick17Ok
def someS:Spec:=plain fun
 | [.sl (.pair (.int .i64) (.pair (.int .i64) (.pair (.int .i64) (.pair (.int .i64) (.pair (.int .i64) (.int .i64)))))) x]=>some ⟨True,.own 0,[.seq tFc (someX x)],false⟩
 | _=>none
theorem some_next {x:List I6} {i:Nat} (h:i < x.length) (h30:i < 30):someX (x.take (i+1))=someX (x.take i)++[someF (getI x (Ty.dflt t6) i)]:=by
 unfold someX
 rw [List.take_take,List.take_take,Nat.min_eq_right (by omega),Nat.min_eq_right (by omega),Bs.take_succ_getI (d:=Ty.dflt t6) h,List.map_append]
 rfl
theorem someOk17:SpecSound Tryz.prog 5 someS:=by
 refine soundP (envOf sigS17Ok) Tryz.func5 (c:=body Tryz.f5) rfl (by kernel_rfl) rfl ?_
 intro args out hf hpre
 split at hf <;> try (cases hf;done)
 rename_i x
 cases hf
 refine ⟨Nat.le_of_ble_eq_true rfl,initI (args:=[.sl t6 x]) rfl ?_⟩
 refine factSl (t:=0) (ty:=t6) rfl (fun hxs=>?_)
 have hmx:List.length (α:=I6) x≤9223372036854775807:=by have:=hxs.1;unfold maxLen at this;exact this
 repeat' (first|refine zN ?_|refine zE ?_|refine zP ?_|refine pD ?_|refine zQ ?_|refine zR ?_|refine zW ?_)
 refine loopI (σ:=Nat) (fun i=>[(4,.int .i64 i),(3,.own 5000)]) (fun i=>[(5000,.seq tFc (someX (List.take (α:=I6) i x)))]) (fun i=>i≤List.length (α:=I6) x∧i≤30) (fun i=>30 - i) 0 rfl (fun _=>rfl) rfl ?_ ?_ ?_
 ·exact ⟨Nat.zero_le _,Nat.zero_le _⟩
 ·repeat' (first|exact trivial|with_reducible exact rfl|refine And.intro ?_ ?_)
  all_goals rfl
 rintro i ⟨hi,hi30⟩
 repeat' (first|refine zN ?_|refine zE ?_|refine zP ?_|refine pD ?_|refine zQ ?_|refine zR ?_|refine zW ?_)
 refine condI rfl (fun c1=>?_) (fun c1=>?_)
 ·have c1:(decide ((i:Int) < (List.length (α:=I6) x:Int))&&decide ((i:Int) < 30))=true:=c1
  simp only [Bool.and_eq_true,decide_eq_true_eq] at c1
  have hil:i < List.length (α:=I6) x:=by omega
  have hin:((i:Int)).toNat=i:=by omega
  have hnx:=some_next hil (by omega)
  have hln:(someX (List.take (α:=I6) i x)).length≤30:=by unfold someX;rw [List.length_map];exact List.length_take_le _ _
  obtain ⟨y,hy⟩:∃ y:I6,y=getI x (Ty.dflt t6) i:=⟨_,rfl⟩
  rw [← hy] at hnx
  have hok:∀ n:Int,IntKind.wrap .i64 n=n→-9223372036854775808≤n∧n≤9223372036854775807:=fun n h=>wrap64 h
  have q0:=pick_b (c:=y.1) (n:=4) (by decide)
  have q1:=pick_b (c:=Int.tdiv y.1 4) (n:=3) (by decide)
  have q2:=pick_b (c:=y.2.1) (n:=10) (by decide)
  have q3:=pick_b (c:=y.2.2.1) (n:=12) (by decide)
  have q4:=pick_b (c:=y.2.2.2.1) (n:=6) (by decide)
  have q5:=pick_b (c:=y.2.2.2.2.1) (n:=50) (by decide)
  have q6:=pick_b (c:=y.2.2.2.2.2) (n:=3) (by decide)
  have q7:=pick_b (c:=Int.tdiv y.2.2.2.2.2 3) (n:=4) (by decide)
  have q8:=pick_b (c:=y.2.2.2.2.2) (n:=5) (by decide)
  have q9:=pick_b (c:=Int.tdiv y.2.2.2.2.2 3) (n:=2) (by decide)
  have q10:0≤Int.tmod (1+pickF y.2.2.2.1 6+pickF y.2.2.2.2.2 5) 6∧Int.tmod (1+pickF y.2.2.2.1 6+pickF y.2.2.2.2.2 5) 6 < 6:=by
   rw [Int.tmod_eq_emod_of_nonneg (by omega)]
   omega
  repeat' (first|refine zN ?_|refine zE ?_|refine zP ?_|refine zQ ?_|refine zW ?_)
  refine zR ?_
  repeat' (first|with_reducible refine pN ?_|refine pD ?_|fail)
  repeat with_reducible refine cN ?_
  simp only [hin]
  rw [← hy]
  repeat' (first|refine zN ?_|refine zE ?_|refine zP ?_|refine zQ ?_|refine zW ?_)
  refine zR ?_
  repeat' (first|with_reducible refine pN ?_|refine pD ?_|refine pC (by first|decide|(unfold In64;omega)) ?_)
  repeat with_reducible refine cN ?_
  repeat' (first|refine zN ?_|refine zE ?_|refine zP ?_|refine zQ ?_|refine zW ?_)
  refine zR ?_
  repeat' (first|with_reducible refine pN ?_|refine pD ?_|refine pC (by decide) ?_)
  repeat with_reducible refine cN ?_
  have hkk:pickF y.1 4=0∨pickF y.1 4=1∨pickF y.1 4=2∨pickF y.1 4=3:=by omega
  have hsf:someF y=bif decide (pickF y.1 4=0)||decide (pickF y.1 4=1) then smP y else bif decide (pickF y.1 4=2) then smS y else smL y:=rfl
  rw [hsf] at hnx
  generalize pickF y.1 4=K at *
  rcases hkk with rfl|rfl|rfl|rfl
  all_goals
   repeat' (first|refine zN ?_|refine zE ?_|refine zP ?_|refine pD ?_|refine pC (by first|decide|(unfold In64;omega)) ?_|refine zQ ?_|refine zR ?_|refine zW ?_)
   first|refine condT rfl ?_|refine condF rfl ?_
   repeat' (first|refine zN ?_|refine zE ?_|refine zP ?_|refine pD ?_|refine pC (by first|decide|(unfold In64;omega)) ?_|refine zQ ?_|refine zR ?_|refine zW ?_)
   first|refine condT rfl ?_|refine condF rfl ?_
   repeat' (first|refine zN ?_|refine zE ?_|refine zP ?_|refine pD ?_|refine pC (by first|decide|(unfold In64;omega)|(show (_+1) * _≤_;omega)) ?_|refine zQ ?_|refine zR ?_|refine zW ?_)
   try (first|refine condT rfl ?_|refine condF rfl ?_)
   repeat' (first|refine zN ?_|refine zE ?_|refine zP ?_|refine pD ?_|refine pC (by first|decide|(unfold In64;omega)|(show (_+1) * _≤_;omega)) ?_|refine zQ ?_|refine zR ?_|refine zW ?_)
   refine roundI (i+1) rfl ?_ ?_ ?_
   ·exact ⟨by show i+1≤List.length (α:=I6) x;omega,by show i+1≤30;omega⟩
   ·show 30 - (i+1) < 30 - i
    omega
   ·repeat' (first|exact trivial|with_reducible exact rfl|refine And.intro ?_ ?_)
    all_goals first|rfl|exact hnx
 ·have c1:(decide ((i:Int) < (List.length (α:=I6) x:Int))&&decide ((i:Int) < 30))=false:=c1
  have he:someX (List.take (α:=I6) i x)=someX x:=by
   unfold someX
   simp only [Bool.and_eq_false_iff,decide_eq_false_iff_not] at c1
   rcases c1 with h|h
   ·rw [List.take_of_length_le (i:=i) (by omega)]
   ·rw [List.take_take,Nat.min_eq_left (by omega)]
  rw [he]
  repeat' (first|refine zN ?_|refine zE ?_|refine zP ?_|refine pD ?_|refine zQ ?_|refine zR ?_|refine zW ?_)
  refine endR rfl ?_
  repeat' (first|exact trivial|exact rfl|refine ⟨rfl,?_⟩|refine And.intro ?_ ?_)
def sigPk:List (Nat × Spec):=[(7,pickP)]
theorem sigPkOk:SigOk Tryz.prog (look sigPk):=sigCons sigNil Tryz.func7 (by kernel_rfl) (c:=body Tryz.f7) rfl pickTOk
def gapsS:Spec:=plain fun
 | [.sl (.pair (.int .i64) (.pair (.int .i64) (.int .i64))) y]=>some ⟨True,.own 0,[.seq tFc (gapsX y)],false⟩
 | _=>none
theorem gaps_next {y:List I3} {i:Nat}:gapsN y (i+1)=gapsN y i++[gapF i (getI y (Ty.dflt t3) i)]:=by
 unfold gapsN
 rw [List.range_succ,List.map_append]
 rfl
theorem gapsOk:SpecSound Tryz.prog 6 gapsS:=by
 refine soundP (envOf sigPkOk) Tryz.func6 (c:=body Tryz.f6) rfl (by kernel_rfl) rfl ?_
 intro args out hf hpre
 split at hf <;> try (cases hf;done)
 rename_i y
 cases hf
 refine ⟨Nat.le_of_ble_eq_true rfl,initI (args:=[.sl t3 y]) rfl ?_⟩
 refine factSl (t:=0) (ty:=t3) rfl (fun hxs=>?_)
 have hmx:List.length (α:=I3) y≤9223372036854775807:=by have:=hxs.1;unfold maxLen at this;exact this
 repeat' (first|refine zN ?_|refine zE ?_|refine zP ?_|refine pD ?_|refine zQ ?_|refine zR ?_|refine zW ?_)
 refine loopI (σ:=Nat) (fun i=>[(4,.int .i64 i),(3,.own 5000)]) (fun i=>[(5000,.seq tFc (gapsN y i))]) (fun i=>i≤List.length (α:=I3) y∧i≤5) (fun i=>5 - i) 0 rfl (fun _=>rfl) rfl ?_ ?_ ?_
 ·exact ⟨Nat.zero_le _,Nat.zero_le _⟩
 ·repeat' (first|exact trivial|with_reducible exact rfl|refine And.intro ?_ ?_)
  all_goals rfl
 rintro i ⟨hi,hi5⟩
 repeat' (first|refine zN ?_|refine zE ?_|refine zP ?_|refine pD ?_|refine zQ ?_|refine zR ?_|refine zW ?_)
 refine condI rfl (fun c1=>?_) (fun c1=>?_)
 ·have c1:(decide ((i:Int) < (List.length (α:=I3) y:Int))&&decide ((i:Int) < 5))=true:=c1
  simp only [Bool.and_eq_true,decide_eq_true_eq] at c1
  have hil:i < List.length (α:=I3) y:=by omega
  have hin:((i:Int)).toNat=i:=by omega
  have hnx:=gaps_next (y:=y) (i:=i)
  have hln:(gapsN y i).length≤5:=by unfold gapsN;rw [List.length_map,List.length_range];exact hi5
  obtain ⟨v,hv⟩:∃ v:I3,v=getI y (Ty.dflt t3) i:=⟨_,rfl⟩
  rw [← hv] at hnx
  have q1:=pick_b (c:=v.1) (n:=3) (by decide)
  have q2:=pick_b (c:=v.2.1) (n:=60) (by decide)
  have q3:=pick_b (c:=v.2.2) (n:=20) (by decide)
  repeat' (first|refine zN ?_|refine zE ?_|refine zP ?_|refine pD ?_|refine pC (by first|decide|(unfold In64;omega)|(show (_+1) * _≤_;omega)|(simp only [hin,← hv];first|decide|(unfold In64;omega))) ?_|refine zQ ?_|refine zR ?_|refine zW ?_)
  refine roundI (i+1) rfl ?_ ?_ ?_
  ·exact ⟨by show i+1≤List.length (α:=I3) y;omega,by show i+1≤5;omega⟩
  ·show 5 - (i+1) < 5 - i
   omega
  ·repeat' (first|exact trivial|with_reducible exact rfl|refine And.intro ?_ ?_)
   all_goals first|rfl|(rw [hnx,hv];simp only [hin];rfl)
 ·have c1:(decide ((i:Int) < (List.length (α:=I3) y:Int))&&decide ((i:Int) < 5))=false:=c1
  have he:gapsN y i=gapsX y:=by
   unfold gapsX
   simp only [Bool.and_eq_false_iff,decide_eq_false_iff_not] at c1
   congr 1
   omega
  rw [he]
  repeat' (first|refine zN ?_|refine zE ?_|refine zP ?_|refine pD ?_|refine zQ ?_|refine zR ?_|refine zW ?_)
  refine endR rfl ?_
  repeat' (first|exact trivial|exact rfl|refine ⟨rfl,?_⟩|refine And.intro ?_ ?_)
def spanS:Spec:=plain fun
 | [.agg [.int .i64 a,.int .i64 b,.int .i64 c,.int .i64 d]]=>outV True (.agg [.int .i64 (pickF a 3),.int .i64 0,.int .i64 (pickF b 60),.int .i64 (pickF b 60+pickF c 30),.int .i64 (pickF d 6)])
 | _=>none
theorem spanOk:SpecSound Tryz.prog 8 spanS:=by
 refine soundP (envOf sigPkOk) Tryz.func8 (c:=body Tryz.f8) rfl (by kernel_rfl) rfl ?_
 intro args out hf hpre
 split at hf <;> try (cases hf;done)
 rename_i a b c d
 cases hf
 refine ⟨Nat.le_of_ble_eq_true rfl,initI (args:=[.agg [.int .i64 a,.int .i64 b,.int .i64 c,.int .i64 d]]) rfl ?_⟩
 have q2:=pick_b (c:=b) (n:=60) (by decide)
 have q3:=pick_b (c:=c) (n:=30) (by decide)
 repeat' (first|refine zN ?_|refine zE ?_|refine zP ?_|refine pD ?_|refine pC (by first|decide|(unfold In64;omega)) ?_|refine zQ ?_|refine zR ?_|refine zW ?_)
 refine endR rfl ?_
 repeat' (first|exact trivial|exact rfl|refine ⟨rfl,?_⟩|refine And.intro ?_ ?_)
end Go.AM.YtbepaplaahcnkaaGreat.Tp
end

section
namespace Go.AM
section
variable {tt:TT} {S:Nat→Option Spec} {E:Env PG tt S} {K:List Nat} {c:Code} {st:St} {Q:AExit→St→Prop}
theorem bagI (r:Nat) {t:Ty} {xs:List t.El} (hr:look st.rows r=some (.bag t xs)) (x:∀ ys:List t.El,ys.Perm xs→WP E K c ⟨st.n,st.slots,st.gt,st.ks,(r,.seq t ys)::st.rows⟩ Q):WP E K c st Q:=fun hc C g R a w Z hrel hq=>by
 obtain ⟨ys,h1,h2⟩:=hrel.heap.held r _ hr
 exact x ys h1 hc C g R a w Z (hrel.reRow hr (fun _ h=>h) h2) hq
theorem yldI (r:Nat) {t:Ty} {two:Bool} {Y:YD t} {p:List t.El} (q:List t.El) (hr:look st.rows r=some (.yld t two Y p)) (hJ:∀ O R w,Y.J p O R w→Y.J q O R w)
 (x:WP E K c ⟨st.n,st.slots,st.gt,st.ks,(r,.yld t two Y q)::st.rows⟩ Q):WP E K c st Q:=fun hc C g R a w Z hrel hq=>by
 obtain ⟨h1,h2⟩:=hrel.heap.held r _ hr
 exact x hc C g R a w Z (hrel.reRow hr (fun _ h=>h) ⟨h1,hJ _ _ _ h2⟩) hq
theorem mapPermI (r:Nat) {k v:Ty} {l:List (k.El × v.El)} (m:List (k.El × v.El)) (hr:look st.rows r=some (.map k v l)) (hp:l.Perm m) (x:WP E K c ⟨st.n,st.slots,st.gt,st.ks,(r,.map k v m)::st.rows⟩ Q):WP E K c st Q:=fun hc C g R a w Z hrel hq=>by
 obtain ⟨b,es,clock,h1,h2,h3⟩:=hrel.heap.held r _ hr
 obtain ⟨l',h4,h5⟩:=h3.rel
 exact x hc C g R a w Z (hrel.reRow hr (fun _ h=>h) ⟨b,es,clock,h1,h2,⟨l',h4.trans hp,h5⟩,h3.lt,h3.nd,KeysDiffer.perm h3.ki hp.symm h3.dk,h3.ki⟩) hq
theorem takeI (r d j:Nat) {k x y:Ty} {kvss:List (k.El × List (x.El × y.El))} {z:k.El × List (x.El × y.El)} (ho:look st.rows r=some (.mmap k x y kvss none)) (hd:mem st.ks d=false) (hlt:Nat.blt d 100000=true) (hz:kvss[j]?=some z)
 (q:WP E K c ⟨st.n,st.slots,st.gt,d::st.ks,(d,.map x y z.2)::(r,.mmap k x y kvss (some (j,d)))::st.rows⟩ Q):WP E K c st Q :=
 takeM r d j (by unfold takeMSt;rw [ho,hd,hlt];simp only [hz]) q
theorem backI (r:Nat) {d j:Nat} {k:Ty} {kvss:List (k.El × List (Int × Bool))} {z:k.El × List (Int × Bool)} {l:List (Int × Bool)} (ho:look st.rows r=some (.mmap k (.int .i64) .bool kvss (some (j,d)))) (hod:look st.rows d=some (.map (.int .i64) .bool l)) (hdr:Nat.beq d r=false) (hz:kvss[j]?=some z)
 (q:WP E K c ⟨st.n,st.slots,st.gt,st.ks,(r,.mmap k (.int .i64) .bool (kvss.set j (z.1,l)) none)::(d,.dead)::st.rows⟩ Q):WP E K c st Q :=
 backM r (by unfold backMSt;rw [ho];simp only [hod,hdr,hz];rfl) q
end
end Go.AM
end

section
namespace Go.AM.YtbepaplaahcnkaaGreat.Bs
def Vis {α:Type} (l P:List α) (was:Nat→Bool):Prop:=∃ js:List Nat,js.Nodup∧(∀ j∈js,j < l.length)∧P=js.filterMap (l[·]?)∧∀ j,j < l.length→(was j=true↔j∈js)
theorem Vis.nil {α:Type} {l:List α} {was:Nat→Bool} (h:∀ j,was j=false):Vis l [] was :=
 ⟨[],.nil,(fun _ h=>(by cases h)),rfl,fun j _=>(by rw [h j];simp)⟩
theorem Vis.step {α:Type} {l P:List α} {was was':Nat→Bool} (h:Vis l P was) {j:Nat} {y:α} (hj:l[j]?=some y) (hw:was j=false) (hn:∀ i,i < l.length→(was' i=true↔was i=true∨i=j)):Vis l (P++[y]) was':=by
 obtain ⟨js,h1,h2,h3,h4⟩:=h
 have hjl:=(List.getElem?_eq_some_iff.1 hj).1
 have hnot:j ∉ js:=fun h=>by
  have:=(h4 j hjl).2 h
  rw [hw] at this
  cases this
 refine ⟨js++[j],?_,fun i hi=>?_,?_,fun i hi=>?_⟩
 ·refine List.nodup_append.2 ⟨h1,by simp,fun a ha b hb=>?_⟩
  rw [List.mem_singleton.1 hb]
  exact fun e=>hnot (e ▸ ha)
 ·rcases List.mem_append.1 hi with h|h
  ·exact h2 i h
  ·rw [List.mem_singleton.1 h];exact hjl
 ·rw [List.filterMap_append,h3]
  simp [hj]
 ·rw [hn i hi,h4 i hi,List.mem_append,List.mem_singleton]
theorem filterMap_range {α:Type}:∀ {l:List α},(List.range l.length).filterMap (l[·]?)=l
 | []=>rfl
 | x::l=>by
   rw [List.length_cons,List.range_succ_eq_map,List.filterMap_cons]
   simp only [List.getElem?_cons_zero,List.filterMap_map]
   congr 1
   exact filterMap_range (l:=l)
theorem Vis.all {α:Type} {l P:List α} {was:Nat→Bool} (h:Vis l P was) (ha:∀ j,j < l.length→was j=true):P.Perm l:=by
 obtain ⟨js,h1,h2,h3,h4⟩:=h
 have hp:js.Perm (List.range l.length):=(List.perm_ext_iff_of_nodup h1 List.nodup_range).2 fun j=>by
  rw [List.mem_range]
  exact ⟨h2 j,fun hj=>(h4 j hj).1 (ha j hj)⟩
 rw [h3]
 have:=hp.filterMap (l[·]?)
 rwa [filterMap_range] at this
theorem Vis.len {α:Type} {l P:List α} {was:Nat→Bool} (h:Vis l P was):P.length≤l.length:=by
 obtain ⟨js,h1,h2,h3,h4⟩:=h
 rw [h3]
 refine Nat.le_trans (List.length_filterMap_le _ _) ?_
 have:=List.Nodup.length_le_of_subset h1 (fun j hj=>List.mem_range.2 (h2 j hj):js ⊆ List.range l.length)
 rwa [List.length_range] at this
theorem Vis.mem {α:Type} {l P:List α} {was:Nat→Bool} (h:Vis l P was):∀ x∈P,x∈l:=fun x hx=>by
 obtain ⟨js,h1,h2,h3,h4⟩:=h
 rw [h3] at hx
 obtain ⟨j,hj,hx⟩:=List.mem_filterMap.1 hx
 exact List.mem_of_getElem? hx
theorem Vis.fresh {α:Type} {l P:List α} {was:Nat→Bool} (h:Vis l P was) {j:Nat} {y:α} (hj:l[j]?=some y) (hw:was j=false):∃ q,(P++[y]++q).Perm l:=by
 obtain ⟨js,h1,h2,h3,h4⟩:=h
 have hjl:=(List.getElem?_eq_some_iff.1 hj).1
 have hnot:j ∉ js:=fun h=>by
  have:=(h4 j hjl).2 h
  rw [hw] at this
  cases this
 have hnd:(js++[j]).Nodup:=List.nodup_append.2 ⟨h1,by simp,fun a ha b hb=>by
  rw [List.mem_singleton.1 hb]
  exact fun e=>hnot (e ▸ ha)⟩
 obtain ⟨rest,hr⟩:∃ rest,rest=(List.range l.length).filter (fun i=>decide (i ∉ js++[j])):=⟨_,rfl⟩
 have hp:((js++[j])++rest).Perm (List.range l.length):=(List.perm_ext_iff_of_nodup (List.nodup_append.2 ⟨hnd,hr ▸ List.Pairwise.filter _ List.nodup_range,fun a ha b hb e=>by
  rw [hr] at hb
  have:=(List.mem_filter.1 hb).2
  rw [← e] at this
  exact (of_decide_eq_true this) ha⟩) List.nodup_range).2 fun i=>by
  rw [List.mem_append,hr,List.mem_filter,List.mem_range]
  constructor
  ·rintro (h|h)
   ·rcases List.mem_append.1 h with h|h
    ·exact h2 i h
    ·rw [List.mem_singleton.1 h];exact hjl
   ·exact h.1
  ·intro h
   by_cases hi:i∈js++[j]
   ·exact .inl hi
   ·exact .inr ⟨h,decide_eq_true hi⟩
 refine ⟨rest.filterMap (l[·]?),?_⟩
 have:=hp.filterMap (l[·]?)
 rw [filterMap_range,List.filterMap_append,List.filterMap_append] at this
 rw [h3]
 simpa [hj] using this
end Go.AM.YtbepaplaahcnkaaGreat.Bs
end
