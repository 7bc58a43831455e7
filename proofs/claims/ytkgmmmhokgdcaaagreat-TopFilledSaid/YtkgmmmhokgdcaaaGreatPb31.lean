/- DiC, DiD, DiE, DiW. -/
import Derived.Test.YtkgmmmhokgdcaaaGreatPb30
import Derived.Test.YtkgmmmhokgdcaaaGreatPb20
import Derived.Test.YtkgmmmhokgdcaaaGreatPb21

section
set_option linter.all false
namespace Go.AM.YtkgmmmhokgdcaaaGreat
open Go.Proofs
set_option maxRecDepth 100000
set_option maxHeartbeats 8000000
def jDf:JobT:=tJob.dflt
def posI (c:JobT→JobT→Int) (x:JobT) (S:List JobT):Nat→Nat
  | 0=>0
  | k+1=>if c x (getI S jDf k) < 0 then posI c x S k else k+1
def insI (c:JobT→JobT→Int) (x:JobT) (S:List JobT):List JobT:=S.take (posI c x S S.length)++x::S.drop (posI c x S S.length)
def sortF (c:JobT→JobT→Int) (l:List JobT):List JobT:=l.foldl (fun S x=>insI c x S) []
theorem posI_le {c:JobT→JobT→Int} {x:JobT} {S:List JobT}:∀ {k:Nat},posI c x S k≤k
  | 0=>Nat.le_refl _
  | k+1=>by
    unfold posI
    split
    · exact Nat.le_succ_of_le posI_le
    · exact Nat.le_refl _
theorem insI_length {c:JobT→JobT→Int} {x:JobT} {S:List JobT}:(insI c x S).length=S.length+1:=by
  have:=posI_le (c:=c) (x:=x) (S:=S) (k:=S.length)
  unfold insI
  simp
  omega
theorem sortF_snoc {c:JobT→JobT→Int} {l:List JobT} {x:JobT}:sortF c (l++[x])=insI c x (sortF c l):=by
  unfold sortF;rw [List.foldl_append];rfl
theorem foldl_len {c:JobT→JobT→Int}:∀ {l S:List JobT},(l.foldl (fun S x=>insI c x S) S).length=S.length+l.length
  | [],S=>by simp
  | x::l,S=>by
    rw [List.foldl_cons,foldl_len,insI_length];simp;omega
theorem sortF_length {c:JobT→JobT→Int} {l:List JobT}:(sortF c l).length=l.length:=by
  unfold sortF;rw [foldl_len];simp
def dat (S:List JobT) (x:JobT) (T:List JobT) (j:Nat):List JobT:=S.take j++x::S.drop j++T
theorem dat_len {S T:List JobT} {x:JobT} {j:Nat}:(dat S x T j).length=S.length+1+T.length:=by
  unfold dat
  simp
  omega
theorem dat_lo {S T:List JobT} {x:JobT} {j:Nat} (hj:j+1≤S.length):getI (dat S x T (j+1)) jDf j=getI S jDf j:=by
  unfold dat
  simp only [getI,List.getD,List.append_assoc]
  rw [List.getElem?_append_left (by simp;omega),List.getElem?_take_of_lt (by omega)]
theorem dat_at {S T:List JobT} {x:JobT} {j:Nat} (hj:j≤S.length):getI (dat S x T j) jDf j=x:=by
  have hl:(S.take j).length=j:=by simp;omega
  unfold dat
  simp only [getI,List.getD,List.append_assoc]
  rw [List.getElem?_append_right (by omega),hl,Nat.sub_self]
  rfl
theorem dat_swap {S T:List JobT} {x:JobT} {j:Nat} (hj:j+1≤S.length):((dat S x T (j+1)).set (j+1) (getI (dat S x T (j+1)) jDf j)).set j (getI (dat S x T (j+1)) jDf (j+1))=dat S x T j:=by
  rw [dat_lo hj,dat_at hj]
  have hl:(S.take (j+1)).length=j+1:=by simp;omega
  have hl0:(S.take j).length=j:=by simp;omega
  have hlt:j < S.length:=by omega
  have e1:S.take (j+1)=S.take j++[S[j]]:=by rw [List.take_succ_eq_append_getElem hlt]
  have e2:S.drop j=S[j]::S.drop (j+1):=List.drop_eq_getElem_cons hlt
  have g1:getI S jDf j=S[j]:=by simp [getI,List.getD,List.getElem?_eq_getElem hlt]
  unfold dat
  rw [g1,List.append_assoc,List.set_append_right _ _ (by omega),hl,Nat.sub_self,List.cons_append,List.set_cons_zero,e1,List.append_assoc,List.set_append_right _ _ (by omega),hl0,Nat.sub_self,e2]
  simp only [List.append_assoc,List.cons_append,List.nil_append,List.singleton_append,List.set_cons_zero]
theorem sortF_one {c:JobT→JobT→Int}:∀ {xs:List JobT},sortF c (xs.take 1)++xs.drop 1=xs
  | []=>rfl
  | _::_=>rfl
def isortS:Spec:=⟨true,fun args rows=>match args,rows with
  | [.own 0,.int .i64 0,.int .i64 n,.ext (.fn2 (.pair (.int .i64) (.pair (.int .i64) (.pair .bool (.pair (.int .i64) (.pair (.int .i64) (.pair (.int .i64) (.int .i64))))))) (.int .i64) c)],[.seq (.pair (.int .i64) (.pair (.int .i64) (.pair .bool (.pair (.int .i64) (.pair (.int .i64) (.pair (.int .i64) (.int .i64))))))) xs] =>
    some ⟨List.length (α:=JobT) xs≤1000000∧n=List.length (α:=JobT) xs,.tup [],[.seq tJob (sortF c xs)],true⟩
  | _,_=>none⟩
theorem insSortOk:SpecSound Tryz.prog 157 isortS:=by
  refine soundR (envOf sigNil) Tryz.func157 (c:=body Tryz.f157) rfl (by kernel_rfl) rfl ?_
  intro args rows out hf hpre
  split at hf <;> try (cases hf;done)
  rename_i n c xs
  cases hf
  refine ⟨Nat.le_of_ble_eq_true rfl,initI (args:=[.own 0,.int .i64 0,.int .i64 n,.ext (.fn2 tJob (.int .i64) c)]) (rows:=[.seq tJob xs]) rfl ?_⟩
  obtain ⟨hlen,hn⟩:=hpre
  repeat' (first|with_reducible (first|apply pN|apply cN|apply bN|apply cE|apply cR|apply bR|apply lE|apply lR|apply jE|apply jR)|refine zE ?_|refine zP ?_|refine pD ?_|refine zS ?_|refine zR ?_|refine zO ?_|refine zB ?_|refine zX ?_|refine zT ?_|refine skipI rfl ?_)
  refine loopI (σ:=Nat) (fun i=>[(8,.int .i64 i)]) (fun i=>[(100000,.seq tJob (sortF c (List.take (α:=JobT) i xs)++List.drop (α:=JobT) i xs))]) (fun i=>1≤i∧(i≤List.length (α:=JobT) xs∨i=1)) (fun i=>List.length (α:=JobT) xs+1 - i) 1 rfl (fun _=>rfl) rfl ?_ ?_ ?_
  · exact ⟨Nat.le_refl _,.inr rfl⟩
  · repeat' (first|exact trivial|with_reducible exact rfl|refine And.intro ?_ ?_)
    all_goals first|rfl|exact sortF_one
  rintro i ⟨hi1,hi⟩
  repeat' (first|with_reducible (first|apply pN|apply cN|apply bN|apply cE|apply cR|apply bR|apply lE|apply lR|apply jE|apply jR)|refine zE ?_|refine zP ?_|refine pD ?_|refine zS ?_|refine zR ?_|refine zO ?_|refine zB ?_|refine zX ?_|refine zT ?_|refine skipI rfl ?_)
  refine condI rfl (fun c1=>?_) (fun c1=>?_)
  · simp only [decide_eq_true_eq] at c1
    have hil:i < List.length (α:=JobT) xs:=by omega
    obtain ⟨x,hx⟩:∃ x:JobT,x=getI xs jDf i:=⟨_,rfl⟩
    obtain ⟨S,hS⟩:∃ S,S=sortF c (List.take (α:=JobT) i xs):=⟨_,rfl⟩
    obtain ⟨T,hT⟩:∃ T,T=List.drop (α:=JobT) (i+1) xs:=⟨_,rfl⟩
    have hSl:S.length=i:=by rw [hS,sortF_length,List.length_take];omega
    have hTl:T.length=List.length (α:=JobT) xs - (i+1):=by rw [hT,List.length_drop]
    have hd0:sortF c (List.take (α:=JobT) i xs)++List.drop (α:=JobT) i xs=dat S x T i:=by
      unfold dat
      have t1:S.take i=S:=List.take_of_length_le (by omega)
      have t2:S.drop i=[]:=List.drop_of_length_le (by omega)
      have:List.drop (α:=JobT) i xs=x::T:=by
        rw [hT,hx,List.drop_eq_getElem_cons hil]
        congr 1
        simp [getI,List.getD,List.getElem?_eq_getElem hil]
      rw [t1,t2,← hS,this]
      simp
    have hnext:insI c x S++T=sortF c (List.take (α:=JobT) (i+1) xs)++List.drop (α:=JobT) (i+1) xs:=by
      rw [hT,hS,← sortF_snoc,take_succ_getI (d:=jDf) hil,hx]
    rw [hd0]
    repeat' (first|with_reducible (first|apply pN|apply cN|apply bN|apply cE|apply cR|apply bR|apply lE|apply lR|apply jE|apply jR)|refine zE ?_|refine zP ?_|refine pD ?_|refine zS ?_|refine zR ?_|refine zO ?_|refine zB ?_|refine zX ?_|refine zT ?_|refine skipI rfl ?_)
    refine loopI (σ:=Nat) (fun j=>[(9,.int .i64 j)]) (fun j=>[(100000,.seq tJob (dat S x T j))]) (fun j=>j≤S.length∧posI c x S S.length=posI c x S j) (fun j=>j) i rfl (fun _=>rfl) rfl ?_ ?_ ?_
    · exact ⟨by omega,by rw [hSl]⟩
    · repeat' (first|exact trivial|exact rfl|refine ⟨rfl,?_⟩|refine And.intro ?_ ?_)
    rintro j ⟨hj,hp⟩
    have hdl:=dat_len (S:=S) (T:=T) (x:=x) (j:=j)
    repeat' (first|with_reducible (first|apply pN|apply cN|apply bN|apply cE|apply cR|apply bR|apply lE|apply lR|apply jE|apply jR)|refine zE ?_|refine zP ?_|refine pD ?_|refine pC (by exact fun h=>by have:=of_decide_eq_true h;omega) ?_|refine zS ?_|refine zR ?_|refine zO ?_|refine zB ?_|refine zX ?_|refine zT ?_|refine skipI rfl ?_)
    refine condI rfl (fun c2=>?_) (fun c2=>?_)
    · have c2':(decide (0 < (j:Int))&&decide (c (getI (dat S x T j) jDf ((j:Int)).toNat) (getI (dat S x T j) jDf ((j:Int) - 1).toNat) < 0))=true:=c2
      simp only [Bool.and_eq_true,decide_eq_true_eq] at c2'
      obtain ⟨k,rfl⟩:∃ k,j=k+1:=⟨j - 1,by omega⟩
      have e1:(((k+1:Nat):Int)).toNat=k+1:=by omega
      have e2:(((k+1:Nat):Int) - 1).toNat=k:=by omega
      rw [e1,e2,dat_at hj,dat_lo hj] at c2'
      have hpk:posI c x S (k+1)=posI c x S k:=by
        show (if c x (getI S jDf k) < 0 then posI c x S k else k+1)=posI c x S k
        rw [if_pos c2'.2]
      repeat' (first|with_reducible (first|apply pN|apply cN|apply bN|apply cE|apply cR|apply bR|apply lE|apply lR|apply jE|apply jR)|refine zE ?_|refine zP ?_|refine pD ?_|refine pC (by first|omega|(rw [List.length_set];omega)) ?_|refine zS ?_|refine zR ?_|refine zO ?_|refine zB ?_|refine zX ?_|refine zT ?_|refine skipI rfl ?_)
      refine roundI k rfl ?_ ?_ ?_
      · exact ⟨by omega,hp.trans hpk⟩
      · show k < k+1
        omega
      · repeat' (first|exact trivial|with_reducible exact rfl|refine And.intro ?_ ?_)
        all_goals first|rfl|skip
        · omega
        · rw [e1,e2]
          exact (dat_swap hj).symm
    · have c2':(decide (0 < (j:Int))&&decide (c (getI (dat S x T j) jDf ((j:Int)).toNat) (getI (dat S x T j) jDf ((j:Int) - 1).toNat) < 0))=false:=c2
      have hpj:posI c x S j=j:=by
        cases j with
        | zero=>rfl
        | succ k =>
          have e1:(((k+1:Nat):Int)).toNat=k+1:=by omega
          have e2:(((k+1:Nat):Int) - 1).toNat=k:=by omega
          rw [e1,e2,dat_at hj,dat_lo hj] at c2'
          simp only [Bool.and_eq_false_iff,decide_eq_false_iff_not] at c2'
          show (if c x (getI S jDf k) < 0 then posI c x S k else k+1)=k+1
          rw [if_neg (by rcases c2' with h|h;exact absurd (by omega) h;exact h)]
      have hins:dat S x T j=insI c x S++T:=by
        unfold dat insI
        rw [hp,hpj]
      repeat' (first|with_reducible (first|apply pN|apply cN|apply bN|apply cE|apply cR|apply bR|apply lE|apply lR|apply jE|apply jR)|refine zE ?_|refine zP ?_|refine pD ?_|refine zS ?_|refine zR ?_|refine zO ?_|refine zB ?_|refine zX ?_|refine zT ?_|refine skipI rfl ?_)
      refine roundI (i+1) rfl ?_ ?_ ?_
      · exact ⟨by show 1≤i+1;omega,.inl (by show i+1≤List.length (α:=JobT) xs;omega)⟩
      · show List.length (α:=JobT) xs+1 - (i+1) < List.length (α:=JobT) xs+1 - i
        omega
      · repeat' (first|exact trivial|with_reducible exact rfl|refine And.intro ?_ ?_)
        all_goals first|rfl|exact (hins.trans hnext).symm
  · simp only [decide_eq_false_iff_not] at c1
    repeat' (first|with_reducible (first|apply pN|apply cN|apply bN|apply cE|apply cR|apply bR|apply lE|apply lR|apply jE|apply jR)|refine zE ?_|refine zP ?_|refine pD ?_|refine zS ?_|refine zR ?_|refine zO ?_|refine zB ?_|refine zX ?_|refine zT ?_|refine skipI rfl ?_)
    refine endN rfl ?_
    repeat' (first|exact trivial|with_reducible exact rfl|refine And.intro ?_ ?_)
    all_goals first|rfl|skip
    rw [List.take_of_length_le (by omega),List.drop_of_length_le (by omega),List.append_nil]
def stabS:Spec:=⟨true,fun args rows=>match args,rows with
  | [.own 0,.int .i64 n,.ext (.fn2 (.pair (.int .i64) (.pair (.int .i64) (.pair .bool (.pair (.int .i64) (.pair (.int .i64) (.pair (.int .i64) (.int .i64))))))) (.int .i64) c)],[.seq (.pair (.int .i64) (.pair (.int .i64) (.pair .bool (.pair (.int .i64) (.pair (.int .i64) (.pair (.int .i64) (.int .i64))))))) xs] =>
    some ⟨List.length (α:=JobT) xs≤19∧n=List.length (α:=JobT) xs,.tup [],[.seq tJob (sortF c xs)],true⟩
  | _,_=>none⟩
def sigStab:List (Nat × Spec):=[(157,isortS)]
theorem sigStabOk:SigOk Tryz.prog (look sigStab):=sigCons sigNil Tryz.func157 (by kernel_rfl) (c:=body Tryz.f157) rfl insSortOk
theorem stabOk:SpecSound Tryz.prog 143 stabS:=by
  refine soundR (envOf sigStabOk) Tryz.func143 (c:=body Tryz.f143) rfl (by kernel_rfl) rfl ?_
  intro args rows out hf hpre
  split at hf <;> try (cases hf;done)
  rename_i n c xs
  cases hf
  refine ⟨Nat.le_of_ble_eq_true rfl,initI (args:=[.own 0,.int .i64 n,.ext (.fn2 tJob (.int .i64) c)]) (rows:=[.seq tJob xs]) rfl ?_⟩
  obtain ⟨hlen,hn⟩:=hpre
  repeat' (first|with_reducible (first|apply pN|apply cN|apply bN|apply cE|apply cR|apply bR|apply lE|apply lR|apply jE|apply jR)|refine zE ?_|refine zP ?_|refine pD ?_|refine zS ?_|refine zR ?_|refine zO ?_|refine zB ?_|refine zX ?_|refine zT ?_|refine skipI rfl ?_)
  refine loopI (σ:=Unit) (fun u=>[]) (fun u=>[]) (fun u=>True) (fun u=>0) () rfl (fun _=>rfl) rfl ?_ ?_ ?_
  · trivial
  · repeat' (first|exact trivial|exact rfl|refine ⟨rfl,?_⟩|refine And.intro ?_ ?_)
  rintro ⟨⟩ _
  repeat' (first|with_reducible (first|apply pN|apply cN|apply bN|apply cE|apply cR|apply bR|apply lE|apply lR|apply jE|apply jR)|refine zE ?_|refine zP ?_|refine pD ?_|refine zS ?_|refine zR ?_|refine zO ?_|refine zB ?_|refine zX ?_|refine zT ?_|refine skipI rfl ?_)
  refine condI rfl (fun c1=>?_) (fun c1=>?_)
  · exfalso
    simp only [decide_eq_true_eq] at c1
    omega
  · repeat' (first|with_reducible (first|apply pN|apply cN|apply bN|apply cE|apply cR|apply bR|apply lE|apply lR|apply jE|apply jR)|refine zE ?_|refine zP ?_|refine pD ?_|refine pC (by exact ⟨by omega,hn⟩) ?_|refine zS ?_|refine zR ?_|refine zO ?_|refine zB ?_|refine zX ?_|refine zT ?_|refine skipI rfl ?_)
    refine loopI (σ:=Unit) (fun u=>[]) (fun u=>[]) (fun u=>True) (fun u=>0) () rfl (fun _=>rfl) rfl ?_ ?_ ?_
    · trivial
    · repeat' (first|exact trivial|exact rfl|refine ⟨rfl,?_⟩|refine And.intro ?_ ?_)
    rintro ⟨⟩ _
    repeat' (first|with_reducible (first|apply pN|apply cN|apply bN|apply cE|apply cR|apply bR|apply lE|apply lR|apply jE|apply jR)|refine zE ?_|refine zP ?_|refine pD ?_|refine zS ?_|refine zR ?_|refine zO ?_|refine zB ?_|refine zX ?_|refine zT ?_|refine skipI rfl ?_)
    refine condI rfl (fun c2=>?_) (fun c2=>?_)
    · exfalso
      simp only [decide_eq_true_eq] at c2
      omega
    · repeat' (first|with_reducible (first|apply pN|apply cN|apply bN|apply cE|apply cR|apply bR|apply lE|apply lR|apply jE|apply jR)|refine zE ?_|refine zP ?_|refine pD ?_|refine zS ?_|refine zR ?_|refine zO ?_|refine zB ?_|refine zX ?_|refine zT ?_|refine skipI rfl ?_)
      refine endN rfl ?_
      repeat' (first|exact trivial|with_reducible exact rfl|refine And.intro ?_ ?_)
      all_goals rfl
def sortS:Spec:=⟨true,fun args rows=>match args,rows with
  | [.own 0,.ext (.fn2 (.pair (.int .i64) (.pair (.int .i64) (.pair .bool (.pair (.int .i64) (.pair (.int .i64) (.pair (.int .i64) (.int .i64))))))) (.int .i64) c)],[.seq (.pair (.int .i64) (.pair (.int .i64) (.pair .bool (.pair (.int .i64) (.pair (.int .i64) (.pair (.int .i64) (.int .i64))))))) xs] =>
    some ⟨List.length (α:=JobT) xs≤19,.tup [],[.seq tJob (sortF c xs)],true⟩
  | _,_=>none⟩
def sigSort:List (Nat × Spec):=[(143,stabS)]
theorem sigSortOk:SigOk Tryz.prog (look sigSort):=sigCons sigNil Tryz.func143 (by kernel_rfl) (c:=body Tryz.f143) rfl stabOk
theorem sortOk:SpecSound Tryz.prog 102 sortS:=by
  refine soundR (envOf sigSortOk) Tryz.func102 (c:=body Tryz.f102) rfl (by kernel_rfl) rfl ?_
  intro args rows out hf hpre
  split at hf <;> try (cases hf;done)
  rename_i c xs
  cases hf
  refine ⟨Nat.le_of_ble_eq_true rfl,initI (args:=[.own 0,.ext (.fn2 tJob (.int .i64) c)]) (rows:=[.seq tJob xs]) rfl ?_⟩
  change List.length (α:=JobT) xs≤19 at hpre
  repeat' (first|with_reducible (first|apply pN|apply cN|apply bN|apply cE|apply cR|apply bR|apply lE|apply lR|apply jE|apply jR)|refine zE ?_|refine zP ?_|refine pD ?_|refine pC (by exact ⟨hpre,rfl⟩) ?_|refine zS ?_|refine zR ?_|refine zO ?_|refine zB ?_|refine zX ?_|refine zT ?_|refine skipI rfl ?_)
  refine endN rfl ?_
  repeat' (first|exact trivial|with_reducible exact rfl|refine And.intro ?_ ?_)
  all_goals rfl
def jcloneN:Spec:=plain fun
  | [.ext (.nl (.pair (.int .i64) (.pair (.int .i64) (.pair .bool (.pair (.int .i64) (.pair (.int .i64) (.pair (.int .i64) (.int .i64))))))))]=>some ⟨True,.own 0,[.seq tJob []],false⟩
  | _=>none
theorem jcloneNOk:SpecSound Tryz.prog 101 jcloneN:=by
  refine soundP (envOf sigNil) Tryz.func101 (c:=body Tryz.f101) rfl (by kernel_rfl) rfl ?_
  intro args out hf hpre
  split at hf <;> try (cases hf;done)
  cases hf
  refine ⟨Nat.le_of_ble_eq_true rfl,initI rfl ?_⟩
  repeat' (first|with_reducible (first|apply pN|apply cN|apply bN|apply cE|apply cR|apply bR|apply lE|apply lR|apply jE|apply jR)|refine zE ?_|refine zP ?_|refine pD ?_|refine zS ?_|refine zR ?_|refine zO ?_|refine zB ?_|refine zX ?_|refine zT ?_|refine skipI rfl ?_)
  refine condT rfl ?_
  repeat' (first|with_reducible (first|apply pN|apply cN|apply bN|apply cE|apply cR|apply bR|apply lE|apply lR|apply jE|apply jR)|refine zE ?_|refine zP ?_|refine pD ?_|refine zS ?_|refine zR ?_|refine zO ?_|refine zB ?_|refine zX ?_|refine zT ?_|refine skipI rfl ?_)
  refine endR rfl ?_
  repeat' (first|exact trivial|exact rfl|refine ⟨rfl,?_⟩|refine And.intro ?_ ?_)
def jcloneM:Spec:=plain fun
  | [.ext (.nn (.pair (.int .i64) (.pair (.int .i64) (.pair .bool (.pair (.int .i64) (.pair (.int .i64) (.pair (.int .i64) (.int .i64))))))) xs)]=>some ⟨List.length (α:=JobT) xs≤1000000,.own 0,[.seq tJob xs],false⟩
  | _=>none
theorem jcloneMOk:SpecSound Tryz.prog 101 jcloneM:=by
  refine soundP (envOf sigNil) Tryz.func101 (c:=body Tryz.f101) rfl (by kernel_rfl) rfl ?_
  intro args out hf hpre
  split at hf <;> try (cases hf;done)
  rename_i xs
  cases hf
  refine ⟨Nat.le_of_ble_eq_true rfl,initI (args:=[.ext (.nn tJob xs)]) rfl ?_⟩
  change List.length (α:=JobT) xs≤1000000 at hpre
  repeat' (first|with_reducible (first|apply pN|apply cN|apply bN|apply cE|apply cR|apply bR|apply lE|apply lR|apply jE|apply jR)|refine zE ?_|refine zP ?_|refine pD ?_|refine zS ?_|refine zR ?_|refine zO ?_|refine zB ?_|refine zX ?_|refine zT ?_|refine skipI rfl ?_)
  refine condF rfl ?_
  repeat' (first|with_reducible (first|apply pN|apply cN|apply bN|apply cE|apply cR|apply bR|apply lE|apply lR|apply jE|apply jR)|refine zE ?_|refine zP ?_|refine pD ?_|refine pC (by first|exact hpre|(simp;omega)) ?_|refine zS ?_|refine zR ?_|refine zO ?_|refine zB ?_|refine zX ?_|refine zT ?_|refine skipI rfl ?_)
  refine endR rfl ?_
  repeat' (first|exact trivial|exact rfl|refine ⟨rfl,?_⟩|refine And.intro ?_ ?_)
def jcloneS:Spec:=plain fun
  | [.sl (.pair (.int .i64) (.pair (.int .i64) (.pair .bool (.pair (.int .i64) (.pair (.int .i64) (.pair (.int .i64) (.int .i64))))))) xs]=>some ⟨List.length (α:=JobT) xs≤1000000,.own 0,[.seq tJob xs],false⟩
  | _=>none
theorem jcloneOk:SpecSound Tryz.prog 101 jcloneS:=by
  intro args rows out hf hpre hr w0 g0 R0 vals h1 h2 h3 h4 h5
  unfold jcloneS plain at hf
  dsimp only at hf
  split at hf <;> try (cases hf;done)
  rename_i xs
  cases hf
  cases h5 with
  | cons h5 h6 =>
  cases h6
  cases h5 with
  | sl hrd =>
  obtain ⟨a,cap,rfl,hc1,hc2,hc3,hc4⟩:=hrd
  cases a with
  | none =>
    obtain rfl:xs=[]:=by
      cases xs with
      | nil=>rfl
      | cons x r=>obtain ⟨_,_,h,_⟩:=hc4 (by simp);cases h
    exact jcloneNOk [.ext (.nl tJob)] rows _ rfl trivial (fun _=>hr rfl) w0 g0 R0 _ h1 h2 h3 h4 (.cons (.ext ⟨cap,rfl,hc2⟩) .nil)
  | some a =>
    exact jcloneMOk [.ext (.nn tJob xs)] rows _ rfl hpre (fun _=>hr rfl) w0 g0 R0 _ h1 h2 h3 h4 (.cons (.ext ⟨⟨some a,cap,rfl,hc1,hc2,hc3,hc4⟩,a,_,_,rfl⟩) .nil)
def ruleC (rc r:Int):JobT→JobT→Int:=(mapFind (.int .i64) tCmp r (ruleM rc)).getD tCmp.dflt
theorem rule_some {rc r:Int} (h:ruleOk r):(mapFind (.int .i64) tCmp r (ruleM rc)).isSome=true:=by
  unfold ruleOk at h
  obtain rfl|rfl|rfl|rfl|rfl|rfl:r=1∨r=2∨r=3∨r=4∨r=5∨r=6:=by omega
  all_goals rfl
def ordC (rs:List Int) (rc:Int):JobT→JobT→Int:=firstC (rs.map (ruleC rc)++[riseC jLot])
def orderF (rs:List Int) (rc:Int) (l:List JobT):List JobT:=if rulesB rs=true then sortF (ordC rs rc) l else []
def orderS:Spec:=plain fun
  | [.sl (.int .i64) rs,.int .i64 rc,.sl (.pair (.int .i64) (.pair (.int .i64) (.pair .bool (.pair (.int .i64) (.pair (.int .i64) (.pair (.int .i64) (.int .i64))))))) l] =>
    some ⟨List.length (α:=Int) rs≤1000∧List.length (α:=JobT) l≤19,.own 0,[.seq tJob (orderF rs rc l)],false⟩
  | _=>none
def sigOrder:List (Nat × Spec):=[(97,validRS),(98,knownS),(99,riseK),(101,jcloneS),
  (103,firstS'),(102,sortS)]
theorem sigOrderOk:SigOk Tryz.prog (look sigOrder):=sigCons (sigCons (sigCons (sigCons (sigCons (sigCons sigNil
  Tryz.func102 (by kernel_rfl) (c:=body Tryz.f102) rfl sortOk)
  Tryz.func103 (by kernel_rfl) (c:=body Tryz.f103) rfl firstOk')
  Tryz.func101 (by kernel_rfl) (c:=body Tryz.f101) rfl jcloneOk)
  Tryz.func99 (by kernel_rfl) (c:=body Tryz.f99) rfl (riseOk.see seeK seeK_rel))
  Tryz.func98 (by kernel_rfl) (c:=body Tryz.f98) rfl knownOk)
  Tryz.func97 (by kernel_rfl) (c:=body Tryz.f97) rfl validROk
theorem orderOk:SpecSound Tryz.prog 54 orderS:=by
  refine soundP (envOf sigOrderOk) Tryz.func54 (c:=body Tryz.f54) rfl (by kernel_rfl) rfl ?_
  intro args out hf hpre
  split at hf <;> try (cases hf;done)
  rename_i rs rc l
  cases hf
  refine ⟨Nat.le_of_ble_eq_true rfl,initI (args:=[.sl tInt rs,.int .i64 rc,.sl tJob l]) rfl ?_⟩
  obtain ⟨hrl,hll⟩:=hpre
  repeat' (first|with_reducible (first|apply pN|apply cN|apply bN|apply cE|apply cR|apply bR|apply lE|apply lR|apply jE|apply jR)|refine zE ?_|refine zP ?_|refine pD ?_|refine pC (by (show List.length (α:=Int) rs≤1000000;omega)) ?_|refine zS ?_|refine zR ?_|refine zO ?_|refine zB ?_|refine zX ?_|refine zT ?_|refine skipI rfl ?_)
  refine condI rfl (fun c0=>?_) (fun c0=>?_)
  · rw [Bool.not_eq_true'] at c0
    repeat' (first|with_reducible (first|apply pN|apply cN|apply bN|apply cE|apply cR|apply bR|apply lE|apply lR|apply jE|apply jR)|refine zE ?_|refine zP ?_|refine pD ?_|refine zS ?_|refine zR ?_|refine zO ?_|refine zB ?_|refine zX ?_|refine zT ?_|refine skipI rfl ?_)
    refine endR rfl ?_
    repeat' (first|exact trivial|exact rfl|refine ⟨rfl,?_⟩|refine And.intro ?_ ?_)
    unfold orderF
    rw [c0]
    rfl
  · rw [Bool.not_eq_false'] at c0
    have hok:RulesOk rs:=of_decide_eq_true c0
    repeat' (first|with_reducible (first|apply pN|apply cN|apply bN|apply cE|apply cR|apply bR|apply lE|apply lR|apply jE|apply jR)|refine zE ?_|refine zP ?_|refine pD ?_|refine zS ?_|refine zR ?_|refine zO ?_|refine zB ?_|refine zX ?_|refine zT ?_|refine skipI rfl ?_)
    refine loopI (σ:=Nat) (fun i=>[(7,.own 7000),(19,.int .i64 i)]) (fun i=>[(7000,.seq tCmp ((List.take (α:=Int) i rs).map (ruleC rc)))]) (fun i=>i≤List.length (α:=Int) rs) (fun i=>List.length (α:=Int) rs - i) 0 rfl (fun _=>rfl) rfl ?_ ?_ ?_
    · exact Nat.zero_le _
    · repeat' (first|exact trivial|exact rfl|refine ⟨rfl,?_⟩|refine And.intro ?_ ?_)
    rintro i hi
    have hml:((List.take (α:=Int) i rs).map (ruleC rc)).length=i:=by rw [List.length_map,List.length_take];omega
    repeat' (first|with_reducible (first|apply pN|apply cN|apply bN|apply cE|apply cR|apply bR|apply lE|apply lR|apply jE|apply jR)|refine zE ?_|refine zP ?_|refine pD ?_|refine zS ?_|refine zR ?_|refine zO ?_|refine zB ?_|refine zX ?_|refine zT ?_|refine skipI rfl ?_)
    refine condI rfl (fun c1=>?_) (fun c1=>?_)
    · simp only [decide_eq_true_eq] at c1
      have hil:i < List.length (α:=Int) rs:=by omega
      have hin:((i:Int)).toNat=i:=by omega
      have hr:=rule_some (rc:=rc) (hok.1 _ (show getI rs (0:Int) i∈(rs:List Int) by
        have:=List.getElem_mem (l:=(rs:List Int)) (n:=i) hil
        simpa [getI,List.getD,List.getElem?_eq_getElem hil] using this))
      repeat' (first|with_reducible (first|apply pN|apply cN|apply bN|apply cE|apply cR|apply bR|apply lE|apply lR|apply jE|apply jR)|refine zE ?_|refine zP ?_|refine pD ?_|refine pC (by first|exact hr|(show (((List.take (α:=Int) i rs).map (ruleC rc)).length+1) * 8≤140737488355328;omega)) ?_|refine zS ?_|refine zR ?_|refine zO ?_|refine zB ?_|refine zX ?_|refine zT ?_|refine skipI rfl ?_)
      refine roundI (i+1) rfl ?_ ?_ ?_
      · show i+1≤List.length (α:=Int) rs
        omega
      · show List.length (α:=Int) rs - (i+1) < List.length (α:=Int) rs - i
        omega
      · repeat' (first|exact trivial|with_reducible exact rfl|refine And.intro ?_ ?_)
        all_goals first|rfl|skip
        show ((List.take (α:=Int) (i+1) rs).map (ruleC rc))=_
        rw [show List.take (α:=Int) (i+1) rs=List.take (α:=Int) i rs++[getI rs (0:Int) i] from take_succ_getI (d:=(0:Int)) hil,List.map_append]
        rfl
    · simp only [decide_eq_false_iff_not] at c1
      rw [List.take_of_length_le (by omega)] at hml ⊢
      repeat' (first|with_reducible (first|apply pN|apply cN|apply bN|apply cE|apply cR|apply bR|apply lE|apply lR|apply jE|apply jR)|refine zE ?_|refine zP ?_|refine zS ?_|refine zO ?_|refine zX ?_|refine zT ?_|refine skipI rfl ?_)
      refine zR ?_
      repeat' (first|with_reducible refine pN ?_|refine pD ?_|refine pC (by first|(show ((List.map (ruleC rc) rs).length+1) * 8≤140737488355328;omega)|(show List.length (α:=JobT) l≤1000000;omega)) ?_)
      repeat with_reducible refine cN ?_
      repeat' (first|with_reducible (first|apply pN|apply cN|apply bN|apply cE|apply cR|apply bR|apply lE|apply lR|apply jE|apply jR)|refine zE ?_|refine zP ?_|refine zS ?_|refine zO ?_|refine zX ?_|refine zT ?_|refine skipI rfl ?_)
      refine zR ?_
      repeat' (first|with_reducible refine pN ?_|refine pD ?_|refine pC (by first|(show ((List.map (ruleC rc) rs).length+1) * 8≤140737488355328;omega)|(show List.length (α:=JobT) l≤1000000;omega)) ?_)
      repeat with_reducible refine cN ?_
      refine freezeI 33 rfl ?_
      repeat' (first|with_reducible (first|apply pN|apply cN|apply bN|apply cE|apply cR|apply bR|apply lE|apply lR|apply jE|apply jR)|refine zE ?_|refine zP ?_|refine pD ?_|refine pC (by first|exact hll|(show (List.map (ruleC rc) rs++[riseC jLot]).length≤1000000;rw [List.length_append,hml];show i+1≤1000000;omega)) ?_|refine zS ?_|refine zR ?_|refine zO ?_|refine zB ?_|refine zX ?_|refine zT ?_|refine skipI rfl ?_)
      refine endR rfl ?_
      repeat' (first|exact trivial|exact rfl|refine ⟨rfl,?_⟩|refine And.intro ?_ ?_)
      unfold orderF
      rw [if_pos c0]
      rfl
end Go.AM.YtkgmmmhokgdcaaaGreat
end

section
set_option linter.all false
namespace Go.AM.YtkgmmmhokgdcaaaGreat
open Go.Proofs
set_option maxRecDepth 100000
set_option maxHeartbeats 8000000
def lengthI (rc b f:Int):Int:=if b=rc then f else f+20
def lengthF (rc:Int) (j:JobT):Int:=lengthI rc (jRec j) (jLen j)
def lengthS:Spec:=plain fun
  | [.int .i64 rc,.agg [.int .i64 a,.int .i64 b,.bool c,.int .i64 d,.int .i64 e,.int .i64 f,.int .i64 g]]=>outV (In64 (f+20)) (.int .i64 (lengthI rc b f))
  | _=>none
theorem lengthOk:SpecSound Tryz.prog 29 lengthS:=by
  refine soundP (envOf sigNil) Tryz.func29 (c:=body Tryz.f29) rfl (by kernel_rfl) rfl ?_
  intro args out hf hpre
  split at hf <;> try (cases hf;done)
  rename_i rc a b c d e f g
  cases hf
  refine ⟨Nat.le_of_ble_eq_true rfl,initI (args:=[.int .i64 rc,.agg [.int .i64 a,.int .i64 b,.bool c,.int .i64 d,.int .i64 e,.int .i64 f,.int .i64 g]]) rfl ?_⟩
  change In64 (f+20) at hpre
  repeat' (first|with_reducible (first|apply pN|apply cN|apply bN|apply cE|apply cR|apply bR|apply lE|apply lR|apply jE|apply jR)|refine zE ?_|refine zP ?_|refine pD ?_|refine zS ?_|refine zR ?_|refine zO ?_|refine zB ?_|refine zX ?_|refine zT ?_|refine skipI rfl ?_)
  refine condI rfl (fun c1=>?_) (fun c1=>?_)
  · simp only [decide_eq_true_eq] at c1
    repeat' (first|with_reducible (first|apply pN|apply cN|apply bN|apply cE|apply cR|apply bR|apply lE|apply lR|apply jE|apply jR)|refine zE ?_|refine zP ?_|refine pD ?_|refine zS ?_|refine zR ?_|refine zO ?_|refine zB ?_|refine zX ?_|refine zT ?_|refine skipI rfl ?_)
    refine endR rfl ?_
    repeat' (first|exact trivial|exact rfl|refine ⟨rfl,?_⟩|refine And.intro ?_ ?_)
    unfold lengthI
    rw [if_pos c1]
  · simp only [decide_eq_false_iff_not] at c1
    repeat' (first|with_reducible (first|apply pN|apply cN|apply bN|apply cE|apply cR|apply bR|apply lE|apply lR|apply jE|apply jR)|refine zE ?_|refine zP ?_|refine pD ?_|refine zS ?_|refine zR ?_|refine zO ?_|refine zB ?_|refine zX ?_|refine zT ?_|refine skipI rfl ?_)
    refine endR rfl ?_
    repeat' (first|exact trivial|exact rfl|refine ⟨rfl,?_⟩|refine And.intro ?_ ?_)
    unfold lengthI
    rw [if_neg c1]
def fitI (xss:List (List Bk.El)) (tool now rc b f:Int):Bool :=
  if 1≤f∧f≤10000 then (firstF xss tool now (lengthI rc b f)).2&&decide ((firstF xss tool now (lengthI rc b f)).1=now) else false
def fitB (xss:List (List Bk.El)) (tool now rc:Int) (j:JobT):Bool:=fitI xss tool now rc (jRec j) (jLen j)
def pick1S:Spec:=⟨true,fun args rows=>match args,rows with
  | [.agg [.int .i64 a,.int .i64 b,.bool c,.int .i64 d,.int .i64 e,.int .i64 f,.int .i64 g],.ptr 0 0,.ptr 1 0,.ptr 2 0,.ptr 3 0],
      [.box [.ext (.cref (.pair (.int .i64) (.pair (.int .i64) (.pair (.int .i64) (.int .i64)))) xss 0)],.box [.int .i64 tool],.box [.int .i64 now],.box [.int .i64 rc]] =>
    some ⟨Cal xss,.bool (fitI xss tool now rc b f),[.box [.ext (.cref Bk xss 0)],.box [.int .i64 tool],.box [.int .i64 now],.box [.int .i64 rc]],true⟩
  | _,_=>none⟩
def sigP1:List (Nat × Spec):=[(29,lengthS),(57,firstS)]
theorem sigP1Ok:SigOk Tryz.prog (look sigP1):=sigCons (sigCons sigNil
  Tryz.func57 (by kernel_rfl) (c:=body Tryz.f57) rfl firstOk)
  Tryz.func29 (by kernel_rfl) (c:=body Tryz.f29) rfl lengthOk
theorem pick1Ok:SpecSound Tryz.prog 56 pick1S:=by
  refine soundR (envOf sigP1Ok) Tryz.func56 (c:=body Tryz.f56) rfl (by kernel_rfl) rfl ?_
  intro args rows out hf hpre
  split at hf <;> try (cases hf;done)
  rename_i a b c d e f g xss tool now rc
  cases hf
  refine ⟨Nat.le_of_ble_eq_true rfl,initI (args:=[.agg [.int .i64 a,.int .i64 b,.bool c,.int .i64 d,.int .i64 e,.int .i64 f,.int .i64 g],.ptr 0 0,.ptr 1 0,.ptr 2 0,.ptr 3 0]) (rows:=[.box [.ext (.cref Bk xss 0)],.box [.int .i64 tool],.box [.int .i64 now],.box [.int .i64 rc]]) rfl ?_⟩
  change Cal xss at hpre
  repeat' (first|with_reducible (first|apply pN|apply cN|apply bN|apply cE|apply cR|apply bR|apply lE|apply lR|apply jE|apply jR)|refine zE ?_|refine zP ?_|refine pD ?_|refine zS ?_|refine zR ?_|refine zO ?_|refine zB ?_|refine zX ?_|refine zT ?_|refine skipI rfl ?_)
  refine condI rfl (fun c1=>?_) (fun c1=>?_)
  · have c1':(decide (1≤f)&&decide (f≤10000))=true:=c1
    simp only [Bool.and_eq_true,decide_eq_true_eq] at c1'
    repeat' (first|with_reducible (first|apply pN|apply cN|apply bN|apply cE|apply cR|apply bR|apply lE|apply lR|apply jE|apply jR)|refine zE ?_|refine zP ?_|refine pD ?_|refine pC (by exact hpre) ?_|refine zS ?_|refine zR ?_|refine zO ?_|refine zB ?_|refine zX ?_|refine zT ?_|refine skipI rfl ?_)
    refine endR rfl ?_
    repeat' (first|exact trivial|exact rfl|refine ⟨rfl,?_⟩|refine And.intro ?_ ?_)
    unfold fitI
    rw [if_pos c1']
  · have c1':(decide (1≤f)&&decide (f≤10000))=false:=c1
    have hn:¬ (1≤f∧f≤10000):=fun h=>by
      rw [decide_eq_true h.1,decide_eq_true h.2] at c1'
      cases c1'
    repeat' (first|with_reducible (first|apply pN|apply cN|apply bN|apply cE|apply cR|apply bR|apply lE|apply lR|apply jE|apply jR)|refine zE ?_|refine zP ?_|refine pD ?_|refine zS ?_|refine zR ?_|refine zO ?_|refine zB ?_|refine zX ?_|refine zT ?_|refine skipI rfl ?_)
    refine endR rfl ?_
    repeat' (first|exact trivial|exact rfl|refine ⟨rfl,?_⟩|refine And.intro ?_ ?_)
    unfold fitI
    rw [if_neg hn]
    show false=((decide (1≤f)&&decide (f≤10000))&&_)
    rw [c1']
    rfl
def jidxS:Spec:=⟨true,fun args rows=>match args,rows with
  | [.own 0,.fn 56 [] [.ptr 1 0,.ptr 2 0,.ptr 3 0,.ptr 4 0]],
      [.seq (.pair (.int .i64) (.pair (.int .i64) (.pair .bool (.pair (.int .i64) (.pair (.int .i64) (.pair (.int .i64) (.int .i64))))))) xs,.box [.ext (.cref (.pair (.int .i64) (.pair (.int .i64) (.pair (.int .i64) (.int .i64)))) xss 0)],.box [.int .i64 tool],.box [.int .i64 now],.box [.int .i64 rc]] =>
    some ⟨Cal xss∧List.length (α:=JobT) xs≤1000000,.int .i64 (idxF (fitB xss tool now rc) xs),[.seq tJob xs,.box [.ext (.cref Bk xss 0)],.box [.int .i64 tool],.box [.int .i64 now],.box [.int .i64 rc]],true⟩
  | _,_=>none⟩
def sigJi:List (Nat × Spec):=[(56,pick1S)]
theorem sigJiOk:SigOk Tryz.prog (look sigJi):=sigCons sigNil Tryz.func56 (by kernel_rfl) (c:=body Tryz.f56) rfl pick1Ok
theorem jidxOk:SpecSound Tryz.prog 55 jidxS:=by
  refine soundR (envOf sigJiOk) Tryz.func55 (c:=body Tryz.f55) rfl (by kernel_rfl) rfl ?_
  intro args rows out hf hpre
  split at hf <;> try (cases hf;done)
  rename_i xs xss tool now rc
  cases hf
  refine ⟨Nat.le_of_ble_eq_true rfl,initI (args:=[.own 0,.fn 56 [] [.ptr 1 0,.ptr 2 0,.ptr 3 0,.ptr 4 0]]) (rows:=[.seq tJob xs,.box [.ext (.cref Bk xss 0)],.box [.int .i64 tool],.box [.int .i64 now],.box [.int .i64 rc]]) rfl ?_⟩
  obtain ⟨hcal,hlen⟩:=hpre
  repeat' (first|with_reducible (first|apply pN|apply cN|apply bN|apply cE|apply cR|apply bR|apply lE|apply lR|apply jE|apply jR)|refine zE ?_|refine zP ?_|refine pD ?_|refine zS ?_|refine zR ?_|refine zO ?_|refine zB ?_|refine zX ?_|refine zT ?_|refine skipI rfl ?_)
  refine loopI (σ:=Nat) (fun i=>[(8,.int .i64 i)]) (fun i=>[]) (fun i=>i≤List.length (α:=JobT) xs∧∀ j,j < i→fitB xss tool now rc (getI xs jDf j)=false) (fun i=>List.length (α:=JobT) xs - i) 0 rfl (fun _=>rfl) rfl ?_ ?_ ?_
  · exact ⟨Nat.zero_le _,fun j hj=>by omega⟩
  · repeat' (first|exact trivial|exact rfl|refine ⟨rfl,?_⟩|refine And.intro ?_ ?_)
  rintro i ⟨hi,hb⟩
  repeat' (first|with_reducible (first|apply pN|apply cN|apply bN|apply cE|apply cR|apply bR|apply lE|apply lR|apply jE|apply jR)|refine zE ?_|refine zP ?_|refine pD ?_|refine zS ?_|refine zR ?_|refine zO ?_|refine zB ?_|refine zX ?_|refine zT ?_|refine skipI rfl ?_)
  refine condI rfl (fun c1=>?_) (fun c1=>?_)
  · simp only [decide_eq_true_eq] at c1
    have hil:i < List.length (α:=JobT) xs:=by omega
    repeat' (first|with_reducible (first|apply pN|apply cN|apply bN|apply cE|apply cR|apply bR|apply lE|apply lR|apply jE|apply jR)|refine zE ?_|refine zP ?_|refine pD ?_|refine pC (by exact hcal) ?_|refine zS ?_|refine zR ?_|refine zO ?_|refine zB ?_|refine zX ?_|refine zT ?_|refine skipI rfl ?_)
    refine condI rfl (fun c2=>?_) (fun c2=>?_)
    · repeat' (first|with_reducible (first|apply pN|apply cN|apply bN|apply cE|apply cR|apply bR|apply lE|apply lR|apply jE|apply jR)|refine zE ?_|refine zP ?_|refine pD ?_|refine zS ?_|refine zR ?_|refine zO ?_|refine zB ?_|refine zX ?_|refine zT ?_|refine skipI rfl ?_)
      refine endR rfl ?_
      repeat' (first|exact trivial|exact rfl|refine ⟨rfl,?_⟩|refine And.intro ?_ ?_)
      exact idxF_found (d:=jDf) hil hb c2
    · repeat' (first|with_reducible (first|apply pN|apply cN|apply bN|apply cE|apply cR|apply bR|apply lE|apply lR|apply jE|apply jR)|refine zE ?_|refine zP ?_|refine pD ?_|refine zS ?_|refine zR ?_|refine zO ?_|refine zB ?_|refine zX ?_|refine zT ?_|refine skipI rfl ?_)
      refine roundI (i+1) rfl ?_ ?_ ?_
      · refine ⟨by show i+1≤List.length (α:=JobT) xs;omega,fun j hj=>?_⟩
        by_cases hji:j=i
        · subst hji;exact c2
        · exact hb j (by omega)
      · show List.length (α:=JobT) xs - (i+1) < List.length (α:=JobT) xs - i
        omega
      · repeat' (first|exact trivial|with_reducible exact rfl|refine And.intro ?_ ?_)
        all_goals rfl
  · simp only [decide_eq_false_iff_not] at c1
    repeat' (first|with_reducible (first|apply pN|apply cN|apply bN|apply cE|apply cR|apply bR|apply lE|apply lR|apply jE|apply jR)|refine zE ?_|refine zP ?_|refine pD ?_|refine zS ?_|refine zR ?_|refine zO ?_|refine zB ?_|refine zX ?_|refine zT ?_|refine skipI rfl ?_)
    refine endR rfl ?_
    repeat' (first|exact trivial|exact rfl|refine ⟨rfl,?_⟩|refine And.intro ?_ ?_)
    exact idxF_none (d:=jDf) fun j hj=>hb j (by omega)
theorem idxF_ge {α:Type} {p:α→Bool} {d:α}:∀ {xs:List α},¬ idxF p xs < 0→(idxF p xs).toNat < xs.length∧p (getI xs d (idxF p xs).toNat)=true∧∀ j:Nat,(j:Int) < idxF p xs→p (getI xs d j)=false
  | [],h=>by simp [idxF] at h
  | x::r,h=>by
    unfold idxF at h ⊢
    split
    · rename_i hp
      refine ⟨by simp,?_,fun j hj=>by omega⟩
      simpa [getI,List.getD] using hp
    · rename_i hp
      rw [if_neg hp] at h
      split at h
      · exact absurd h (by decide)
      · rename_i h1
        rw [if_neg h1]
        obtain ⟨h2,h3,h4⟩:=idxF_ge (d:=d) h1
        have e:(idxF p r+1).toNat=(idxF p r).toNat+1:=by omega
        rw [e]
        refine ⟨by simpa using h2,by simpa [getI,List.getD] using h3,fun j hj=>?_⟩
        cases j with
        | zero=>simpa [getI,List.getD] using hp
        | succ j =>
          have:=h4 j (by omega)
          simpa [getI,List.getD] using this
def pickJ (xss:List (List Bk.El)) (tool now:Int) (rs:List Int) (rc:Int) (l:List JobT):JobT × Bool :=
  if idxF (fitB xss tool now rc) (orderF rs rc l) < 0 then (jDf,false) else (getI (orderF rs rc l) jDf (idxF (fitB xss tool now rc) (orderF rs rc l)).toNat,true)
def jobV (j:JobT):AV:=.agg [.int .i64 (jLot j),.int .i64 (jRec j),.bool (jHot j),.int .i64 (jDue j),.int .i64 (jArr j),.int .i64 (jLen j),.int .i64 (jCnt j)]
def dpickS:Spec:=plain fun
  | [.ext (.cref (.pair (.int .i64) (.pair (.int .i64) (.pair (.int .i64) (.int .i64)))) xss 0),.int .i64 tool,.int .i64 now,.sl (.int .i64) rs,.int .i64 rc,.sl (.pair (.int .i64) (.pair (.int .i64) (.pair .bool (.pair (.int .i64) (.pair (.int .i64) (.pair (.int .i64) (.int .i64))))))) l] =>
    outV (Cal xss∧List.length (α:=Int) rs≤1000∧List.length (α:=JobT) l≤19) (.tup [jobV (pickJ xss tool now rs rc l).1,.bool (pickJ xss tool now rs rc l).2])
  | _=>none
def sigDp:List (Nat × Spec):=[(54,orderS),(55,jidxS)]
theorem sigDpOk:SigOk Tryz.prog (look sigDp):=sigCons (sigCons sigNil
  Tryz.func55 (by kernel_rfl) (c:=body Tryz.f55) rfl jidxOk)
  Tryz.func54 (by kernel_rfl) (c:=body Tryz.f54) rfl orderOk
theorem orderF_len (rs:List Int) (rc:Int) (l:List JobT):(orderF rs rc l).length≤l.length:=by
  unfold orderF
  split
  · rw [sortF_length];exact Nat.le_refl _
  · simp
theorem dpickOk:SpecSound Tryz.prog 27 dpickS:=by
  refine soundP (envOf sigDpOk) Tryz.func27 (c:=body Tryz.f27) rfl (by kernel_rfl) rfl ?_
  intro args out hf hpre
  split at hf <;> try (cases hf;done)
  rename_i xss tool now rs rc l
  cases hf
  refine ⟨Nat.le_of_ble_eq_true rfl,initI (args:=[.ext (.cref Bk xss 0),.int .i64 tool,.int .i64 now,.sl tInt rs,.int .i64 rc,.sl tJob l]) rfl ?_⟩
  obtain ⟨hcal,hrl,hll⟩:=hpre
  have hol:=orderF_len rs rc l
  repeat' (first|with_reducible (first|apply pN|apply cN|apply bN|apply cE|apply cR|apply bR|apply lE|apply lR|apply jE|apply jR)|refine zE ?_|refine zP ?_|refine pD ?_|refine pC (by first|exact ⟨hrl,hll⟩|exact ⟨hcal,by omega⟩) ?_|refine zS ?_|refine zR ?_|refine zO ?_|refine zB ?_|refine zX ?_|refine zT ?_|refine skipI rfl ?_)
  refine condI rfl (fun c1=>?_) (fun c1=>?_)
  · simp only [decide_eq_true_eq] at c1
    repeat' (first|with_reducible (first|apply pN|apply cN|apply bN|apply cE|apply cR|apply bR|apply lE|apply lR|apply jE|apply jR)|refine zE ?_|refine zP ?_|refine pD ?_|refine zS ?_|refine zR ?_|refine zO ?_|refine zB ?_|refine zX ?_|refine zT ?_|refine skipI rfl ?_)
    refine endR rfl ?_
    repeat' (first|exact trivial|exact rfl|refine ⟨rfl,?_⟩|refine And.intro ?_ ?_)
    all_goals (unfold pickJ;rw [if_pos c1];try rfl)
  · simp only [decide_eq_false_iff_not] at c1
    have hix:=(idxF_ge (d:=jDf) c1).1
    repeat' (first|with_reducible (first|apply pN|apply cN|apply bN|apply cE|apply cR|apply bR|apply lE|apply lR|apply jE|apply jR)|refine zE ?_|refine zP ?_|refine pD ?_|refine zS ?_|refine zR ?_|refine zO ?_|refine zB ?_|refine zX ?_|refine zT ?_|refine skipI rfl ?_)
    refine endR rfl ?_
    repeat' (first|exact trivial|exact rfl|refine ⟨rfl,?_⟩|refine And.intro ?_ ?_)
    all_goals (unfold pickJ;rw [if_neg c1];try rfl)
end Go.AM.YtkgmmmhokgdcaaaGreat
end

section
set_option linter.all false
namespace Go.AM.YtkgmmmhokgdcaaaGreat
open Go.Proofs
set_option maxRecDepth 100000
set_option maxHeartbeats 8000000
theorem errF_zero {xss:List (List Bk.El)} {b:Bk.El}:errF xss b=0↔freeF xss b=true:=by
  unfold errF
  split
  · rename_i h;simp [h]
  · rename_i h;simp [h]
end Go.AM.YtkgmmmhokgdcaaaGreat
end

section
set_option linter.all false
namespace Go.AM.YtkgmmmhokgdcaaaGreat
open Go.Proofs
set_option maxRecDepth 100000
set_option maxHeartbeats 8000000
end Go.AM.YtkgmmmhokgdcaaaGreat
end
