/- ReK, ReN. -/
import Derived.Test.YtmohhhbgcehnpaaGreatPm29
import Derived.Test.YtmohhhbgcehnpaaGreatPm28

section
set_option linter.all false
namespace Go.AM.YtmohhhbgcehnpaaGreat.Re
open Go.Proofs
set_option maxRecDepth 100000
set_option maxHeartbeats 4000000
def allFree:CalT→List Bk.El→Bool
 | _,[]=>true
 | c,b::l=>freeF c b&&allFree (bookF c b) l
theorem errB (xss:CalT) (b:Bk.El):decide (errF xss b≠0)=!freeF xss b:=by
 unfold errF
 cases freeF xss b <;> simp
def planL (e a b:Int) (xs:List tStage.El) (ws:List tWin.El) (ow:Int):List Bk.El:=Pl.bookF e a b xs ws ow
theorem planL_len {e a b:Int} {xs:List tStage.El} {ws:List tWin.El} {ow:Int}:(planL e a b xs ws ow).length≤1000:=by
 unfold planL Pl.bookF
 split
 ·rename_i h
  rw [Bool.and_eq_true] at h
  have:=(Pl.valid_facts h.1).n
  rw [Pl.bkN_length]
  omega
 ·simp
def canB (c:CalT) (e a b:Int) (xs:List tStage.El) (ws:List tWin.El) (ow:Int):Bool:=allFree c (planL e a b xs ws ow)&&decide (((planL e a b xs ws ow).length:Int) > 0)
def bookYesS:Spec:=⟨true,fun args rows=>match args,rows with
 | [.ptr 0 0,.agg [.int .i64 e,.int .i64 a,.int .i64 b,.sl (.pair (.int .i64) (.pair (.int .i64) (.pair (.pair (.int .i64) (.int .i64)) (.pair (.int .i64) (.int .i64))))) xs,.sl (.pair (.int .i64) (.pair (.int .i64) (.int .i64))) ws],.int .i64 ow],[.arr (.pair (.int .i64) (.pair (.int .i64) (.pair (.int .i64) (.int .i64)))) c none] =>
   some ⟨(CalG c∧lenF c≤800000)∧canB c e a b xs ws ow=true,.tup [.ptr 1 0,.bool true],[.arr Bk c none,.arr Bk (bookAll (planL e a b xs ws ow) c) none],true⟩
 | _,_=>none⟩
def bookNoS:Spec:=⟨true,fun args rows=>match args,rows with
 | [.ptr 0 0,.agg [.int .i64 e,.int .i64 a,.int .i64 b,.sl (.pair (.int .i64) (.pair (.int .i64) (.pair (.pair (.int .i64) (.int .i64)) (.pair (.int .i64) (.int .i64))))) xs,.sl (.pair (.int .i64) (.pair (.int .i64) (.int .i64))) ws],.int .i64 ow],[.arr (.pair (.int .i64) (.pair (.int .i64) (.pair (.int .i64) (.int .i64)))) c none] =>
   some ⟨(CalG c∧lenF c≤800000)∧canB c e a b xs ws ow=false,.tup [.ext .any,.bool false],[.arr Bk c none],true⟩
 | _,_=>none⟩
def sigBa:List (Nat × Spec):=[(82,Pl.bookS),(53,calCloneS),(30,bookS)]
theorem sigBaOk:SigOk Tryz.prog (look sigBa):=sigCons (sigCons (sigCons sigNil
 Tryz.func30 (by kernel_rfl) (c:=body Tryz.f30) rfl bookOk)
 Tryz.func53 (by kernel_rfl) (c:=body Tryz.f53) rfl calCloneOk)
 Tryz.func82 (by kernel_rfl) (c:=body Tryz.f82) rfl Pl.bookOk
theorem bookYesOk:SpecSound Tryz.prog 50 bookYesS:=by
 refine soundR (envOf sigBaOk) Tryz.func50 (c:=body Tryz.f50) rfl (by kernel_rfl) rfl ?_
 intro args rows out hf hpre
 split at hf <;> try (cases hf;done)
 rename_i e a b xs ws ow c
 cases hf
 refine ⟨Nat.le_of_ble_eq_true rfl,initI (args:=[.ptr 0 0,.agg [.int .i64 e,.int .i64 a,.int .i64 b,.sl tStage xs,.sl tWin ws],.int .i64 ow]) (rows:=[.arr Bk c none]) rfl ?_⟩
 obtain ⟨⟨hg,hl⟩,hcan⟩:=hpre
 obtain ⟨l,hll⟩:∃ l,l=planL e a b xs ws ow:=⟨_,rfl⟩
 have hlen:l.length≤1000:=by rw [hll];exact planL_len
 unfold canB at hcan
 rw [← hll] at hcan
 repeat' (first|refine zN ?_|refine zE ?_|refine zP ?_|refine zS ?_|refine zO ?_|refine zB ?_|refine zX ?_|refine zT ?_|refine skipI rfl ?_)
 refine zR ?_
 repeat' (first|with_reducible refine pN ?_|refine pD ?_|fail)
 repeat with_reducible refine cN ?_
 repeat' (first|refine zN ?_|refine zE ?_|refine zP ?_|refine zS ?_|refine zO ?_|refine zB ?_|refine zX ?_|refine zT ?_|refine skipI rfl ?_)
 refine zR ?_
 repeat' (first|with_reducible refine pN ?_|refine pD ?_|fail)
 repeat with_reducible refine cN ?_
 rw [show Pl.bookF e a b xs ws ow=l from hll.symm]
 repeat' (first|refine zN ?_|refine zE ?_|refine zP ?_|refine pD ?_|refine pC (by exact hg.cal (by omega)) ?_|refine zS ?_|refine zR ?_|refine zO ?_|refine zB ?_|refine zX ?_|refine zT ?_|refine skipI rfl ?_)
 refine loopI (σ:=Nat) (fun i=>[(9,.ptr 3000 0),(19,.int .i64 i)]) (fun i=>[(3000,.arr Bk (bookAll (l.take i) c) none)]) (fun i=>i≤l.length∧allFree c l=allFree (bookAll (l.take i) c) (l.drop i)) (fun i=>l.length - i) 0 rfl (fun _=>rfl) rfl ?_ ?_ ?_
 ·exact ⟨Nat.zero_le _,rfl⟩
 ·repeat' (first|exact trivial|exact rfl|refine ⟨rfl,?_⟩|refine And.intro ?_ ?_)
 rintro i ⟨hi,hinv⟩
 obtain ⟨hbg,hbl⟩:=bookAll_good (l:=l.take i) hg
 rw [List.length_take] at hbl
 repeat' (first|refine zN ?_|refine zE ?_|refine zP ?_|refine pD ?_|refine zS ?_|refine zR ?_|refine zO ?_|refine zB ?_|refine zX ?_|refine zT ?_|refine skipI rfl ?_)
 refine condI rfl (fun c1=>?_) (fun c1=>?_)
 ·simp only [decide_eq_true_eq] at c1
  have hil:i < l.length:=by omega
  have hin:((i:Int)).toNat=i:=by omega
  rw [drop_getI (d:=Bk.dflt) hil] at hinv
  repeat' (first|refine zN ?_|refine zE ?_|refine zP ?_|refine pD ?_|refine pC (by exact ⟨hbg.cal (by omega),hbg.sorted⟩) ?_|refine zS ?_|refine zR ?_|refine zO ?_|refine zB ?_|refine zX ?_|refine zT ?_|refine skipI rfl ?_)
  refine condI rfl (fun c2=>?_) (fun c2=>?_)
  ·have c2':freeF (bookAll (l.take i) c) (getI l Bk.dflt i)=false:=by
    have:=errB (bookAll (l.take i) c) (getI l Bk.dflt i)
    rw [show decide (errF (bookAll (l.take i) c) (getI l Bk.dflt i)≠0)=true by simp only [hin] at c2;exact c2] at this
    simpa using this.symm
   have hinv:allFree c l=(freeF (bookAll (l.take i) c) (getI l Bk.dflt i)&&_):=hinv
   rw [c2',Bool.false_and] at hinv
   rw [hinv] at hcan
   cases hcan
  ·have c2':freeF (bookAll (l.take i) c) (getI l Bk.dflt i)=true:=by
    have:=errB (bookAll (l.take i) c) (getI l Bk.dflt i)
    rw [show decide (errF (bookAll (l.take i) c) (getI l Bk.dflt i)≠0)=false by simp only [hin] at c2;exact c2] at this
    simpa using this.symm
   have hinv:allFree c l=(freeF (bookAll (l.take i) c) (getI l Bk.dflt i)&&allFree (bookF (bookAll (l.take i) c) (getI l Bk.dflt i)) (l.drop (i+1))):=hinv
   rw [c2',Bool.true_and,← bookAll_take hil] at hinv
   repeat' (first|refine zN ?_|refine zE ?_|refine zP ?_|refine pD ?_|refine zS ?_|refine zR ?_|refine zO ?_|refine zB ?_|refine zX ?_|refine zT ?_|refine skipI rfl ?_)
   refine roundI (i+1) rfl ?_ ?_ ?_
   ·exact ⟨by show i+1≤l.length;omega,hinv⟩
   ·show l.length - (i+1) < l.length - i
    omega
   ·repeat' (first|exact trivial|with_reducible exact rfl|refine And.intro ?_ ?_)
    all_goals (first|rfl|(rw [bookAll_take hil];simp only [hin];done)|(rw [bookAll_take hil];simp only [hin];rfl))
 ·simp only [decide_eq_false_iff_not] at c1
  rw [List.drop_eq_nil_of_le (by omega)] at hinv
  have hinv:allFree c l=true:=hinv
  have htk:l.take i=l:=List.take_of_length_le (by omega)
  rw [hinv,Bool.true_and] at hcan
  rw [htk]
  repeat' (first|refine zN ?_|refine zE ?_|refine zP ?_|refine pD ?_|refine zS ?_|refine zR ?_|refine zO ?_|refine zB ?_|refine zX ?_|refine zT ?_|refine skipI rfl ?_)
  refine endR rfl ?_
  rw [← hll,hcan]
  repeat' (first|exact trivial|exact rfl|refine ⟨rfl,?_⟩|refine And.intro ?_ ?_)
theorem bookNoOk:SpecSound Tryz.prog 50 bookNoS:=by
 refine soundR (envOf sigBaOk) Tryz.func50 (c:=body Tryz.f50) rfl (by kernel_rfl) rfl ?_
 intro args rows out hf hpre
 split at hf <;> try (cases hf;done)
 rename_i e a b xs ws ow c
 cases hf
 refine ⟨Nat.le_of_ble_eq_true rfl,initI (args:=[.ptr 0 0,.agg [.int .i64 e,.int .i64 a,.int .i64 b,.sl tStage xs,.sl tWin ws],.int .i64 ow]) (rows:=[.arr Bk c none]) rfl ?_⟩
 obtain ⟨⟨hg,hl⟩,hcan⟩:=hpre
 obtain ⟨l,hll⟩:∃ l,l=planL e a b xs ws ow:=⟨_,rfl⟩
 have hlen:l.length≤1000:=by rw [hll];exact planL_len
 unfold canB at hcan
 rw [← hll] at hcan
 repeat' (first|refine zN ?_|refine zE ?_|refine zP ?_|refine zS ?_|refine zO ?_|refine zB ?_|refine zX ?_|refine zT ?_|refine skipI rfl ?_)
 refine zR ?_
 repeat' (first|with_reducible refine pN ?_|refine pD ?_|fail)
 repeat with_reducible refine cN ?_
 repeat' (first|refine zN ?_|refine zE ?_|refine zP ?_|refine zS ?_|refine zO ?_|refine zB ?_|refine zX ?_|refine zT ?_|refine skipI rfl ?_)
 refine zR ?_
 repeat' (first|with_reducible refine pN ?_|refine pD ?_|fail)
 repeat with_reducible refine cN ?_
 rw [show Pl.bookF e a b xs ws ow=l from hll.symm]
 repeat' (first|refine zN ?_|refine zE ?_|refine zP ?_|refine pD ?_|refine pC (by exact hg.cal (by omega)) ?_|refine zS ?_|refine zR ?_|refine zO ?_|refine zB ?_|refine zX ?_|refine zT ?_|refine skipI rfl ?_)
 refine loopI (σ:=Nat) (fun i=>[(9,.ptr 3000 0),(19,.int .i64 i)]) (fun i=>[(3000,.arr Bk (bookAll (l.take i) c) none)]) (fun i=>i≤l.length∧allFree c l=allFree (bookAll (l.take i) c) (l.drop i)) (fun i=>l.length - i) 0 rfl (fun _=>rfl) rfl ?_ ?_ ?_
 ·exact ⟨Nat.zero_le _,rfl⟩
 ·repeat' (first|exact trivial|exact rfl|refine ⟨rfl,?_⟩|refine And.intro ?_ ?_)
 rintro i ⟨hi,hinv⟩
 obtain ⟨hbg,hbl⟩:=bookAll_good (l:=l.take i) hg
 rw [List.length_take] at hbl
 repeat' (first|refine zN ?_|refine zE ?_|refine zP ?_|refine pD ?_|refine zS ?_|refine zR ?_|refine zO ?_|refine zB ?_|refine zX ?_|refine zT ?_|refine skipI rfl ?_)
 refine condI rfl (fun c1=>?_) (fun c1=>?_)
 ·simp only [decide_eq_true_eq] at c1
  have hil:i < l.length:=by omega
  have hin:((i:Int)).toNat=i:=by omega
  rw [drop_getI (d:=Bk.dflt) hil] at hinv
  repeat' (first|refine zN ?_|refine zE ?_|refine zP ?_|refine pD ?_|refine pC (by exact ⟨hbg.cal (by omega),hbg.sorted⟩) ?_|refine zS ?_|refine zR ?_|refine zO ?_|refine zB ?_|refine zX ?_|refine zT ?_|refine skipI rfl ?_)
  refine condI rfl (fun c2=>?_) (fun c2=>?_)
  ·have c2':freeF (bookAll (l.take i) c) (getI l Bk.dflt i)=false:=by
    have:=errB (bookAll (l.take i) c) (getI l Bk.dflt i)
    rw [show decide (errF (bookAll (l.take i) c) (getI l Bk.dflt i)≠0)=true by simp only [hin] at c2;exact c2] at this
    simpa using this.symm
   have hinv:allFree c l=(freeF (bookAll (l.take i) c) (getI l Bk.dflt i)&&_):=hinv
   rw [c2',Bool.false_and] at hinv
   repeat' (first|refine zN ?_|refine zE ?_|refine zP ?_|refine pD ?_|refine zS ?_|refine zR ?_|refine zO ?_|refine zB ?_|refine zX ?_|refine zT ?_|refine skipI rfl ?_)
   refine endR rfl ?_
   repeat' (first|exact trivial|exact rfl|refine ⟨rfl,?_⟩|refine And.intro ?_ ?_)
  ·have c2':freeF (bookAll (l.take i) c) (getI l Bk.dflt i)=true:=by
    have:=errB (bookAll (l.take i) c) (getI l Bk.dflt i)
    rw [show decide (errF (bookAll (l.take i) c) (getI l Bk.dflt i)≠0)=false by simp only [hin] at c2;exact c2] at this
    simpa using this.symm
   have hinv:allFree c l=(freeF (bookAll (l.take i) c) (getI l Bk.dflt i)&&allFree (bookF (bookAll (l.take i) c) (getI l Bk.dflt i)) (l.drop (i+1))):=hinv
   rw [c2',Bool.true_and,← bookAll_take hil] at hinv
   repeat' (first|refine zN ?_|refine zE ?_|refine zP ?_|refine pD ?_|refine zS ?_|refine zR ?_|refine zO ?_|refine zB ?_|refine zX ?_|refine zT ?_|refine skipI rfl ?_)
   refine roundI (i+1) rfl ?_ ?_ ?_
   ·exact ⟨by show i+1≤l.length;omega,hinv⟩
   ·show l.length - (i+1) < l.length - i
    omega
   ·repeat' (first|exact trivial|with_reducible exact rfl|refine And.intro ?_ ?_)
    all_goals (first|rfl|(rw [bookAll_take hil];simp only [hin];done)|(rw [bookAll_take hil];simp only [hin];rfl))
 ·simp only [decide_eq_false_iff_not] at c1
  rw [List.drop_eq_nil_of_le (by omega)] at hinv
  have hinv:allFree c l=true:=hinv
  have htk:l.take i=l:=List.take_of_length_le (by omega)
  rw [hinv,Bool.true_and] at hcan
  repeat' (first|refine zN ?_|refine zE ?_|refine zP ?_|refine pD ?_|refine zS ?_|refine zR ?_|refine zO ?_|refine zB ?_|refine zX ?_|refine zT ?_|refine skipI rfl ?_)
  refine endR rfl ?_
  rw [hcan]
  repeat' (first|exact trivial|exact rfl|refine ⟨rfl,?_⟩|refine And.intro ?_ ?_)
def rbYesS:Spec:=⟨true,fun args rows=>match args,rows with
 | [.ptr 0 0,.agg [.int .i64 e,.int .i64 a,.int .i64 b,.sl (.pair (.int .i64) (.pair (.int .i64) (.pair (.pair (.int .i64) (.int .i64)) (.pair (.int .i64) (.int .i64))))) xs,.sl (.pair (.int .i64) (.pair (.int .i64) (.int .i64))) ws],.int .i64 ow],[.arr (.pair (.int .i64) (.pair (.int .i64) (.pair (.int .i64) (.int .i64)))) c none] =>
   some ⟨(CalG c∧lenF c≤800000)∧canB c e a b xs ws ow=true,.int .i64 0,[.arr Bk (bookAll (planL e a b xs ws ow) c) none],true⟩
 | _,_=>none⟩
def rbNoS:Spec:=⟨true,fun args rows=>match args,rows with
 | [.ptr 0 0,.agg [.int .i64 e,.int .i64 a,.int .i64 b,.sl (.pair (.int .i64) (.pair (.int .i64) (.pair (.pair (.int .i64) (.int .i64)) (.pair (.int .i64) (.int .i64))))) xs,.sl (.pair (.int .i64) (.pair (.int .i64) (.int .i64))) ws],.int .i64 ow],[.arr (.pair (.int .i64) (.pair (.int .i64) (.pair (.int .i64) (.int .i64)))) c none] =>
   some ⟨(CalG c∧lenF c≤800000)∧canB c e a b xs ws ow=false,.int .i64 100,[.arr Bk c none],true⟩
 | _,_=>none⟩
def rbNilS:Spec:=⟨true,fun args rows=>match args,rows with
 | [.nilptr,.agg [.int .i64 e,.int .i64 a,.int .i64 b,.sl (.pair (.int .i64) (.pair (.int .i64) (.pair (.pair (.int .i64) (.int .i64)) (.pair (.int .i64) (.int .i64))))) xs,.sl (.pair (.int .i64) (.pair (.int .i64) (.int .i64))) ws],.int .i64 ow],[]=>some ⟨True,.int .i64 1,[],true⟩
 | _,_=>none⟩
def rbCal (c:CalT) (e a b:Int) (xs:List tStage.El) (ws:List tWin.El) (ow:Int):CalT:=bif canB c e a b xs ws ow then bookAll (planL e a b xs ws ow) c else c
def rbErr (c:CalT) (e a b:Int) (xs:List tStage.El) (ws:List tWin.El) (ow:Int):Int:=bif canB c e a b xs ws ow then 0 else 100
def reBookS:Spec:=⟨true,fun args rows=>match args,rows with
 | [.nilptr,.agg [.int .i64 e,.int .i64 a,.int .i64 b,.sl (.pair (.int .i64) (.pair (.int .i64) (.pair (.pair (.int .i64) (.int .i64)) (.pair (.int .i64) (.int .i64))))) xs,.sl (.pair (.int .i64) (.pair (.int .i64) (.int .i64))) ws],.int .i64 ow],[]=>some ⟨True,.int .i64 1,[],true⟩
 | [.ptr 0 0,.agg [.int .i64 e,.int .i64 a,.int .i64 b,.sl (.pair (.int .i64) (.pair (.int .i64) (.pair (.pair (.int .i64) (.int .i64)) (.pair (.int .i64) (.int .i64))))) xs,.sl (.pair (.int .i64) (.pair (.int .i64) (.int .i64))) ws],.int .i64 ow],[.arr (.pair (.int .i64) (.pair (.int .i64) (.pair (.int .i64) (.int .i64)))) c none] =>
   some ⟨CalG c∧lenF c≤800000,.int .i64 (rbErr c e a b xs ws ow),[.arr Bk (rbCal c e a b xs ws ow) none],true⟩
 | _,_=>none⟩
def sigRbY:List (Nat × Spec):=[(50,bookYesS)]
theorem sigRbYOk:SigOk Tryz.prog (look sigRbY):=sigCons sigNil Tryz.func50 (by kernel_rfl) (c:=body Tryz.f50) rfl bookYesOk
def sigRbN:List (Nat × Spec):=[(50,bookNoS)]
theorem sigRbNOk:SigOk Tryz.prog (look sigRbN):=sigCons sigNil Tryz.func50 (by kernel_rfl) (c:=body Tryz.f50) rfl bookNoOk
theorem rbYesOk:SpecSound Tryz.prog 25 rbYesS:=by
 refine soundR (envOf sigRbYOk) Tryz.func25 (c:=body Tryz.f25) rfl (by kernel_rfl) rfl ?_
 intro args rows out hf hpre
 split at hf <;> try (cases hf;done)
 rename_i e a b xs ws ow c
 cases hf
 refine ⟨Nat.le_of_ble_eq_true rfl,initI (args:=[.ptr 0 0,.agg [.int .i64 e,.int .i64 a,.int .i64 b,.sl tStage xs,.sl tWin ws],.int .i64 ow]) (rows:=[.arr Bk c none]) rfl ?_⟩
 have hg:=hpre.1.1
 have hgb:=(bookAll_good (l:=planL e a b xs ws ow) hg).1
 repeat' (first|refine zN ?_|refine zE ?_|refine zP ?_|refine pD ?_|refine zS ?_|refine zR ?_|refine zO ?_|refine zB ?_|refine zX ?_|refine zT ?_|refine skipI rfl ?_)
 refine condF rfl ?_
 repeat' (first|refine zN ?_|refine zE ?_|refine zP ?_|refine pD ?_|refine pC (by exact hpre) ?_|refine zS ?_|refine zR ?_|refine zO ?_|refine zB ?_|refine zX ?_|refine zT ?_|refine skipI rfl ?_)
 refine condF rfl ?_
 repeat' (first|with_reducible refine cN ?_|refine zS ?_|refine skipI rfl ?_)
 refine moveI rfl rfl rfl rfl rfl rfl rfl rfl rfl rfl rfl hgb.len hg.len ?_
 repeat' (first|refine zN ?_|refine zE ?_|refine zP ?_|refine pD ?_|refine zS ?_|refine zR ?_|refine zO ?_|refine zB ?_|refine zX ?_|refine zT ?_|refine skipI rfl ?_)
 refine endR rfl ?_
 repeat' (first|exact trivial|exact rfl|refine ⟨rfl,?_⟩|refine And.intro ?_ ?_)
theorem rbNoOk:SpecSound Tryz.prog 25 rbNoS:=by
 refine soundR (envOf sigRbNOk) Tryz.func25 (c:=body Tryz.f25) rfl (by kernel_rfl) rfl ?_
 intro args rows out hf hpre
 split at hf <;> try (cases hf;done)
 rename_i e a b xs ws ow c
 cases hf
 refine ⟨Nat.le_of_ble_eq_true rfl,initI (args:=[.ptr 0 0,.agg [.int .i64 e,.int .i64 a,.int .i64 b,.sl tStage xs,.sl tWin ws],.int .i64 ow]) (rows:=[.arr Bk c none]) rfl ?_⟩
 repeat' (first|refine zN ?_|refine zE ?_|refine zP ?_|refine pD ?_|refine zS ?_|refine zR ?_|refine zO ?_|refine zB ?_|refine zX ?_|refine zT ?_|refine skipI rfl ?_)
 refine condF rfl ?_
 repeat' (first|refine zN ?_|refine zE ?_|refine zP ?_|refine pD ?_|refine pC (by exact hpre) ?_|refine zS ?_|refine zR ?_|refine zO ?_|refine zB ?_|refine zX ?_|refine zT ?_|refine skipI rfl ?_)
 refine condT rfl ?_
 repeat' (first|refine zN ?_|refine zE ?_|refine zP ?_|refine pD ?_|refine zS ?_|refine zR ?_|refine zO ?_|refine zB ?_|refine zX ?_|refine zT ?_|refine skipI rfl ?_)
 refine endR rfl ?_
 repeat' (first|exact trivial|exact rfl|refine ⟨rfl,?_⟩|refine And.intro ?_ ?_)
theorem rbNilOk:SpecSound Tryz.prog 25 rbNilS:=by
 refine soundR (envOf sigRbNOk) Tryz.func25 (c:=body Tryz.f25) rfl (by kernel_rfl) rfl ?_
 intro args rows out hf hpre
 split at hf <;> try (cases hf;done)
 rename_i e a b xs ws ow
 cases hf
 refine ⟨Nat.le_of_ble_eq_true rfl,initI (args:=[.nilptr,.agg [.int .i64 e,.int .i64 a,.int .i64 b,.sl tStage xs,.sl tWin ws],.int .i64 ow]) (rows:=[]) rfl ?_⟩
 repeat' (first|refine zN ?_|refine zE ?_|refine zP ?_|refine pD ?_|refine zS ?_|refine zR ?_|refine zO ?_|refine zB ?_|refine zX ?_|refine zT ?_|refine skipI rfl ?_)
 refine condT rfl ?_
 repeat' (first|refine zN ?_|refine zE ?_|refine zP ?_|refine pD ?_|refine zS ?_|refine zR ?_|refine zO ?_|refine zB ?_|refine zX ?_|refine zT ?_|refine skipI rfl ?_)
 refine endR rfl ?_
 repeat' (first|exact trivial|exact rfl|refine ⟨rfl,?_⟩|refine And.intro ?_ ?_)
theorem reBookOk:SpecSound Tryz.prog 25 reBookS:=by
 intro args rows out hf hpre
 unfold reBookS at hf
 dsimp only at hf
 split at hf <;> try (cases hf;done)
 ·cases hf
  exact rbNilOk _ _ _ rfl hpre
 ·rename_i e a b xs ws ow c
  cases hf
  cases hc:canB c e a b xs ws ow with
  | true =>
    rw [show rbErr c e a b xs ws ow=0 by unfold rbErr;rw [hc];rfl,show rbCal c e a b xs ws ow=bookAll (planL e a b xs ws ow) c by unfold rbCal;rw [hc];rfl]
    exact rbYesOk _ _ ⟨(CalG c∧lenF c≤800000)∧canB c e a b xs ws ow=true,.int .i64 0,[.arr Bk (bookAll (planL e a b xs ws ow) c) none],true⟩ rfl ⟨hpre,hc⟩
  | false =>
    rw [show rbErr c e a b xs ws ow=100 by unfold rbErr;rw [hc];rfl,show rbCal c e a b xs ws ow=c by unfold rbCal;rw [hc];rfl]
    exact rbNoOk _ _ ⟨(CalG c∧lenF c≤800000)∧canB c e a b xs ws ow=false,.int .i64 100,[.arr Bk c none],true⟩ rfl ⟨hpre,hc⟩
end Go.AM.YtmohhhbgcehnpaaGreat.Re
end

section
set_option linter.all false
namespace Go.AM.YtmohhhbgcehnpaaGreat.Re
open Go.Proofs
set_option maxRecDepth 100000
set_option maxHeartbeats 4000000
theorem freed_len {xss:CalT} {o:Int}:lenF (freedF xss o)≤lenF xss:=by
 induction xss with
 | nil=>exact Nat.le_refl _
 | cons x r ih =>
   have h1:lenF (freedF (x::r) o)=(delF x o).length+lenF (freedF r o):=by simp [lenF,freedF]
   have h2:lenF (x::r)=x.length+lenF r:=by simp [lenF]
   have:=delF_len x o
   omega
theorem rvalid_win {e a b:Int} {ns:List tNeed.El} {ws:List tWin.El} (h:rvalidF e a b ns ws=true):∀ w∈ws,WiSm ns.length w.1 w.2.1 w.2.2:=fun w hw=>by
 unfold rvalidF at h
 simp only [Bool.and_eq_true,Bool.not_eq_true'] at h
 obtain ⟨⟨h1,h2⟩,h3⟩:=h
 obtain ⟨i,hi,rfl⟩:=List.getElem_of_mem hw
 have h4:=any_false_mem h3 i (List.mem_range.2 hi)
 unfold winBad at h4
 rw [show getI ws tWin.dflt i=ws[i] by simp [getI,List.getD,List.getElem?_eq_getElem hi]] at h4
 simp only [Bool.or_eq_false_iff,Bool.not_eq_false'] at h4
 obtain ⟨⟨⟨h5,h6⟩,h7⟩,_⟩:=h4
 have h5:=inF_true h5
 have h6:=inF_true h6
 have h7:=inF_true h7
 unfold WiSm
 have k1:(0:Int)≤ws[i].1:=h5.1
 have k2:(ws[i].1:Int)≤(ns.length:Int) - 1:=h5.2
 have k3:(ws[i].1:Int)+1≤ws[i].2.1:=h6.1
 have k4:(ws[i].2.1:Int)≤(ns.length:Int) - 1:=h6.2
 exact ⟨k1,by omega,by omega,by omega,h7.1,h7.2⟩
def askB (e a b:Int) (xs:List tStage.El) (pws:List tWin.El) (re ra rb:Int) (ns:List tNeed.El) (ws:List tWin.El) (ow done:Int):Bool :=
 !((((((!rvalidF re ra rb ns ws||!Pl.validF e a b xs pws)||decide ((xs.length:Int)≠(ns.length:Int)))||decide (ow < 1))||decide (ow > 1000000))||decide (done < 0))||decide (done≥(ns.length:Int)))
def repG (c:CalT) (e a b:Int) (xs:List tStage.El) (pws:List tWin.El) (re ra rb:Int) (ns:List tNeed.El) (ws:List tWin.El) (ow done entry failed:Int):BestT :=
 bif askB e a b xs pws re ra rb ns ws ow done&&rvalidF entry ra rb (restN ns done failed) (restF xs ws done).2 then
  match bestG (freedF c ow) entry ra rb (restN ns done failed) (restF xs ws done).2 (restF xs ws done).1 with
  | some x=>bif canB (freedF c ow) entry ra rb x.1 (restF xs ws done).2 ow then some x else none
  | none=>none
 else none
def repCal (c:CalT) (o:BestT) (entry ra rb:Int) (rws:List tWin.El) (ow:Int):CalT:=match o with
 | some x=>bookAll (planL entry ra rb x.1 rws ow) (freedF c ow)
 | none=>c
def RepP (c:CalT) (ns:List tNeed.El) (ws:List tWin.El):Prop:=(CalG c∧lenF c≤700000)∧ns.length≤1000000∧ws.length≤1000000
def repYesS:Spec:=⟨true,fun args rows=>match args,rows with
 | [.ptr 0 0,.agg [.int .i64 e,.int .i64 a,.int .i64 b,.sl (.pair (.int .i64) (.pair (.int .i64) (.pair (.pair (.int .i64) (.int .i64)) (.pair (.int .i64) (.int .i64))))) xs,.sl (.pair (.int .i64) (.pair (.int .i64) (.int .i64))) pws],
    .agg [.int .i64 re,.int .i64 ra,.int .i64 rb,.sl (.pair (.slice (.int .i64)) (.pair (.int .i64) (.int .i64))) ns,.sl (.pair (.int .i64) (.pair (.int .i64) (.int .i64))) ws],.int .i64 ow,.int .i64 done,.int .i64 entry,.int .i64 failed],
   [.arr (.pair (.int .i64) (.pair (.int .i64) (.pair (.int .i64) (.int .i64)))) c none] =>
   some ⟨RepP c ns ws∧(repG c e a b xs pws re ra rb ns ws ow done entry failed).isSome=true,
    .tup [.agg [.int .i64 entry,.int .i64 ra,.int .i64 rb,.sl tStage (bStg (repG c e a b xs pws re ra rb ns ws ow done entry failed)),.sl tWin (restF xs ws done).2],.int .i64 0],
    [.arr Bk (repCal c (repG c e a b xs pws re ra rb ns ws ow done entry failed) entry ra rb (restF xs ws done).2 ow) none],true⟩
 | _,_=>none⟩
def repNoS:Spec:=⟨true,fun args rows=>match args,rows with
 | [.ptr 0 0,.agg [.int .i64 e,.int .i64 a,.int .i64 b,.sl (.pair (.int .i64) (.pair (.int .i64) (.pair (.pair (.int .i64) (.int .i64)) (.pair (.int .i64) (.int .i64))))) xs,.sl (.pair (.int .i64) (.pair (.int .i64) (.int .i64))) pws],
    .agg [.int .i64 re,.int .i64 ra,.int .i64 rb,.sl (.pair (.slice (.int .i64)) (.pair (.int .i64) (.int .i64))) ns,.sl (.pair (.int .i64) (.pair (.int .i64) (.int .i64))) ws],.int .i64 ow,.int .i64 done,.int .i64 entry,.int .i64 failed],
   [.arr (.pair (.int .i64) (.pair (.int .i64) (.pair (.int .i64) (.int .i64)))) c none] =>
   some ⟨RepP c ns ws∧(repG c e a b xs pws re ra rb ns ws ow done entry failed).isSome=false,
    .tup [.agg [.int .i64 0,.int .i64 0,.int .i64 0,.sl tStage [],.sl tWin []],.int .i64 100],[.arr Bk c none],true⟩
 | _,_=>none⟩
def repairS:Spec:=⟨true,fun args rows=>match args,rows with
 | [.ptr 0 0,.agg [.int .i64 e,.int .i64 a,.int .i64 b,.sl (.pair (.int .i64) (.pair (.int .i64) (.pair (.pair (.int .i64) (.int .i64)) (.pair (.int .i64) (.int .i64))))) xs,.sl (.pair (.int .i64) (.pair (.int .i64) (.int .i64))) pws],
    .agg [.int .i64 re,.int .i64 ra,.int .i64 rb,.sl (.pair (.slice (.int .i64)) (.pair (.int .i64) (.int .i64))) ns,.sl (.pair (.int .i64) (.pair (.int .i64) (.int .i64))) ws],.int .i64 ow,.int .i64 done,.int .i64 entry,.int .i64 failed],
   [.arr (.pair (.int .i64) (.pair (.int .i64) (.pair (.int .i64) (.int .i64)))) c none] =>
   some ⟨RepP c ns ws,
    .tup [.agg [.int .i64 (sel (repG c e a b xs pws re ra rb ns ws ow done entry failed) entry 0),.int .i64 (sel (repG c e a b xs pws re ra rb ns ws ow done entry failed) ra 0),.int .i64 (sel (repG c e a b xs pws re ra rb ns ws ow done entry failed) rb 0),
     .sl tStage (bStg (repG c e a b xs pws re ra rb ns ws ow done entry failed)),.sl tWin (sel (repG c e a b xs pws re ra rb ns ws ow done entry failed) (restF xs ws done).2 [])],.int .i64 (sel (repG c e a b xs pws re ra rb ns ws ow done entry failed) 0 100)],
    [.arr Bk (repCal c (repG c e a b xs pws re ra rb ns ws ow done entry failed) entry ra rb (restF xs ws done).2 ow) none],true⟩
 | _,_=>none⟩
def sigRep (s:Spec):List (Nat × Spec):=[(9,rvalidS),(51,Pl.validS),(52,restS),(53,calCloneS),(54,freeS),(36,bestS),(50,s)]
theorem sigRepOk {s:Spec} (h:SpecSound Tryz.prog 50 s):SigOk Tryz.prog (look (sigRep s)):=sigCons (sigCons (sigCons (sigCons (sigCons (sigCons (sigCons sigNil
 Tryz.func50 (by kernel_rfl) (c:=body Tryz.f50) rfl h)
 Tryz.func36 (by kernel_rfl) (c:=body Tryz.f36) rfl bestOk)
 Tryz.func54 (by kernel_rfl) (c:=body Tryz.f54) rfl freeOk)
 Tryz.func53 (by kernel_rfl) (c:=body Tryz.f53) rfl calCloneOk)
 Tryz.func52 (by kernel_rfl) (c:=body Tryz.f52) rfl restOk)
 Tryz.func51 (by kernel_rfl) (c:=body Tryz.f51) rfl Pl.validOk)
 Tryz.func9 (by kernel_rfl) (c:=body Tryz.f9) rfl rvalidOk
theorem sigRepYesOk:SigOk Tryz.prog (look (sigRep bookYesS)):=sigRepOk bookYesOk
theorem sigRepNoOk:SigOk Tryz.prog (look (sigRep bookNoS)):=sigRepOk bookNoOk
theorem askB_rest {e a b:Int} {xs:List tStage.El} {pws:List tWin.El} {re ra rb:Int} {ns:List tNeed.El} {ws:List tWin.El} {ow done:Int} (h:askB e a b xs pws re ra rb ns ws ow done=true):RestP xs ns ws done∧(restN ns done 0).length≤1000000:=by
 unfold askB at h
 simp only [Bool.not_eq_true',Bool.or_eq_false_iff,Bool.not_eq_false',decide_eq_false_iff_not] at h
 obtain ⟨⟨⟨⟨⟨⟨h1,h2⟩,h3⟩,h4⟩,h5⟩,h6⟩,h7⟩:=h
 obtain ⟨f1,f2,f3,f4⟩:=rvalid_facts h1
 obtain ⟨_,g2,g3,_⟩:=facts_slots (Pl.valid_facts h2)
 have hxn:xs.length=ns.length:=by omega
 refine ⟨⟨⟨by omega,by omega⟩,⟨by omega,hxn⟩,fun x hx=>by have:=(f4 x hx).1.2;omega,by omega,g3,fun w hw=>?_⟩,?_⟩
 ·rw [hxn];exact rvalid_win h1 w hw
 ·unfold restN;rw [List.length_map,List.length_drop];omega
theorem restF_len {xs:List tStage.El} {ws:List tWin.El} {done:Int}:(restF xs ws done).2.length≤ws.length:=by
 have:∀ (l:List tWin.El) (s:RestT),(l.foldl (restStep xs done) s).2.length≤s.2.length+l.length:=fun l=>by
  induction l with
  | nil=>intro s;simp
  | cons x r ih =>
    intro s
    refine Nat.le_trans (ih _) ?_
    have:(restStep xs done s x).2.length≤s.2.length+1:=by
     unfold restStep
     cases decide (x.1≥done)
     ·cases decide (x.2.1≥done) <;> simp
     ·simp
    simp only [List.length_cons]
    omega
 have h:=this ws ([],[])
 simp only [List.length_nil,Nat.zero_add] at h
 exact h
theorem repYesOk:SpecSound Tryz.prog 26 repYesS:=by
 refine soundR (envOf sigRepYesOk) Tryz.func26 (c:=body Tryz.f26) rfl (by kernel_rfl) rfl ?_
 intro args rows out hf hpre
 split at hf <;> try (cases hf;done)
 rename_i e a b xs pws re ra rb ns ws ow done entry failed c
 cases hf
 refine ⟨Nat.le_of_ble_eq_true rfl,initI (args:=[.ptr 0 0,.agg [.int .i64 e,.int .i64 a,.int .i64 b,.sl tStage xs,.sl tWin pws],.agg [.int .i64 re,.int .i64 ra,.int .i64 rb,.sl tNeed ns,.sl tWin ws],.int .i64 ow,.int .i64 done,.int .i64 entry,.int .i64 failed]) (rows:=[.arr Bk c none]) rfl ?_⟩
 obtain ⟨⟨⟨hg,hl⟩,hn,hw⟩,hos⟩:=hpre
 obtain ⟨o,ho⟩:∃ o,o=repG c e a b xs pws re ra rb ns ws ow done entry failed:=⟨_,rfl⟩
 rw [← ho] at hos ⊢
 have hfg:=freed_good hg ow
 have hfl:=freed_len (xss:=c) (o:=ow)
 unfold repG at ho
 repeat' (first|refine zN ?_|refine zE ?_|refine zP ?_|refine pD ?_|refine zS ?_|refine zR ?_|refine zO ?_|refine zB ?_|refine zX ?_|refine zT ?_|refine skipI rfl ?_)
 refine condF rfl ?_
 repeat' (first|refine zN ?_|refine zE ?_|refine zP ?_|refine pD ?_|refine pC (by exact ⟨hn,hw⟩) ?_|refine zS ?_|refine zR ?_|refine zO ?_|refine zB ?_|refine zX ?_|refine zT ?_|refine skipI rfl ?_)
 refine condI rfl (fun c1=>?_) (fun c1=>?_)
 ·have h1:askB e a b xs pws re ra rb ns ws ow done=false:=by unfold askB;rw [Bool.not_eq_false'];exact c1
  rw [h1,Bool.false_and,cond_false] at ho
  subst ho
  cases hos
 have h1:askB e a b xs pws re ra rb ns ws ow done=true:=by unfold askB;rw [Bool.not_eq_true'];exact c1
 rw [h1,Bool.true_and] at ho
 obtain ⟨hrp,hrl⟩:=askB_rest h1
 have hrw:=restF_len (xs:=xs) (ws:=ws) (done:=done)
 have hrl:(restN ns done failed).length≤1000000:=by unfold restN at hrl ⊢;simpa using hrl
 obtain ⟨rn,hrn⟩:∃ rn,rn=restN ns done failed:=⟨_,rfl⟩
 obtain ⟨rw',hrw'⟩:∃ rw',rw'=(restF xs ws done).2:=⟨_,rfl⟩
 obtain ⟨rd,hrd⟩:∃ rd,rd=(restF xs ws done).1:=⟨_,rfl⟩
 rw [← hrn,← hrw',← hrd] at ho
 rw [← hrn] at hrl
 rw [← hrw'] at hrw
 try rw [← hrw']
 repeat' (first|refine zN ?_|refine zE ?_|refine zP ?_|refine zS ?_|refine zO ?_|refine zB ?_|refine zX ?_|refine zT ?_|refine skipI rfl ?_)
 refine zR ?_
 repeat' (first|with_reducible refine pN ?_|refine pD ?_|refine pC (by exact hrp) ?_)
 repeat with_reducible refine cN ?_
 simp only [← hrn,← hrw',← hrd]
 repeat' (first|refine zN ?_|refine zE ?_|refine zP ?_|refine pD ?_|refine pC (by (exact ⟨hrl,by omega⟩)) ?_|refine zS ?_|refine zR ?_|refine zO ?_|refine zB ?_|refine zX ?_|refine zT ?_|refine skipI rfl ?_)
 refine condI rfl (fun c2=>?_) (fun c2=>?_)
 ·have h2:rvalidF entry ra rb rn rw'=false:=by simpa using c2
  rw [h2,cond_false] at ho
  subst ho
  cases hos
 have h2:rvalidF entry ra rb rn rw'=true:=by simpa using c2
 rw [h2,cond_true] at ho
 repeat' (first|refine zN ?_|refine zE ?_|refine zP ?_|refine zS ?_|refine zO ?_|refine zB ?_|refine zX ?_|refine zT ?_|refine skipI rfl ?_)
 refine zR ?_
 repeat' (first|with_reducible refine pN ?_|refine pD ?_|refine pC (by first|exact hg.cal (by omega)|exact hfg.cal (by omega)|exact rvalid_best hfg (by omega) h2) ?_)
 repeat with_reducible refine cN ?_
 repeat' (first|refine zN ?_|refine zE ?_|refine zP ?_|refine zS ?_|refine zO ?_|refine zB ?_|refine zX ?_|refine zT ?_|refine skipI rfl ?_)
 refine zR ?_
 repeat' (first|with_reducible refine pN ?_|refine pD ?_|refine pC (by first|exact hg.cal (by omega)|exact hfg.cal (by omega)|exact rvalid_best hfg (by omega) h2) ?_)
 repeat with_reducible refine cN ?_
 repeat' (first|refine zN ?_|refine zE ?_|refine zP ?_|refine zS ?_|refine zO ?_|refine zB ?_|refine zX ?_|refine zT ?_|refine skipI rfl ?_)
 refine zR ?_
 repeat' (first|with_reducible refine pN ?_|refine pD ?_|refine pC (by first|exact hg.cal (by omega)|exact hfg.cal (by omega)|exact rvalid_best hfg (by omega) h2) ?_)
 repeat with_reducible refine cN ?_
 cases hb:bestG (freedF c ow) entry ra rb rn rw' rd with
 | none =>
   rw [hb] at ho
   subst ho
   repeat' (first|refine zN ?_|refine zE ?_|refine zP ?_|refine pD ?_|refine zS ?_|refine zR ?_|refine zO ?_|refine zB ?_|refine zX ?_|refine zT ?_|refine skipI rfl ?_)
   refine condT rfl ?_
   cases hos
 | some x =>
   rw [hb] at ho
   have ho:o=bif canB (freedF c ow) entry ra rb x.1 rw' ow then some x else none:=ho
   repeat' (first|refine zN ?_|refine zE ?_|refine zP ?_|refine pD ?_|refine zS ?_|refine zR ?_|refine zO ?_|refine zB ?_|refine zX ?_|refine zT ?_|refine skipI rfl ?_)
   refine condF rfl ?_
   cases hcan:canB (freedF c ow) entry ra rb x.1 rw' ow with
   | false =>
     rw [hcan] at ho
     subst ho
     cases hos
   | true =>
     rw [hcan,cond_true] at ho
     subst ho
     have hgb:=(bookAll_good (l:=planL entry ra rb x.1 rw' ow) hfg).1
     repeat' (first|refine zN ?_|refine zE ?_|refine zP ?_|refine pD ?_|refine pC (by exact ⟨⟨hfg,by omega⟩,hcan⟩) ?_|refine zS ?_|refine zR ?_|refine zO ?_|refine zB ?_|refine zX ?_|refine zT ?_|refine skipI rfl ?_)
     refine condF rfl ?_
     repeat' (first|with_reducible refine cN ?_|refine zS ?_|refine skipI rfl ?_)
     refine moveI rfl rfl rfl rfl rfl rfl rfl rfl rfl rfl rfl hgb.len hg.len ?_
     repeat' (first|refine zN ?_|refine zE ?_|refine zP ?_|refine pD ?_|refine zS ?_|refine zR ?_|refine zO ?_|refine zB ?_|refine zX ?_|refine zT ?_|refine skipI rfl ?_)
     refine endR rfl ?_
     repeat' (first|exact trivial|exact rfl|refine ⟨rfl,?_⟩|refine And.intro ?_ ?_)
theorem repNoOk:SpecSound Tryz.prog 26 repNoS:=by
 refine soundR (envOf sigRepNoOk) Tryz.func26 (c:=body Tryz.f26) rfl (by kernel_rfl) rfl ?_
 intro args rows out hf hpre
 split at hf <;> try (cases hf;done)
 rename_i e a b xs pws re ra rb ns ws ow done entry failed c
 cases hf
 refine ⟨Nat.le_of_ble_eq_true rfl,initI (args:=[.ptr 0 0,.agg [.int .i64 e,.int .i64 a,.int .i64 b,.sl tStage xs,.sl tWin pws],.agg [.int .i64 re,.int .i64 ra,.int .i64 rb,.sl tNeed ns,.sl tWin ws],.int .i64 ow,.int .i64 done,.int .i64 entry,.int .i64 failed]) (rows:=[.arr Bk c none]) rfl ?_⟩
 obtain ⟨⟨⟨hg,hl⟩,hn,hw⟩,hos⟩:=hpre
 obtain ⟨o,ho⟩:∃ o,o=repG c e a b xs pws re ra rb ns ws ow done entry failed:=⟨_,rfl⟩
 rw [← ho] at hos ⊢
 have hfg:=freed_good hg ow
 have hfl:=freed_len (xss:=c) (o:=ow)
 unfold repG at ho
 repeat' (first|refine zN ?_|refine zE ?_|refine zP ?_|refine pD ?_|refine zS ?_|refine zR ?_|refine zO ?_|refine zB ?_|refine zX ?_|refine zT ?_|refine skipI rfl ?_)
 refine condF rfl ?_
 repeat' (first|refine zN ?_|refine zE ?_|refine zP ?_|refine pD ?_|refine pC (by exact ⟨hn,hw⟩) ?_|refine zS ?_|refine zR ?_|refine zO ?_|refine zB ?_|refine zX ?_|refine zT ?_|refine skipI rfl ?_)
 refine condI rfl (fun c1=>?_) (fun c1=>?_)
 ·have h1:askB e a b xs pws re ra rb ns ws ow done=false:=by unfold askB;rw [Bool.not_eq_false'];exact c1
  rw [h1,Bool.false_and,cond_false] at ho
  subst ho
  repeat' (first|refine zN ?_|refine zE ?_|refine zP ?_|refine pD ?_|refine zS ?_|refine zR ?_|refine zO ?_|refine zB ?_|refine zX ?_|refine zT ?_|refine skipI rfl ?_)
  refine endR rfl ?_
  repeat' (first|exact trivial|exact rfl|refine ⟨rfl,?_⟩|refine And.intro ?_ ?_)
 have h1:askB e a b xs pws re ra rb ns ws ow done=true:=by unfold askB;rw [Bool.not_eq_true'];exact c1
 rw [h1,Bool.true_and] at ho
 obtain ⟨hrp,hrl⟩:=askB_rest h1
 have hrw:=restF_len (xs:=xs) (ws:=ws) (done:=done)
 have hrl:(restN ns done failed).length≤1000000:=by unfold restN at hrl ⊢;simpa using hrl
 obtain ⟨rn,hrn⟩:∃ rn,rn=restN ns done failed:=⟨_,rfl⟩
 obtain ⟨rw',hrw'⟩:∃ rw',rw'=(restF xs ws done).2:=⟨_,rfl⟩
 obtain ⟨rd,hrd⟩:∃ rd,rd=(restF xs ws done).1:=⟨_,rfl⟩
 rw [← hrn,← hrw',← hrd] at ho
 rw [← hrn] at hrl
 rw [← hrw'] at hrw
 try rw [← hrw']
 repeat' (first|refine zN ?_|refine zE ?_|refine zP ?_|refine zS ?_|refine zO ?_|refine zB ?_|refine zX ?_|refine zT ?_|refine skipI rfl ?_)
 refine zR ?_
 repeat' (first|with_reducible refine pN ?_|refine pD ?_|refine pC (by exact hrp) ?_)
 repeat with_reducible refine cN ?_
 simp only [← hrn,← hrw',← hrd]
 repeat' (first|refine zN ?_|refine zE ?_|refine zP ?_|refine pD ?_|refine pC (by (exact ⟨hrl,by omega⟩)) ?_|refine zS ?_|refine zR ?_|refine zO ?_|refine zB ?_|refine zX ?_|refine zT ?_|refine skipI rfl ?_)
 refine condI rfl (fun c2=>?_) (fun c2=>?_)
 ·have h2:rvalidF entry ra rb rn rw'=false:=by simpa using c2
  rw [h2,cond_false] at ho
  subst ho
  repeat' (first|refine zN ?_|refine zE ?_|refine zP ?_|refine pD ?_|refine zS ?_|refine zR ?_|refine zO ?_|refine zB ?_|refine zX ?_|refine zT ?_|refine skipI rfl ?_)
  refine endR rfl ?_
  repeat' (first|exact trivial|exact rfl|refine ⟨rfl,?_⟩|refine And.intro ?_ ?_)
 have h2:rvalidF entry ra rb rn rw'=true:=by simpa using c2
 rw [h2,cond_true] at ho
 repeat' (first|refine zN ?_|refine zE ?_|refine zP ?_|refine zS ?_|refine zO ?_|refine zB ?_|refine zX ?_|refine zT ?_|refine skipI rfl ?_)
 refine zR ?_
 repeat' (first|with_reducible refine pN ?_|refine pD ?_|refine pC (by first|exact hg.cal (by omega)|exact hfg.cal (by omega)|exact rvalid_best hfg (by omega) h2) ?_)
 repeat with_reducible refine cN ?_
 repeat' (first|refine zN ?_|refine zE ?_|refine zP ?_|refine zS ?_|refine zO ?_|refine zB ?_|refine zX ?_|refine zT ?_|refine skipI rfl ?_)
 refine zR ?_
 repeat' (first|with_reducible refine pN ?_|refine pD ?_|refine pC (by first|exact hg.cal (by omega)|exact hfg.cal (by omega)|exact rvalid_best hfg (by omega) h2) ?_)
 repeat with_reducible refine cN ?_
 repeat' (first|refine zN ?_|refine zE ?_|refine zP ?_|refine zS ?_|refine zO ?_|refine zB ?_|refine zX ?_|refine zT ?_|refine skipI rfl ?_)
 refine zR ?_
 repeat' (first|with_reducible refine pN ?_|refine pD ?_|refine pC (by first|exact hg.cal (by omega)|exact hfg.cal (by omega)|exact rvalid_best hfg (by omega) h2) ?_)
 repeat with_reducible refine cN ?_
 cases hb:bestG (freedF c ow) entry ra rb rn rw' rd with
 | none =>
   rw [hb] at ho
   subst ho
   repeat' (first|refine zN ?_|refine zE ?_|refine zP ?_|refine pD ?_|refine zS ?_|refine zR ?_|refine zO ?_|refine zB ?_|refine zX ?_|refine zT ?_|refine skipI rfl ?_)
   refine condT rfl ?_
   repeat' (first|refine zN ?_|refine zE ?_|refine zP ?_|refine pD ?_|refine zS ?_|refine zR ?_|refine zO ?_|refine zB ?_|refine zX ?_|refine zT ?_|refine skipI rfl ?_)
   refine endR rfl ?_
   repeat' (first|exact trivial|exact rfl|refine ⟨rfl,?_⟩|refine And.intro ?_ ?_)
 | some x =>
   rw [hb] at ho
   have ho:o=bif canB (freedF c ow) entry ra rb x.1 rw' ow then some x else none:=ho
   repeat' (first|refine zN ?_|refine zE ?_|refine zP ?_|refine pD ?_|refine zS ?_|refine zR ?_|refine zO ?_|refine zB ?_|refine zX ?_|refine zT ?_|refine skipI rfl ?_)
   refine condF rfl ?_
   cases hcan:canB (freedF c ow) entry ra rb x.1 rw' ow with
   | true =>
     rw [hcan] at ho
     subst ho
     cases hos
   | false =>
     rw [hcan,cond_false] at ho
     subst ho
     repeat' (first|refine zN ?_|refine zE ?_|refine zP ?_|refine pD ?_|refine pC (by exact ⟨⟨hfg,by omega⟩,hcan⟩) ?_|refine zS ?_|refine zR ?_|refine zO ?_|refine zB ?_|refine zX ?_|refine zT ?_|refine skipI rfl ?_)
     refine condT rfl ?_
     repeat' (first|refine zN ?_|refine zE ?_|refine zP ?_|refine pD ?_|refine zS ?_|refine zR ?_|refine zO ?_|refine zB ?_|refine zX ?_|refine zT ?_|refine skipI rfl ?_)
     refine endR rfl ?_
     repeat' (first|exact trivial|exact rfl|refine ⟨rfl,?_⟩|refine And.intro ?_ ?_)
theorem sel_yes {α β:Type} {o:Option α} (h:o.isSome=true) (x y:β):sel o x y=x:=by
 cases o with
 | none=>cases h
 | some _=>rfl
theorem sel_no {α β:Type} {o:Option α} (h:o.isSome=false) (x y:β):sel o x y=y:=by
 cases o with
 | none=>rfl
 | some _=>cases h
theorem best_no (o:BestT) (h:o.isSome=false):bStg o=[]∧∀ {α:Type} (f:BestT→α),f o=f none:=by
 cases o with
 | none=>exact ⟨rfl,fun _=>rfl⟩
 | some _=>cases h
theorem repairOk:SpecSound Tryz.prog 26 repairS:=by
 intro args rows out hf hpre
 unfold repairS at hf
 dsimp only at hf
 split at hf <;> try (cases hf;done)
 rename_i e a b xs pws re ra rb ns ws ow done entry failed c
 cases hf
 cases ho:(repG c e a b xs pws re ra rb ns ws ow done entry failed).isSome with
 | false =>
   obtain ⟨h1,h2⟩:=best_no (repG c e a b xs pws re ra rb ns ws ow done entry failed) ho
   rw [h2 (α:=CalT) (repCal c · entry ra rb (restF xs ws done).2 ow)]
   simp only [sel_no ho,h1]
   exact repNoOk _ _ ⟨RepP c ns ws∧(repG c e a b xs pws re ra rb ns ws ow done entry failed).isSome=false,.tup [.agg [.int .i64 0,.int .i64 0,.int .i64 0,.sl tStage [],.sl tWin []],.int .i64 100],[.arr Bk c none],true⟩ rfl ⟨hpre,ho⟩
 | true =>
   simp only [sel_yes ho]
   exact repYesOk _ _ ⟨RepP c ns ws∧(repG c e a b xs pws re ra rb ns ws ow done entry failed).isSome=true,
    .tup [.agg [.int .i64 entry,.int .i64 ra,.int .i64 rb,.sl tStage (bStg (repG c e a b xs pws re ra rb ns ws ow done entry failed)),.sl tWin (restF xs ws done).2],.int .i64 0],
    [.arr Bk (repCal c (repG c e a b xs pws re ra rb ns ws ow done entry failed) entry ra rb (restF xs ws done).2 ow) none],true⟩ rfl ⟨hpre,ho⟩
end Go.AM.YtmohhhbgcehnpaaGreat.Re
end
