/- ReK, ReN, ReO, ReP, ReQ. -/
import Derived.Test.YtkgmmmhokgdcaaaGreatPb27
import Derived.Test.YtkgmmmhokgdcaaaGreatPb26
import Derived.Test.YtkgmmmhokgdcaaaGreatPb17
import Derived.Test.YtkgmmmhokgdcaaaGreatPb21

section
set_option linter.all false
namespace Go.AM.YtkgmmmhokgdcaaaGreat.Re
open Go.Proofs
set_option maxRecDepth 100000
set_option maxHeartbeats 4000000
def allFree:CalT→List Bk.El→Bool
  | _,[]=>true
  | c,b::l=>freeF c b&&allFree (bookF c b) l
theorem errB (xss:CalT) (b:Bk.El):decide (errF xss b≠0)=!freeF xss b:=by
  unfold errF
  cases freeF xss b <;> simp
def planL (e a b:Int) (xs:List tStage.El) (ws:List tWin.El) (ow:Int):List Bk.El:=Pl.bookF e a b xs ws ow
theorem planL_len {e a b:Int} {xs:List tStage.El} {ws:List tWin.El} {ow:Int}:(planL e a b xs ws ow).length≤1000:=by
  unfold planL Pl.bookF
  split
  · rename_i h
    rw [Bool.and_eq_true] at h
    have:=(Pl.valid_facts h.1).n
    rw [Pl.bkN_length]
    omega
  · simp
def canB (c:CalT) (e a b:Int) (xs:List tStage.El) (ws:List tWin.El) (ow:Int):Bool:=allFree c (planL e a b xs ws ow)&&decide (((planL e a b xs ws ow).length:Int) > 0)
def bookYesS:Spec:=⟨true,fun args rows=>match args,rows with
  | [.ptr 0 0,.agg [.int .i64 e,.int .i64 a,.int .i64 b,.sl (.pair (.int .i64) (.pair (.int .i64) (.pair (.pair (.int .i64) (.int .i64)) (.pair (.int .i64) (.int .i64))))) xs,.sl (.pair (.int .i64) (.pair (.int .i64) (.int .i64))) ws],.int .i64 ow],[.arr (.pair (.int .i64) (.pair (.int .i64) (.pair (.int .i64) (.int .i64)))) c none] =>
    some ⟨(CalG c∧lenF c≤800000)∧canB c e a b xs ws ow=true,.tup [.ptr 1 0,.bool true],[.arr Bk c none,.arr Bk (bookAll (planL e a b xs ws ow) c) none],true⟩
  | _,_=>none⟩
def bookNoS:Spec:=⟨true,fun args rows=>match args,rows with
  | [.ptr 0 0,.agg [.int .i64 e,.int .i64 a,.int .i64 b,.sl (.pair (.int .i64) (.pair (.int .i64) (.pair (.pair (.int .i64) (.int .i64)) (.pair (.int .i64) (.int .i64))))) xs,.sl (.pair (.int .i64) (.pair (.int .i64) (.int .i64))) ws],.int .i64 ow],[.arr (.pair (.int .i64) (.pair (.int .i64) (.pair (.int .i64) (.int .i64)))) c none] =>
    some ⟨(CalG c∧lenF c≤800000)∧canB c e a b xs ws ow=false,.tup [.ext .any,.bool false],[.arr Bk c none],true⟩
  | _,_=>none⟩
def sigBa:List (Nat × Spec):=[(70,Pl.bookS),(43,calCloneS),(28,bookS)]
theorem sigBaOk:SigOk Tryz.prog (look sigBa):=sigCons (sigCons (sigCons sigNil
  Tryz.func28 (by kernel_rfl) (c:=body Tryz.f28) rfl bookOk)
  Tryz.func43 (by kernel_rfl) (c:=body Tryz.f43) rfl calCloneOk)
  Tryz.func70 (by kernel_rfl) (c:=body Tryz.f70) rfl Pl.bookOk
theorem bookYesOk:SpecSound Tryz.prog 37 bookYesS:=by
  refine soundR (envOf sigBaOk) Tryz.func37 (c:=body Tryz.f37) rfl (by kernel_rfl) rfl ?_
  intro args rows out hf hpre
  split at hf <;> try (cases hf;done)
  rename_i e a b xs ws ow c
  cases hf
  refine ⟨Nat.le_of_ble_eq_true rfl,initI (args:=[.ptr 0 0,.agg [.int .i64 e,.int .i64 a,.int .i64 b,.sl tStage xs,.sl tWin ws],.int .i64 ow]) (rows:=[.arr Bk c none]) rfl ?_⟩
  obtain ⟨⟨hg,hl⟩,hcan⟩:=hpre
  obtain ⟨l,hll⟩:∃ l,l=planL e a b xs ws ow:=⟨_,rfl⟩
  have hlen:l.length≤1000:=by rw [hll];exact planL_len
  unfold canB at hcan
  rw [← hll] at hcan
  repeat' (first|with_reducible (first|apply pN|apply cN|apply bN|apply cE|apply cR|apply bR|apply lE|apply lR|apply jE|apply jR)|refine zE ?_|refine zP ?_|refine zS ?_|refine zO ?_|refine zB ?_|refine zX ?_|refine zT ?_|refine skipI rfl ?_)
  refine zR ?_
  repeat' (first|with_reducible refine pN ?_|refine pD ?_|fail)
  repeat with_reducible refine cN ?_
  repeat' (first|with_reducible (first|apply pN|apply cN|apply bN|apply cE|apply cR|apply bR|apply lE|apply lR|apply jE|apply jR)|refine zE ?_|refine zP ?_|refine zS ?_|refine zO ?_|refine zB ?_|refine zX ?_|refine zT ?_|refine skipI rfl ?_)
  refine zR ?_
  repeat' (first|with_reducible refine pN ?_|refine pD ?_|fail)
  repeat with_reducible refine cN ?_
  rw [show Pl.bookF e a b xs ws ow=l from hll.symm]
  repeat' (first|with_reducible (first|apply pN|apply cN|apply bN|apply cE|apply cR|apply bR|apply lE|apply lR|apply jE|apply jR)|refine zE ?_|refine zP ?_|refine pD ?_|refine pC (by exact hg.cal (by omega)) ?_|refine zS ?_|refine zR ?_|refine zO ?_|refine zB ?_|refine zX ?_|refine zT ?_|refine skipI rfl ?_)
  refine loopI (σ:=Nat) (fun i=>[(9,.ptr 3000 0),(19,.int .i64 i)]) (fun i=>[(3000,.arr Bk (bookAll (l.take i) c) none)]) (fun i=>i≤l.length∧allFree c l=allFree (bookAll (l.take i) c) (l.drop i)) (fun i=>l.length - i) 0 rfl (fun _=>rfl) rfl ?_ ?_ ?_
  · exact ⟨Nat.zero_le _,rfl⟩
  · repeat' (first|exact trivial|exact rfl|refine ⟨rfl,?_⟩|refine And.intro ?_ ?_)
  rintro i ⟨hi,hinv⟩
  obtain ⟨hbg,hbl⟩:=bookAll_good (l:=l.take i) hg
  rw [List.length_take] at hbl
  repeat' (first|with_reducible (first|apply pN|apply cN|apply bN|apply cE|apply cR|apply bR|apply lE|apply lR|apply jE|apply jR)|refine zE ?_|refine zP ?_|refine pD ?_|refine zS ?_|refine zR ?_|refine zO ?_|refine zB ?_|refine zX ?_|refine zT ?_|refine skipI rfl ?_)
  refine condI rfl (fun c1=>?_) (fun c1=>?_)
  · simp only [decide_eq_true_eq] at c1
    have hil:i < l.length:=by omega
    have hin:((i:Int)).toNat=i:=by omega
    rw [drop_getI (d:=Bk.dflt) hil] at hinv
    repeat' (first|with_reducible (first|apply pN|apply cN|apply bN|apply cE|apply cR|apply bR|apply lE|apply lR|apply jE|apply jR)|refine zE ?_|refine zP ?_|refine pD ?_|refine pC (by exact ⟨hbg.cal (by omega),hbg.sorted⟩) ?_|refine zS ?_|refine zR ?_|refine zO ?_|refine zB ?_|refine zX ?_|refine zT ?_|refine skipI rfl ?_)
    refine condI rfl (fun c2=>?_) (fun c2=>?_)
    · have c2':freeF (bookAll (l.take i) c) (getI l Bk.dflt i)=false:=by
        have:=errB (bookAll (l.take i) c) (getI l Bk.dflt i)
        rw [show decide (errF (bookAll (l.take i) c) (getI l Bk.dflt i)≠0)=true by simp only [hin] at c2;exact c2] at this
        simpa using this.symm
      have hinv:allFree c l=(freeF (bookAll (l.take i) c) (getI l Bk.dflt i)&&_):=hinv
      rw [c2',Bool.false_and] at hinv
      rw [hinv] at hcan
      cases hcan
    · have c2':freeF (bookAll (l.take i) c) (getI l Bk.dflt i)=true:=by
        have:=errB (bookAll (l.take i) c) (getI l Bk.dflt i)
        rw [show decide (errF (bookAll (l.take i) c) (getI l Bk.dflt i)≠0)=false by simp only [hin] at c2;exact c2] at this
        simpa using this.symm
      have hinv:allFree c l=(freeF (bookAll (l.take i) c) (getI l Bk.dflt i)&&allFree (bookF (bookAll (l.take i) c) (getI l Bk.dflt i)) (l.drop (i+1))):=hinv
      rw [c2',Bool.true_and,← bookAll_take hil] at hinv
      repeat' (first|with_reducible (first|apply pN|apply cN|apply bN|apply cE|apply cR|apply bR|apply lE|apply lR|apply jE|apply jR)|refine zE ?_|refine zP ?_|refine pD ?_|refine zS ?_|refine zR ?_|refine zO ?_|refine zB ?_|refine zX ?_|refine zT ?_|refine skipI rfl ?_)
      refine roundI (i+1) rfl ?_ ?_ ?_
      · exact ⟨by show i+1≤l.length;omega,hinv⟩
      · show l.length - (i+1) < l.length - i
        omega
      · repeat' (first|exact trivial|with_reducible exact rfl|refine And.intro ?_ ?_)
        all_goals (first|rfl|(rw [bookAll_take hil];simp only [hin];done)|(rw [bookAll_take hil];simp only [hin];rfl))
  · simp only [decide_eq_false_iff_not] at c1
    rw [List.drop_eq_nil_of_le (by omega)] at hinv
    have hinv:allFree c l=true:=hinv
    have htk:l.take i=l:=List.take_of_length_le (by omega)
    rw [hinv,Bool.true_and] at hcan
    rw [htk]
    repeat' (first|with_reducible (first|apply pN|apply cN|apply bN|apply cE|apply cR|apply bR|apply lE|apply lR|apply jE|apply jR)|refine zE ?_|refine zP ?_|refine pD ?_|refine zS ?_|refine zR ?_|refine zO ?_|refine zB ?_|refine zX ?_|refine zT ?_|refine skipI rfl ?_)
    refine endR rfl ?_
    rw [← hll,hcan]
    repeat' (first|exact trivial|exact rfl|refine ⟨rfl,?_⟩|refine And.intro ?_ ?_)
theorem bookNoOk:SpecSound Tryz.prog 37 bookNoS:=by
  refine soundR (envOf sigBaOk) Tryz.func37 (c:=body Tryz.f37) rfl (by kernel_rfl) rfl ?_
  intro args rows out hf hpre
  split at hf <;> try (cases hf;done)
  rename_i e a b xs ws ow c
  cases hf
  refine ⟨Nat.le_of_ble_eq_true rfl,initI (args:=[.ptr 0 0,.agg [.int .i64 e,.int .i64 a,.int .i64 b,.sl tStage xs,.sl tWin ws],.int .i64 ow]) (rows:=[.arr Bk c none]) rfl ?_⟩
  obtain ⟨⟨hg,hl⟩,hcan⟩:=hpre
  obtain ⟨l,hll⟩:∃ l,l=planL e a b xs ws ow:=⟨_,rfl⟩
  have hlen:l.length≤1000:=by rw [hll];exact planL_len
  unfold canB at hcan
  rw [← hll] at hcan
  repeat' (first|with_reducible (first|apply pN|apply cN|apply bN|apply cE|apply cR|apply bR|apply lE|apply lR|apply jE|apply jR)|refine zE ?_|refine zP ?_|refine zS ?_|refine zO ?_|refine zB ?_|refine zX ?_|refine zT ?_|refine skipI rfl ?_)
  refine zR ?_
  repeat' (first|with_reducible refine pN ?_|refine pD ?_|fail)
  repeat with_reducible refine cN ?_
  repeat' (first|with_reducible (first|apply pN|apply cN|apply bN|apply cE|apply cR|apply bR|apply lE|apply lR|apply jE|apply jR)|refine zE ?_|refine zP ?_|refine zS ?_|refine zO ?_|refine zB ?_|refine zX ?_|refine zT ?_|refine skipI rfl ?_)
  refine zR ?_
  repeat' (first|with_reducible refine pN ?_|refine pD ?_|fail)
  repeat with_reducible refine cN ?_
  rw [show Pl.bookF e a b xs ws ow=l from hll.symm]
  repeat' (first|with_reducible (first|apply pN|apply cN|apply bN|apply cE|apply cR|apply bR|apply lE|apply lR|apply jE|apply jR)|refine zE ?_|refine zP ?_|refine pD ?_|refine pC (by exact hg.cal (by omega)) ?_|refine zS ?_|refine zR ?_|refine zO ?_|refine zB ?_|refine zX ?_|refine zT ?_|refine skipI rfl ?_)
  refine loopI (σ:=Nat) (fun i=>[(9,.ptr 3000 0),(19,.int .i64 i)]) (fun i=>[(3000,.arr Bk (bookAll (l.take i) c) none)]) (fun i=>i≤l.length∧allFree c l=allFree (bookAll (l.take i) c) (l.drop i)) (fun i=>l.length - i) 0 rfl (fun _=>rfl) rfl ?_ ?_ ?_
  · exact ⟨Nat.zero_le _,rfl⟩
  · repeat' (first|exact trivial|exact rfl|refine ⟨rfl,?_⟩|refine And.intro ?_ ?_)
  rintro i ⟨hi,hinv⟩
  obtain ⟨hbg,hbl⟩:=bookAll_good (l:=l.take i) hg
  rw [List.length_take] at hbl
  repeat' (first|with_reducible (first|apply pN|apply cN|apply bN|apply cE|apply cR|apply bR|apply lE|apply lR|apply jE|apply jR)|refine zE ?_|refine zP ?_|refine pD ?_|refine zS ?_|refine zR ?_|refine zO ?_|refine zB ?_|refine zX ?_|refine zT ?_|refine skipI rfl ?_)
  refine condI rfl (fun c1=>?_) (fun c1=>?_)
  · simp only [decide_eq_true_eq] at c1
    have hil:i < l.length:=by omega
    have hin:((i:Int)).toNat=i:=by omega
    rw [drop_getI (d:=Bk.dflt) hil] at hinv
    repeat' (first|with_reducible (first|apply pN|apply cN|apply bN|apply cE|apply cR|apply bR|apply lE|apply lR|apply jE|apply jR)|refine zE ?_|refine zP ?_|refine pD ?_|refine pC (by exact ⟨hbg.cal (by omega),hbg.sorted⟩) ?_|refine zS ?_|refine zR ?_|refine zO ?_|refine zB ?_|refine zX ?_|refine zT ?_|refine skipI rfl ?_)
    refine condI rfl (fun c2=>?_) (fun c2=>?_)
    · have c2':freeF (bookAll (l.take i) c) (getI l Bk.dflt i)=false:=by
        have:=errB (bookAll (l.take i) c) (getI l Bk.dflt i)
        rw [show decide (errF (bookAll (l.take i) c) (getI l Bk.dflt i)≠0)=true by simp only [hin] at c2;exact c2] at this
        simpa using this.symm
      have hinv:allFree c l=(freeF (bookAll (l.take i) c) (getI l Bk.dflt i)&&_):=hinv
      rw [c2',Bool.false_and] at hinv
      repeat' (first|with_reducible (first|apply pN|apply cN|apply bN|apply cE|apply cR|apply bR|apply lE|apply lR|apply jE|apply jR)|refine zE ?_|refine zP ?_|refine pD ?_|refine zS ?_|refine zR ?_|refine zO ?_|refine zB ?_|refine zX ?_|refine zT ?_|refine skipI rfl ?_)
      refine endR rfl ?_
      repeat' (first|exact trivial|exact rfl|refine ⟨rfl,?_⟩|refine And.intro ?_ ?_)
    · have c2':freeF (bookAll (l.take i) c) (getI l Bk.dflt i)=true:=by
        have:=errB (bookAll (l.take i) c) (getI l Bk.dflt i)
        rw [show decide (errF (bookAll (l.take i) c) (getI l Bk.dflt i)≠0)=false by simp only [hin] at c2;exact c2] at this
        simpa using this.symm
      have hinv:allFree c l=(freeF (bookAll (l.take i) c) (getI l Bk.dflt i)&&allFree (bookF (bookAll (l.take i) c) (getI l Bk.dflt i)) (l.drop (i+1))):=hinv
      rw [c2',Bool.true_and,← bookAll_take hil] at hinv
      repeat' (first|with_reducible (first|apply pN|apply cN|apply bN|apply cE|apply cR|apply bR|apply lE|apply lR|apply jE|apply jR)|refine zE ?_|refine zP ?_|refine pD ?_|refine zS ?_|refine zR ?_|refine zO ?_|refine zB ?_|refine zX ?_|refine zT ?_|refine skipI rfl ?_)
      refine roundI (i+1) rfl ?_ ?_ ?_
      · exact ⟨by show i+1≤l.length;omega,hinv⟩
      · show l.length - (i+1) < l.length - i
        omega
      · repeat' (first|exact trivial|with_reducible exact rfl|refine And.intro ?_ ?_)
        all_goals (first|rfl|(rw [bookAll_take hil];simp only [hin];done)|(rw [bookAll_take hil];simp only [hin];rfl))
  · simp only [decide_eq_false_iff_not] at c1
    rw [List.drop_eq_nil_of_le (by omega)] at hinv
    have hinv:allFree c l=true:=hinv
    have htk:l.take i=l:=List.take_of_length_le (by omega)
    rw [hinv,Bool.true_and] at hcan
    repeat' (first|with_reducible (first|apply pN|apply cN|apply bN|apply cE|apply cR|apply bR|apply lE|apply lR|apply jE|apply jR)|refine zE ?_|refine zP ?_|refine pD ?_|refine zS ?_|refine zR ?_|refine zO ?_|refine zB ?_|refine zX ?_|refine zT ?_|refine skipI rfl ?_)
    refine endR rfl ?_
    rw [hcan]
    repeat' (first|exact trivial|exact rfl|refine ⟨rfl,?_⟩|refine And.intro ?_ ?_)
def rbYesS:Spec:=⟨true,fun args rows=>match args,rows with
  | [.ptr 0 0,.agg [.int .i64 e,.int .i64 a,.int .i64 b,.sl (.pair (.int .i64) (.pair (.int .i64) (.pair (.pair (.int .i64) (.int .i64)) (.pair (.int .i64) (.int .i64))))) xs,.sl (.pair (.int .i64) (.pair (.int .i64) (.int .i64))) ws],.int .i64 ow],[.arr (.pair (.int .i64) (.pair (.int .i64) (.pair (.int .i64) (.int .i64)))) c none] =>
    some ⟨(CalG c∧lenF c≤800000)∧canB c e a b xs ws ow=true,.int .i64 0,[.arr Bk (bookAll (planL e a b xs ws ow) c) none],true⟩
  | _,_=>none⟩
def rbNoS:Spec:=⟨true,fun args rows=>match args,rows with
  | [.ptr 0 0,.agg [.int .i64 e,.int .i64 a,.int .i64 b,.sl (.pair (.int .i64) (.pair (.int .i64) (.pair (.pair (.int .i64) (.int .i64)) (.pair (.int .i64) (.int .i64))))) xs,.sl (.pair (.int .i64) (.pair (.int .i64) (.int .i64))) ws],.int .i64 ow],[.arr (.pair (.int .i64) (.pair (.int .i64) (.pair (.int .i64) (.int .i64)))) c none] =>
    some ⟨(CalG c∧lenF c≤800000)∧canB c e a b xs ws ow=false,.int .i64 100,[.arr Bk c none],true⟩
  | _,_=>none⟩
def rbNilS:Spec:=⟨true,fun args rows=>match args,rows with
  | [.nilptr,.agg [.int .i64 e,.int .i64 a,.int .i64 b,.sl (.pair (.int .i64) (.pair (.int .i64) (.pair (.pair (.int .i64) (.int .i64)) (.pair (.int .i64) (.int .i64))))) xs,.sl (.pair (.int .i64) (.pair (.int .i64) (.int .i64))) ws],.int .i64 ow],[]=>some ⟨True,.int .i64 1,[],true⟩
  | _,_=>none⟩
def rbCal (c:CalT) (e a b:Int) (xs:List tStage.El) (ws:List tWin.El) (ow:Int):CalT:=bif canB c e a b xs ws ow then bookAll (planL e a b xs ws ow) c else c
def rbErr (c:CalT) (e a b:Int) (xs:List tStage.El) (ws:List tWin.El) (ow:Int):Int:=bif canB c e a b xs ws ow then 0 else 100
def reBookS:Spec:=⟨true,fun args rows=>match args,rows with
  | [.nilptr,.agg [.int .i64 e,.int .i64 a,.int .i64 b,.sl (.pair (.int .i64) (.pair (.int .i64) (.pair (.pair (.int .i64) (.int .i64)) (.pair (.int .i64) (.int .i64))))) xs,.sl (.pair (.int .i64) (.pair (.int .i64) (.int .i64))) ws],.int .i64 ow],[]=>some ⟨True,.int .i64 1,[],true⟩
  | [.ptr 0 0,.agg [.int .i64 e,.int .i64 a,.int .i64 b,.sl (.pair (.int .i64) (.pair (.int .i64) (.pair (.pair (.int .i64) (.int .i64)) (.pair (.int .i64) (.int .i64))))) xs,.sl (.pair (.int .i64) (.pair (.int .i64) (.int .i64))) ws],.int .i64 ow],[.arr (.pair (.int .i64) (.pair (.int .i64) (.pair (.int .i64) (.int .i64)))) c none] =>
    some ⟨CalG c∧lenF c≤800000,.int .i64 (rbErr c e a b xs ws ow),[.arr Bk (rbCal c e a b xs ws ow) none],true⟩
  | _,_=>none⟩
def sigRbY:List (Nat × Spec):=[(37,bookYesS)]
theorem sigRbYOk:SigOk Tryz.prog (look sigRbY):=sigCons sigNil Tryz.func37 (by kernel_rfl) (c:=body Tryz.f37) rfl bookYesOk
def sigRbN:List (Nat × Spec):=[(37,bookNoS)]
theorem sigRbNOk:SigOk Tryz.prog (look sigRbN):=sigCons sigNil Tryz.func37 (by kernel_rfl) (c:=body Tryz.f37) rfl bookNoOk
theorem rbYesOk:SpecSound Tryz.prog 10 rbYesS:=by
  refine soundR (envOf sigRbYOk) Tryz.func10 (c:=body Tryz.f10) rfl (by kernel_rfl) rfl ?_
  intro args rows out hf hpre
  split at hf <;> try (cases hf;done)
  rename_i e a b xs ws ow c
  cases hf
  refine ⟨Nat.le_of_ble_eq_true rfl,initI (args:=[.ptr 0 0,.agg [.int .i64 e,.int .i64 a,.int .i64 b,.sl tStage xs,.sl tWin ws],.int .i64 ow]) (rows:=[.arr Bk c none]) rfl ?_⟩
  have hg:=hpre.1.1
  have hgb:=(bookAll_good (l:=planL e a b xs ws ow) hg).1
  repeat' (first|with_reducible (first|apply pN|apply cN|apply bN|apply cE|apply cR|apply bR|apply lE|apply lR|apply jE|apply jR)|refine zE ?_|refine zP ?_|refine pD ?_|refine zS ?_|refine zR ?_|refine zO ?_|refine zB ?_|refine zX ?_|refine zT ?_|refine skipI rfl ?_)
  refine condF rfl ?_
  repeat' (first|with_reducible (first|apply pN|apply cN|apply bN|apply cE|apply cR|apply bR|apply lE|apply lR|apply jE|apply jR)|refine zE ?_|refine zP ?_|refine pD ?_|refine pC (by exact hpre) ?_|refine zS ?_|refine zR ?_|refine zO ?_|refine zB ?_|refine zX ?_|refine zT ?_|refine skipI rfl ?_)
  refine condF rfl ?_
  repeat' (first|with_reducible refine cN ?_|refine zS ?_|refine skipI rfl ?_)
  refine moveI rfl rfl rfl rfl rfl rfl rfl rfl rfl rfl rfl hgb.len hg.len ?_
  repeat' (first|with_reducible (first|apply pN|apply cN|apply bN|apply cE|apply cR|apply bR|apply lE|apply lR|apply jE|apply jR)|refine zE ?_|refine zP ?_|refine pD ?_|refine zS ?_|refine zR ?_|refine zO ?_|refine zB ?_|refine zX ?_|refine zT ?_|refine skipI rfl ?_)
  refine endR rfl ?_
  repeat' (first|exact trivial|exact rfl|refine ⟨rfl,?_⟩|refine And.intro ?_ ?_)
theorem rbNoOk:SpecSound Tryz.prog 10 rbNoS:=by
  refine soundR (envOf sigRbNOk) Tryz.func10 (c:=body Tryz.f10) rfl (by kernel_rfl) rfl ?_
  intro args rows out hf hpre
  split at hf <;> try (cases hf;done)
  rename_i e a b xs ws ow c
  cases hf
  refine ⟨Nat.le_of_ble_eq_true rfl,initI (args:=[.ptr 0 0,.agg [.int .i64 e,.int .i64 a,.int .i64 b,.sl tStage xs,.sl tWin ws],.int .i64 ow]) (rows:=[.arr Bk c none]) rfl ?_⟩
  repeat' (first|with_reducible (first|apply pN|apply cN|apply bN|apply cE|apply cR|apply bR|apply lE|apply lR|apply jE|apply jR)|refine zE ?_|refine zP ?_|refine pD ?_|refine zS ?_|refine zR ?_|refine zO ?_|refine zB ?_|refine zX ?_|refine zT ?_|refine skipI rfl ?_)
  refine condF rfl ?_
  repeat' (first|with_reducible (first|apply pN|apply cN|apply bN|apply cE|apply cR|apply bR|apply lE|apply lR|apply jE|apply jR)|refine zE ?_|refine zP ?_|refine pD ?_|refine pC (by exact hpre) ?_|refine zS ?_|refine zR ?_|refine zO ?_|refine zB ?_|refine zX ?_|refine zT ?_|refine skipI rfl ?_)
  refine condT rfl ?_
  repeat' (first|with_reducible (first|apply pN|apply cN|apply bN|apply cE|apply cR|apply bR|apply lE|apply lR|apply jE|apply jR)|refine zE ?_|refine zP ?_|refine pD ?_|refine zS ?_|refine zR ?_|refine zO ?_|refine zB ?_|refine zX ?_|refine zT ?_|refine skipI rfl ?_)
  refine endR rfl ?_
  repeat' (first|exact trivial|exact rfl|refine ⟨rfl,?_⟩|refine And.intro ?_ ?_)
theorem rbNilOk:SpecSound Tryz.prog 10 rbNilS:=by
  refine soundR (envOf sigRbNOk) Tryz.func10 (c:=body Tryz.f10) rfl (by kernel_rfl) rfl ?_
  intro args rows out hf hpre
  split at hf <;> try (cases hf;done)
  rename_i e a b xs ws ow
  cases hf
  refine ⟨Nat.le_of_ble_eq_true rfl,initI (args:=[.nilptr,.agg [.int .i64 e,.int .i64 a,.int .i64 b,.sl tStage xs,.sl tWin ws],.int .i64 ow]) (rows:=[]) rfl ?_⟩
  repeat' (first|with_reducible (first|apply pN|apply cN|apply bN|apply cE|apply cR|apply bR|apply lE|apply lR|apply jE|apply jR)|refine zE ?_|refine zP ?_|refine pD ?_|refine zS ?_|refine zR ?_|refine zO ?_|refine zB ?_|refine zX ?_|refine zT ?_|refine skipI rfl ?_)
  refine condT rfl ?_
  repeat' (first|with_reducible (first|apply pN|apply cN|apply bN|apply cE|apply cR|apply bR|apply lE|apply lR|apply jE|apply jR)|refine zE ?_|refine zP ?_|refine pD ?_|refine zS ?_|refine zR ?_|refine zO ?_|refine zB ?_|refine zX ?_|refine zT ?_|refine skipI rfl ?_)
  refine endR rfl ?_
  repeat' (first|exact trivial|exact rfl|refine ⟨rfl,?_⟩|refine And.intro ?_ ?_)
theorem reBookOk:SpecSound Tryz.prog 10 reBookS:=by
  intro args rows out hf hpre
  unfold reBookS at hf
  dsimp only at hf
  split at hf <;> try (cases hf;done)
  · cases hf
    exact rbNilOk _ _ _ rfl hpre
  · rename_i e a b xs ws ow c
    cases hf
    cases hc:canB c e a b xs ws ow with
    | true =>
      rw [show rbErr c e a b xs ws ow=0 by unfold rbErr;rw [hc];rfl,show rbCal c e a b xs ws ow=bookAll (planL e a b xs ws ow) c by unfold rbCal;rw [hc];rfl]
      exact rbYesOk _ _ ⟨(CalG c∧lenF c≤800000)∧canB c e a b xs ws ow=true,.int .i64 0,[.arr Bk (bookAll (planL e a b xs ws ow) c) none],true⟩ rfl ⟨hpre,hc⟩
    | false =>
      rw [show rbErr c e a b xs ws ow=100 by unfold rbErr;rw [hc];rfl,show rbCal c e a b xs ws ow=c by unfold rbCal;rw [hc];rfl]
      exact rbNoOk _ _ ⟨(CalG c∧lenF c≤800000)∧canB c e a b xs ws ow=false,.int .i64 100,[.arr Bk c none],true⟩ rfl ⟨hpre,hc⟩
end Go.AM.YtkgmmmhokgdcaaaGreat.Re
end

section
set_option linter.all false
namespace Go.AM.YtkgmmmhokgdcaaaGreat.Re
open Go.Proofs
set_option maxRecDepth 100000
set_option maxHeartbeats 4000000
theorem freed_len {xss:CalT} {o:Int}:lenF (freedF xss o)≤lenF xss:=by
  induction xss with
  | nil=>exact Nat.le_refl _
  | cons x r ih =>
    have h1:lenF (freedF (x::r) o)=(delF x o).length+lenF (freedF r o):=by simp [lenF,freedF]
    have h2:lenF (x::r)=x.length+lenF r:=by simp [lenF]
    have:=delF_len x o
    omega
theorem rvalid_win {e a b:Int} {ns:List tNeed.El} {ws:List tWin.El} (h:rvalidF e a b ns ws=true):∀ w∈ws,WiSm ns.length w.1 w.2.1 w.2.2:=fun w hw=>by
  unfold rvalidF at h
  simp only [Bool.and_eq_true,Bool.not_eq_true'] at h
  obtain ⟨⟨h1,h2⟩,h3⟩:=h
  obtain ⟨i,hi,rfl⟩:=List.getElem_of_mem hw
  have h4:=any_false_mem h3 i (List.mem_range.2 hi)
  unfold winBad at h4
  rw [show getI ws tWin.dflt i=ws[i] by simp [getI,List.getD,List.getElem?_eq_getElem hi]] at h4
  simp only [Bool.or_eq_false_iff,Bool.not_eq_false'] at h4
  obtain ⟨⟨⟨h5,h6⟩,h7⟩,_⟩:=h4
  have h5:=inF_true h5
  have h6:=inF_true h6
  have h7:=inF_true h7
  unfold WiSm
  have k1:(0:Int)≤ws[i].1:=h5.1
  have k2:(ws[i].1:Int)≤(ns.length:Int) - 1:=h5.2
  have k3:(ws[i].1:Int)+1≤ws[i].2.1:=h6.1
  have k4:(ws[i].2.1:Int)≤(ns.length:Int) - 1:=h6.2
  exact ⟨k1,by omega,by omega,by omega,h7.1,h7.2⟩
def askB (e a b:Int) (xs:List tStage.El) (pws:List tWin.El) (re ra rb:Int) (ns:List tNeed.El) (ws:List tWin.El) (ow done:Int):Bool :=
  !((((((!rvalidF re ra rb ns ws||!Pl.validF e a b xs pws)||decide ((xs.length:Int)≠(ns.length:Int)))||decide (ow < 1))||decide (ow > 1000000))||decide (done < 0))||decide (done≥(ns.length:Int)))
def repG (c:CalT) (e a b:Int) (xs:List tStage.El) (pws:List tWin.El) (re ra rb:Int) (ns:List tNeed.El) (ws:List tWin.El) (ow done entry failed:Int):BestT :=
  bif askB e a b xs pws re ra rb ns ws ow done&&rvalidF entry ra rb (restN ns done failed) (restF xs ws done).2 then
    match bestG (freedF c ow) entry ra rb (restN ns done failed) (restF xs ws done).2 (restF xs ws done).1 with
    | some x=>bif canB (freedF c ow) entry ra rb x.1 (restF xs ws done).2 ow then some x else none
    | none=>none
  else none
theorem askB_rest {e a b:Int} {xs:List tStage.El} {pws:List tWin.El} {re ra rb:Int} {ns:List tNeed.El} {ws:List tWin.El} {ow done:Int} (h:askB e a b xs pws re ra rb ns ws ow done=true):RestP xs ns ws done∧(restN ns done 0).length≤1000000:=by
  unfold askB at h
  simp only [Bool.not_eq_true',Bool.or_eq_false_iff,Bool.not_eq_false',decide_eq_false_iff_not] at h
  obtain ⟨⟨⟨⟨⟨⟨h1,h2⟩,h3⟩,h4⟩,h5⟩,h6⟩,h7⟩:=h
  obtain ⟨f1,f2,f3,f4⟩:=rvalid_facts h1
  obtain ⟨_,g2,g3,_⟩:=facts_slots (Pl.valid_facts h2)
  have hxn:xs.length=ns.length:=by omega
  refine ⟨⟨⟨by omega,by omega⟩,⟨by omega,hxn⟩,fun x hx=>by have:=(f4 x hx).1.2;omega,by omega,g3,fun w hw=>?_⟩,?_⟩
  · rw [hxn];exact rvalid_win h1 w hw
  · unfold restN;rw [List.length_map,List.length_drop];omega
end Go.AM.YtkgmmmhokgdcaaaGreat.Re
end

section
set_option linter.all false
namespace Go.AM.YtkgmmmhokgdcaaaGreat.Re
open Go.Proofs
set_option maxRecDepth 100000
set_option maxHeartbeats 4000000
theorem pick10Ok:SpecSound Tryz.prog 34 pickP:=by
  refine soundP (envOf sigNil) Tryz.func34 (c:=body Tryz.f34) rfl (by kernel_rfl) rfl ?_
  intro args out hf hpre
  split at hf <;> try (cases hf;done)
  rename_i c n
  cases hf
  refine ⟨Nat.le_of_ble_eq_true rfl,initI rfl ?_⟩
  refine factInt (t:=0) rfl (fun hc=>?_)
  have hc:=wrap64 hc
  change 0 < n at hpre
  repeat' (first|with_reducible (first|apply pN|apply cN|apply bN|apply cE|apply cR|apply bR|apply lE|apply lR|apply jE|apply jR)|refine zE ?_|refine zP ?_|refine pD ?_|refine zS ?_|refine zR ?_|refine zO ?_|refine zB ?_|refine zX ?_|refine zT ?_|refine skipI rfl ?_)
  refine condI rfl (fun c1=>?_) (fun c1=>?_)
  · simp only [decide_eq_true_eq] at c1
    repeat' (first|with_reducible (first|apply pN|apply cN|apply bN|apply cE|apply cR|apply bR|apply lE|apply lR|apply jE|apply jR)|refine zE ?_|refine zP ?_|refine pD ?_|refine zS ?_|refine zR ?_|refine zO ?_|refine zB ?_|refine zX ?_|refine zT ?_|refine skipI rfl ?_)
    refine endR rfl ?_
    repeat' (first|exact trivial|exact rfl|refine ⟨rfl,?_⟩|refine And.intro ?_ ?_)
    exact pickF_neg hpre c1
  · simp only [decide_eq_false_iff_not] at c1
    repeat' (first|with_reducible (first|apply pN|apply cN|apply bN|apply cE|apply cR|apply bR|apply lE|apply lR|apply jE|apply jR)|refine zE ?_|refine zP ?_|refine pD ?_|refine zS ?_|refine zR ?_|refine zO ?_|refine zB ?_|refine zX ?_|refine zT ?_|refine skipI rfl ?_)
    refine endR rfl ?_
    repeat' (first|exact trivial|exact rfl|refine ⟨rfl,?_⟩|refine And.intro ?_ ?_)
    exact pickF_pos hpre c1
end Go.AM.YtkgmmmhokgdcaaaGreat.Re
end

section
set_option linter.all false
namespace Go.AM.YtkgmmmhokgdcaaaGreat.Re
open Go.Proofs
set_option maxRecDepth 100000
set_option maxHeartbeats 4000000
abbrev Int4:=Int × Int × Int × Int
abbrev tP2:Ty:=.pair (.int .i64) (.int .i64)
def mkA (y:Int4):Int:=pickF y.1 4
def mkBb (y:Int4):Int:=mkA y+1+pickF y.2.1 2
def mkT (y:Int4):List Int:=bif decide (pickF (y.2.1.tdiv 2) 3=0) then [mkA y,mkBb y]++[mkBb y+1+pickF (y.2.1.tdiv 6) 2] else [mkA y,mkBb y]
def mkNeed (y:Int4):NeedT:=(mkT y,1+pickF y.2.2.1 20,1+pickF y.2.2.1 20+pickF y.2.2.2 8)
def ndAt (x:Int4) (needs:List Int4) (i:Nat):Int4:=bif decide ((i:Int) < (needs.length:Int)) then getI needs t4.dflt i else (x.2.2.2,x.2.2.1,x.2.1,x.1)
def ndN (needs:List Int4):Nat:=max 1 (min needs.length 3)
def ndL (x:Int4) (needs:List Int4):List NeedT:=(List.range (ndN needs)).map fun i=>mkNeed (ndAt x needs i)
abbrev WinT:=Int × Int × Int
def mkW (w:Int × Int):WinT:=(getI [0,0,1] (0:Int) (pickF w.1 3).toNat,getI [1,2,2] (0:Int) (pickF w.1 3).toNat,pickF w.2 150)
def winFit (n:Int) (acc:List WinT) (w:WinT):Bool :=
  decide (w.2.1 < n)&&((decide ((acc.length:Int)=0)||decide ((getI acc tWin.dflt ((acc.length:Int) - 1).toNat).1 < w.1))||(decide ((getI acc tWin.dflt ((acc.length:Int) - 1).toNat).1=w.1)&&decide ((getI acc tWin.dflt ((acc.length:Int) - 1).toNat).2.1 < w.2.1)))
def winStep (n:Int) (acc:List WinT) (w:Int × Int):List WinT:=bif winFit n acc (mkW w) then acc++[mkW w] else acc
def winL (n:Int) (ws:List (Int × Int)):List WinT:=(ws.take 3).foldl (winStep n) []
def rqE (x:Int4):Int:=pickF x.1 100
def rqA (x:Int4):Int:=pickF x.2.1 4
def rqB (x:Int4):Int:=pickF x.2.1 4+pickF x.2.2.1 5
def mkReqS:Spec:=⟨true,fun args rows=>match args,rows with
  | [.agg [.int .i64 x0,.int .i64 x1,.int .i64 x2,.int .i64 x3],.sl (.pair (.int .i64) (.pair (.int .i64) (.pair (.int .i64) (.int .i64)))) needs,.sl (.pair (.int .i64) (.int .i64)) ws],[] =>
    some ⟨True,.agg [.int .i64 (rqE (x0,x1,x2,x3)),.int .i64 (rqA (x0,x1,x2,x3)),.int .i64 (rqB (x0,x1,x2,x3)),.sl tNeed (ndL (x0,x1,x2,x3) needs),.sl tWin (winL (ndN needs) ws)],[],true⟩
  | _,_=>none⟩
def sigPk10:List (Nat × Spec):=[(34,pickP)]
theorem sigPk10Ok:SigOk Tryz.prog (look sigPk10):=sigCons sigNil Tryz.func34 (by kernel_rfl) (c:=body Tryz.f34) rfl pick10Ok
theorem mkReqOk:SpecSound Tryz.prog 8 mkReqS:=by
  refine soundR (envOf sigPk10Ok) Tryz.func8 (c:=body Tryz.f8) rfl (by kernel_rfl) rfl ?_
  intro args rows out hf hpre
  split at hf <;> try (cases hf;done)
  rename_i x0 x1 x2 x3 needs ws
  cases hf
  refine ⟨Nat.le_of_ble_eq_true rfl,initI (args:=[.agg [.int .i64 x0,.int .i64 x1,.int .i64 x2,.int .i64 x3],.sl t4 needs,.sl tP2 ws]) (rows:=[]) rfl ?_⟩
  refine factSl (t:=1) (ty:=t4) rfl (fun hxs=>?_)
  have hmx:needs.length≤9223372036854775807:=by have:=hxs.1;unfold maxLen at this;omega
  refine factSl (t:=2) (ty:=tP2) rfl (fun hws=>?_)
  have hwx:ws.length≤9223372036854775807:=by have:=hws.1;unfold maxLen at this;omega
  have bp:=fun (c n:Int) (h:0 < n)=>pick_b (c:=c) (n:=n) h
  have q1:=bp x1 4 (by omega)
  have q2:=bp x2 5 (by omega)
  repeat' (first|with_reducible (first|apply pN|apply cN|apply bN|apply cE|apply cR|apply bR|apply lE|apply lR|apply jE|apply jR)|refine zE ?_|refine zP ?_|refine pD ?_|refine pC (by first|(unfold In64;omega)|omega) ?_|refine zS ?_|refine zR ?_|refine zO ?_|refine zB ?_|refine zX ?_|refine zT ?_|refine skipI rfl ?_)
  obtain ⟨X,hX⟩:∃ X:Int4,X=(x0,x1,x2,x3):=⟨_,rfl⟩
  have hn:max 1 (min ((needs.length:Nat):Int) 3)=((ndN needs:Nat):Int):=by unfold ndN;omega
  have hn3:ndN needs≤3:=by unfold ndN;omega
  simp only [hn]
  refine loopI (σ:=Nat) (fun i=>[(9,.int .i64 i)]) (fun i=>[(7,.box [.int .i64 (pickF x0 100),.int .i64 (pickF x1 4),.int .i64 (pickF x1 4+pickF x2 5),.own 3000,.nilsl]),(3000,.seq tNeed ((List.range i).map fun i=>mkNeed (ndAt (x0,x1,x2,x3) needs i)))]) (fun i=>i≤ndN needs) (fun i=>ndN needs - i) 0 rfl (fun _=>rfl) rfl ?_ ?_ ?_
  · exact Nat.zero_le _
  · repeat' (first|exact trivial|with_reducible exact rfl|refine And.intro ?_ ?_)
    all_goals rfl
  · intro i hi
    repeat' (first|with_reducible (first|apply pN|apply cN|apply bN|apply cE|apply cR|apply bR|apply lE|apply lR|apply jE|apply jR)|refine zE ?_|refine zP ?_|refine pD ?_|refine zS ?_|refine zR ?_|refine zO ?_|refine zB ?_|refine zX ?_|refine zT ?_|refine skipI rfl ?_)
    refine condI rfl (fun c1=>?_) (fun c1=>?_)
    · simp only [decide_eq_true_eq] at c1
      have hil:i < ndN needs:=by omega
      have hin:((i:Int)).toNat=i:=by omega
      obtain ⟨y,hy⟩:∃ y:Int4,y=ndAt (x0,x1,x2,x3) needs i:=⟨_,rfl⟩
      repeat' (first|with_reducible (first|apply pN|apply cN|apply bN|apply cE|apply cR|apply bR|apply lE|apply lR|apply jE|apply jR)|refine zE ?_|refine zP ?_|refine pD ?_|refine zS ?_|refine zR ?_|refine zO ?_|refine zB ?_|refine zX ?_|refine zT ?_|refine skipI rfl ?_)
      refine condI rfl (fun c2=>?_) (fun c2=>?_)
      · have hye:y=getI needs t4.dflt i:=by rw [hy];unfold ndAt;rw [c2];rfl
        repeat' (first|with_reducible (first|apply pN|apply cN|apply bN|apply cE|apply cR|apply bR|apply lE|apply lR|apply jE|apply jR)|refine zE ?_|refine zP ?_|refine zS ?_|refine zO ?_|refine zB ?_|refine zX ?_|refine zT ?_|refine skipI rfl ?_)
        refine zR ?_
        repeat' (first|with_reducible refine pN ?_|refine pD ?_|refine pC (by (simp only [decide_eq_true_eq] at c2;omega)) ?_)
        repeat with_reducible refine cN ?_
        repeat' (first|with_reducible refine cN ?_|refine zS ?_|fail)
        refine tidyI [] [(10,.box [.int .i64 y.1,.int .i64 y.2.1,.int .i64 y.2.2.1,.int .i64 y.2.2.2])] rfl rfl ?_ ?_
        · rw [hye]
          simp only [hin]
          repeat' (first|exact trivial|exact rfl|refine ⟨rfl,?_⟩|refine And.intro ?_ ?_)
        have p1:=bp y.1 4 (by omega)
        have p2:=bp y.2.1 2 (by omega)
        have p3:=bp y.2.2.1 20 (by omega)
        have p4:=bp y.2.2.2 8 (by omega)
        have p5:=bp (y.2.1.tdiv 6) 2 (by omega)
        repeat' (first|with_reducible (first|apply pN|apply cN|apply bN|apply cE|apply cR|apply bR|apply lE|apply lR|apply jE|apply jR)|refine zE ?_|refine zP ?_|refine pD ?_|refine pC (by first|(unfold In64;omega)|omega) ?_|refine zS ?_|refine zR ?_|refine zO ?_|refine zB ?_|refine zX ?_|refine zT ?_|refine skipI rfl ?_)
        have hml:((List.range i).map fun i=>mkNeed (ndAt (x0,x1,x2,x3) needs i)).length=i:=by rw [List.length_map,List.length_range]
        refine condI rfl (fun c3=>?_) (fun c3=>?_)
        · repeat' (first|with_reducible (first|apply pN|apply cN|apply bN|apply cE|apply cR|apply bR|apply lE|apply lR|apply jE|apply jR)|refine zE ?_|refine zP ?_|refine zS ?_|refine zO ?_|refine zB ?_|refine zX ?_|refine zT ?_|refine skipI rfl ?_)
          refine zR ?_
          repeat' (first|with_reducible refine pN ?_|refine pD ?_|refine pC (by first|(unfold In64;omega)|(simp;done)|(simp;omega)) ?_)
          repeat with_reducible refine cN ?_
          refine freezeI 90 rfl ?_
          have hny:mkNeed y=([pickF y.1 4,pickF y.1 4+1+pickF y.2.1 2]++[pickF y.1 4+1+pickF y.2.1 2+1+pickF (y.2.1.tdiv 6) 2],1+pickF y.2.2.1 20,1+pickF y.2.2.1 20+pickF y.2.2.2 8):=by
            unfold mkNeed mkT mkBb mkA
            rw [show decide (pickF (y.2.1.tdiv 2) 3=0)=true from c3]
            rfl
          repeat' (first|with_reducible (first|apply pN|apply cN|apply bN|apply cE|apply cR|apply bR|apply lE|apply lR|apply jE|apply jR)|refine zE ?_|refine zP ?_|refine pD ?_|refine pC (by first|(unfold In64;omega)|(simp only [hml,List.length_cons,List.length_nil];omega)) ?_|refine zS ?_|refine zR ?_|refine zO ?_|refine zB ?_|refine zX ?_|refine zT ?_|refine skipI rfl ?_)
          refine roundI (i+1) rfl ?_ ?_ ?_
          · show i+1≤ndN needs
            omega
          · show ndN needs - (i+1) < ndN needs - i
            omega
          · repeat' (first|exact trivial|with_reducible exact rfl|refine And.intro ?_ ?_)
            all_goals (first|rfl|(rw [List.range_succ,List.map_append,List.map_cons,← hy,hny];rfl))
        · refine freezeI 69 rfl ?_
          have hny:mkNeed y=([pickF y.1 4,pickF y.1 4+1+pickF y.2.1 2],1+pickF y.2.2.1 20,1+pickF y.2.2.1 20+pickF y.2.2.2 8):=by
            unfold mkNeed mkT mkBb mkA
            rw [show decide (pickF (y.2.1.tdiv 2) 3=0)=false from c3]
            rfl
          repeat' (first|with_reducible (first|apply pN|apply cN|apply bN|apply cE|apply cR|apply bR|apply lE|apply lR|apply jE|apply jR)|refine zE ?_|refine zP ?_|refine pD ?_|refine pC (by first|(unfold In64;omega)|(simp only [hml,List.length_cons,List.length_nil];omega)) ?_|refine zS ?_|refine zR ?_|refine zO ?_|refine zB ?_|refine zX ?_|refine zT ?_|refine skipI rfl ?_)
          refine roundI (i+1) rfl ?_ ?_ ?_
          · show i+1≤ndN needs
            omega
          · show ndN needs - (i+1) < ndN needs - i
            omega
          · repeat' (first|exact trivial|with_reducible exact rfl|refine And.intro ?_ ?_)
            all_goals (first|rfl|(rw [List.range_succ,List.map_append,List.map_cons,← hy,hny];rfl))
      · have hye:y=(x3,x2,x1,x0):=by rw [hy];unfold ndAt;rw [c2];rfl
        refine tidyI [] [(10,.box [.int .i64 y.1,.int .i64 y.2.1,.int .i64 y.2.2.1,.int .i64 y.2.2.2])] rfl rfl ?_ ?_
        · rw [hye]
          repeat' (first|exact trivial|exact rfl|refine ⟨rfl,?_⟩|refine And.intro ?_ ?_)
        have p1:=bp y.1 4 (by omega)
        have p2:=bp y.2.1 2 (by omega)
        have p3:=bp y.2.2.1 20 (by omega)
        have p4:=bp y.2.2.2 8 (by omega)
        have p5:=bp (y.2.1.tdiv 6) 2 (by omega)
        repeat' (first|with_reducible (first|apply pN|apply cN|apply bN|apply cE|apply cR|apply bR|apply lE|apply lR|apply jE|apply jR)|refine zE ?_|refine zP ?_|refine pD ?_|refine pC (by first|(unfold In64;omega)|omega) ?_|refine zS ?_|refine zR ?_|refine zO ?_|refine zB ?_|refine zX ?_|refine zT ?_|refine skipI rfl ?_)
        have hml:((List.range i).map fun i=>mkNeed (ndAt (x0,x1,x2,x3) needs i)).length=i:=by rw [List.length_map,List.length_range]
        refine condI rfl (fun c3=>?_) (fun c3=>?_)
        · repeat' (first|with_reducible (first|apply pN|apply cN|apply bN|apply cE|apply cR|apply bR|apply lE|apply lR|apply jE|apply jR)|refine zE ?_|refine zP ?_|refine zS ?_|refine zO ?_|refine zB ?_|refine zX ?_|refine zT ?_|refine skipI rfl ?_)
          refine zR ?_
          repeat' (first|with_reducible refine pN ?_|refine pD ?_|refine pC (by first|(unfold In64;omega)|(simp;done)|(simp;omega)) ?_)
          repeat with_reducible refine cN ?_
          refine freezeI 90 rfl ?_
          have hny:mkNeed y=([pickF y.1 4,pickF y.1 4+1+pickF y.2.1 2]++[pickF y.1 4+1+pickF y.2.1 2+1+pickF (y.2.1.tdiv 6) 2],1+pickF y.2.2.1 20,1+pickF y.2.2.1 20+pickF y.2.2.2 8):=by
            unfold mkNeed mkT mkBb mkA
            rw [show decide (pickF (y.2.1.tdiv 2) 3=0)=true from c3]
            rfl
          repeat' (first|with_reducible (first|apply pN|apply cN|apply bN|apply cE|apply cR|apply bR|apply lE|apply lR|apply jE|apply jR)|refine zE ?_|refine zP ?_|refine pD ?_|refine pC (by first|(unfold In64;omega)|(simp only [hml,List.length_cons,List.length_nil];omega)) ?_|refine zS ?_|refine zR ?_|refine zO ?_|refine zB ?_|refine zX ?_|refine zT ?_|refine skipI rfl ?_)
          refine roundI (i+1) rfl ?_ ?_ ?_
          · show i+1≤ndN needs
            omega
          · show ndN needs - (i+1) < ndN needs - i
            omega
          · repeat' (first|exact trivial|with_reducible exact rfl|refine And.intro ?_ ?_)
            all_goals (first|rfl|(rw [List.range_succ,List.map_append,List.map_cons,← hy,hny];rfl))
        · refine freezeI 69 rfl ?_
          have hny:mkNeed y=([pickF y.1 4,pickF y.1 4+1+pickF y.2.1 2],1+pickF y.2.2.1 20,1+pickF y.2.2.1 20+pickF y.2.2.2 8):=by
            unfold mkNeed mkT mkBb mkA
            rw [show decide (pickF (y.2.1.tdiv 2) 3=0)=false from c3]
            rfl
          repeat' (first|with_reducible (first|apply pN|apply cN|apply bN|apply cE|apply cR|apply bR|apply lE|apply lR|apply jE|apply jR)|refine zE ?_|refine zP ?_|refine pD ?_|refine pC (by first|(unfold In64;omega)|(simp only [hml,List.length_cons,List.length_nil];omega)) ?_|refine zS ?_|refine zR ?_|refine zO ?_|refine zB ?_|refine zX ?_|refine zT ?_|refine skipI rfl ?_)
          refine roundI (i+1) rfl ?_ ?_ ?_
          · show i+1≤ndN needs
            omega
          · show ndN needs - (i+1) < ndN needs - i
            omega
          · repeat' (first|exact trivial|with_reducible exact rfl|refine And.intro ?_ ?_)
            all_goals (first|rfl|(rw [List.range_succ,List.map_append,List.map_cons,← hy,hny];rfl))
    · simp only [decide_eq_false_iff_not] at c1
      have hr1:((List.range i).map fun i=>mkNeed (ndAt (x0,x1,x2,x3) needs i))=ndL (x0,x1,x2,x3) needs:=by unfold ndL;rw [show i=ndN needs by omega]
      rw [hr1]
      refine freezeI 3000 rfl ?_
      repeat' (first|with_reducible (first|apply pN|apply cN|apply bN|apply cE|apply cR|apply bR|apply lE|apply lR|apply jE|apply jR)|refine zE ?_|refine zP ?_|refine pD ?_|refine zS ?_|refine zR ?_|refine zO ?_|refine zB ?_|refine zX ?_|refine zT ?_|refine skipI rfl ?_)
      refine loopI (σ:=Nat × List WinT) (fun s=>[(14,.int .i64 s.1)]) (fun s=>[(7,.box [.int .i64 (pickF x0 100),.int .i64 (pickF x1 4),.int .i64 (pickF x1 4+pickF x2 5),.sl tNeed (ndL (x0,x1,x2,x3) needs),.own 3001]),(3001,.seq tWin s.2)]) (fun s=>(s.1≤ws.length∧s.1≤3)∧s.2.length≤s.1∧winL (ndN needs) ws=((ws.take 3).drop s.1).foldl (winStep (ndN needs)) s.2) (fun s=>3 - s.1) (0,[]) rfl (fun _=>rfl) rfl ?_ ?_ ?_
      · exact ⟨⟨Nat.zero_le _,Nat.zero_le _⟩,Nat.le_refl _,rfl⟩
      · repeat' (first|exact trivial|with_reducible exact rfl|refine And.intro ?_ ?_)
        all_goals rfl
      rintro ⟨k,acc⟩ ⟨⟨hk,hk3⟩,hal,hinv⟩
      dsimp only at hk hk3 hal hinv ⊢
      repeat' (first|with_reducible (first|apply pN|apply cN|apply bN|apply cE|apply cR|apply bR|apply lE|apply lR|apply jE|apply jR)|refine zE ?_|refine zP ?_|refine pD ?_|refine zS ?_|refine zR ?_|refine zO ?_|refine zB ?_|refine zX ?_|refine zT ?_|refine skipI rfl ?_)
      refine condI rfl (fun c4=>?_) (fun c4=>?_)
      · simp only [Bool.and_eq_true,decide_eq_true_eq] at c4
        have hkl:k < ws.length:=by omega
        have hkn:((k:Int)).toNat=k:=by omega
        rw [drop_getI (d:=tP2.dflt) (show k < (ws.take 3).length by rw [List.length_take];omega)] at hinv
        obtain ⟨x,hx⟩:∃ x:Int × Int,x=getI ws tP2.dflt k:=⟨_,rfl⟩
        have hxt:getI (ws.take 3) tP2.dflt k=x:=by
          rw [hx]
          unfold getI
          rw [List.getD_eq_getElem?_getD,List.getD_eq_getElem?_getD,List.getElem?_take,if_pos (by omega)]
        rw [hxt] at hinv
        have hx':getI ws tP2.dflt ((k:Int)).toNat=x:=by rw [hkn];exact hx.symm
        have b1:=bp x.1 3 (by omega)
        repeat' (first|with_reducible (first|apply pN|apply cN|apply bN|apply cE|apply cR|apply bR|apply lE|apply lR|apply jE|apply jR)|refine zE ?_|refine zP ?_|refine pD ?_|refine pC (by first|omega|(simp only [hx',List.length_cons,List.length_nil];omega)|(unfold In64;omega)|(intro _ h;have h1:¬ ((acc.length:Int)=0):=(by first|(simpa using h)|(have h2:=(Bool.or_eq_false_iff.1 h).1;simpa using h2));first|omega|(unfold In64;omega)|(intro _;omega)|(intro _;unfold In64;omega))) ?_|refine zS ?_|refine zR ?_|refine zO ?_|refine zB ?_|refine zX ?_|refine zT ?_|refine skipI rfl ?_)
        simp only [hx']
        have hinv:winL (ndN needs) ws=((ws.take 3).drop (k+1)).foldl (winStep (ndN needs)) (winStep (ndN needs) acc x):=hinv
        have hstep:winStep (ndN needs) acc x=bif winFit (ndN needs) acc (mkW x) then acc++[mkW x] else acc:=rfl
        rw [hstep] at hinv
        refine condI rfl (fun c5=>?_) (fun c5=>?_)
        · have c5':winFit (ndN needs) acc (mkW x)=true:=c5
          rw [c5',cond_true] at hinv
          repeat' (first|with_reducible (first|apply pN|apply cN|apply bN|apply cE|apply cR|apply bR|apply lE|apply lR|apply jE|apply jR)|refine zE ?_|refine zP ?_|refine pD ?_|refine pC (by (simp only [List.length_cons,List.length_nil];omega)) ?_|refine zS ?_|refine zR ?_|refine zO ?_|refine zB ?_|refine zX ?_|refine zT ?_|refine skipI rfl ?_)
          refine roundI (k+1,acc++[mkW x]) rfl ?_ ?_ ?_
          · exact ⟨⟨by show k+1≤ws.length;omega,by show k+1≤3;omega⟩,by show (acc++[_]).length≤k+1;simp;omega,hinv⟩
          · show 3 - (k+1) < 3 - k
            omega
          · repeat' (first|exact trivial|with_reducible exact rfl|refine And.intro ?_ ?_)
            all_goals rfl
        · have c5':winFit (ndN needs) acc (mkW x)=false:=c5
          rw [c5',cond_false] at hinv
          repeat' (first|with_reducible (first|apply pN|apply cN|apply bN|apply cE|apply cR|apply bR|apply lE|apply lR|apply jE|apply jR)|refine zE ?_|refine zP ?_|refine pD ?_|refine zS ?_|refine zR ?_|refine zO ?_|refine zB ?_|refine zX ?_|refine zT ?_|refine skipI rfl ?_)
          refine roundI (k+1,acc) rfl ?_ ?_ ?_
          · exact ⟨⟨by show k+1≤ws.length;omega,by show k+1≤3;omega⟩,by show acc.length≤k+1;omega,hinv⟩
          · show 3 - (k+1) < 3 - k
            omega
          · repeat' (first|exact trivial|with_reducible exact rfl|refine And.intro ?_ ?_)
            all_goals rfl
      · simp only [Bool.and_eq_false_iff,decide_eq_false_iff_not] at c4
        rw [List.drop_eq_nil_of_le (by rw [List.length_take];omega)] at hinv
        have hinv:winL (ndN needs) ws=acc:=hinv
        rw [hinv]
        refine freezeI 3001 rfl ?_
        repeat' (first|with_reducible (first|apply pN|apply cN|apply bN|apply cE|apply cR|apply bR|apply lE|apply lR|apply jE|apply jR)|refine zE ?_|refine zP ?_|refine pD ?_|refine zS ?_|refine zR ?_|refine zO ?_|refine zB ?_|refine zX ?_|refine zT ?_|refine skipI rfl ?_)
        refine endR rfl ?_
        repeat' (first|exact trivial|exact rfl|refine ⟨rfl,?_⟩|refine And.intro ?_ ?_)
end Go.AM.YtkgmmmhokgdcaaaGreat.Re
end

section
set_option linter.all false
namespace Go.AM.YtkgmmmhokgdcaaaGreat.Re
open Go.Proofs
set_option maxRecDepth 100000
set_option maxHeartbeats 4000000
end Go.AM.YtkgmmmhokgdcaaaGreat.Re
end
