/- ReJ, ReK, ReN, ReO, ReP, ReQ, ReT. -/
import Derived.Test.YtkgmmmhokgdcaaaGreatPc27
import Derived.Test.YtkgmmmhokgdcaaaGreatPc26
import Derived.Test.YtkgmmmhokgdcaaaGreatPc17
import Derived.Test.YtkgmmmhokgdcaaaGreatPc21

section
set_option linter.all false
namespace Go.AM.YtkgmmmhokgdcaaaGreat.Re
open Go.Proofs
set_option maxRecDepth 100000
set_option maxHeartbeats 4000000
theorem any_false_mem {α:Type} {l:List α} {p:α→Bool} (h:l.any p=false):∀ x∈l,p x=false:=fun x hx=>by
 rw [List.any_eq_false] at h
 simpa using h x hx
theorem rvalid_facts {e a b:Int} {ns:List tNeed.El} {ws:List tWin.El} (h:rvalidF e a b ns ws=true) :
 (0≤e∧e≤1000000)∧(0≤a∧a≤b∧b≤10000)∧(1≤ns.length∧ns.length≤4∧ws.length≤20)∧(∀ x∈ns,(2≤List.length (α:=Int) x.1∧List.length (α:=Int) x.1≤3)∧(1:Int)≤x.2.1∧(x.2.1:Int)≤x.2.2∧x.2.2≤(10000:Int)):=by
 unfold rvalidF at h
 simp only [Bool.and_eq_true,Bool.not_eq_true'] at h
 obtain ⟨⟨h1,h2⟩,h3⟩:=h
 unfold headBad at h1
 simp only [Bool.or_eq_false_iff,Bool.not_eq_false',decide_eq_false_iff_not] at h1
 obtain ⟨⟨⟨⟨h4,h5⟩,h6⟩,h7⟩,h8⟩:=h1
 have h4:=inF_true h4
 have h5:=inF_true h5
 have h7:=inF_true h7
 refine ⟨h4,⟨h5.1,h5.2,by omega⟩,⟨by omega,by omega,by omega⟩,fun x hx=>?_⟩
 have h9:=any_false_mem h2 x hx
 unfold needBad needHd at h9
 simp only [Bool.or_eq_false_iff,Bool.not_eq_false',decide_eq_false_iff_not] at h9
 obtain ⟨⟨⟨g1,g2⟩,g3⟩,_⟩:=h9
 have g1:=inF_true g1
 have g2:=inF_true g2
 exact ⟨⟨by omega,by omega⟩,g2.1,g2.2,Int.not_lt.1 g3⟩
theorem rvalid_best {c:CalT} (hg:CalG c) (hl:lenF c≤800000) {e a b:Int} {ns:List tNeed.El} {ws:List tWin.El} (h:rvalidF e a b ns ws=true):BeP c e b ns ws:=by
 obtain ⟨h1,h2,h3,h4⟩:=rvalid_facts h
 refine ⟨⟨hg,hl⟩,⟨h1.1,h1.2,by omega,h2.2.2⟩,⟨h3.1,by omega,by omega⟩,fun x hx=>?_,⟨by omega,fun x hx=>?_⟩⟩
 ·obtain ⟨_,k1,k2,k3⟩:=h4 x hx
  exact ⟨Int.le_trans (Int.le_trans (by decide) k1) k2,k3⟩
 ·have:=(h4 x hx).1.2
  omega
def makeG (c:CalT) (e a b:Int) (ns:List NeedT) (ws:List tWin.El):BestT:=bif rvalidF e a b ns ws then bestG c e a b ns ws [] else none
def makeV (o:BestT) (e a b:Int) (ws:List tWin.El):AV :=
 .tup [.agg [.int .i64 (sel o e 0),.int .i64 (sel o a 0),.int .i64 (sel o b 0),.sl tStage (bStg o),.sl tWin (sel o ws [])],.int .i64 (sel o 0 100)]
def makeS:Spec:=⟨true,fun args rows=>match args,rows with
 | [.nilptr,.agg [.int .i64 e,.int .i64 a,.int .i64 b,.sl (.pair (.slice (.int .i64)) (.pair (.int .i64) (.int .i64))) ns,.sl (.pair (.int .i64) (.pair (.int .i64) (.int .i64))) ws]],[] =>
   some ⟨True,.tup [.agg [.int .i64 0,.int .i64 0,.int .i64 0,.sl tStage [],.sl tWin []],.int .i64 1],[],true⟩
 | [.ptr 0 0,.agg [.int .i64 e,.int .i64 a,.int .i64 b,.sl (.pair (.slice (.int .i64)) (.pair (.int .i64) (.int .i64))) ns,.sl (.pair (.int .i64) (.pair (.int .i64) (.int .i64))) ws]],[.arr (.pair (.int .i64) (.pair (.int .i64) (.pair (.int .i64) (.int .i64)))) c none] =>
   some ⟨(CalG c∧lenF c≤800000)∧ns.length≤1000000∧ws.length≤1000000,makeV (makeG c e a b ns ws) e a b ws,[.arr Bk c none],true⟩
 | _,_=>none⟩
def sigMake:List (Nat × Spec):=[(35,rvalidS),(36,bestS)]
theorem sigMakeOk:SigOk Tryz.prog (look sigMake):=sigCons (sigCons sigNil
 Tryz.func36 (by kernel_rfl) (c:=body Tryz.f36) rfl bestOk)
 Tryz.func35 (by kernel_rfl) (c:=body Tryz.f35) rfl rvalidOk
theorem makeOk:SpecSound Tryz.prog 9 makeS:=by
 refine soundR (envOf sigMakeOk) Tryz.func9 (c:=body Tryz.f9) rfl (by kernel_rfl) rfl ?_
 intro args rows out hf hpre
 unfold makeS at hf
 split at hf <;> try (cases hf;done)
 ·rename_i e a b ns ws
  cases hf
  refine ⟨Nat.le_of_ble_eq_true rfl,initI (args:=[.nilptr,.agg [.int .i64 e,.int .i64 a,.int .i64 b,.sl tNeed ns,.sl tWin ws]]) (rows:=[]) rfl ?_⟩
  repeat' (first|refine zN ?_|refine zE ?_|refine zP ?_|refine pD ?_|refine zS ?_|refine zR ?_|refine zO ?_|refine zB ?_|refine zX ?_|refine zT ?_|refine skipI rfl ?_)
  refine condT rfl ?_
  repeat' (first|refine zN ?_|refine zE ?_|refine zP ?_|refine pD ?_|refine zS ?_|refine zR ?_|refine zO ?_|refine zB ?_|refine zX ?_|refine zT ?_|refine skipI rfl ?_)
  refine endR rfl ?_
  repeat' (first|exact trivial|exact rfl|refine ⟨rfl,?_⟩|refine And.intro ?_ ?_)
 ·rename_i e a b ns ws c
  cases hf
  refine ⟨Nat.le_of_ble_eq_true rfl,initI (args:=[.ptr 0 0,.agg [.int .i64 e,.int .i64 a,.int .i64 b,.sl tNeed ns,.sl tWin ws]]) (rows:=[.arr Bk c none]) rfl ?_⟩
  obtain ⟨⟨hg,hl⟩,hn,hw⟩:=hpre
  obtain ⟨o,ho⟩:∃ o,o=makeG c e a b ns ws:=⟨_,rfl⟩
  rw [← ho]
  unfold makeG at ho
  repeat' (first|refine zN ?_|refine zE ?_|refine zP ?_|refine pD ?_|refine zS ?_|refine zR ?_|refine zO ?_|refine zB ?_|refine zX ?_|refine zT ?_|refine skipI rfl ?_)
  refine condF rfl ?_
  repeat' (first|refine zN ?_|refine zE ?_|refine zP ?_|refine pD ?_|refine pC (by exact ⟨hn,hw⟩) ?_|refine zS ?_|refine zR ?_|refine zO ?_|refine zB ?_|refine zX ?_|refine zT ?_|refine skipI rfl ?_)
  refine condI rfl (fun c1=>?_) (fun c1=>?_)
  ·rw [c1,cond_true] at ho
   repeat' (first|refine zN ?_|refine zE ?_|refine zP ?_|refine zS ?_|refine zO ?_|refine zB ?_|refine zX ?_|refine zT ?_|refine skipI rfl ?_)
   refine zR ?_
   repeat' (first|with_reducible refine pN ?_|refine pD ?_|refine pC (by exact rvalid_best hg hl c1) ?_)
   repeat with_reducible refine cN ?_
   rw [← ho]
   repeat' (first|refine zN ?_|refine zE ?_|refine zP ?_|refine pD ?_|refine zS ?_|refine zR ?_|refine zO ?_|refine zB ?_|refine zX ?_|refine zT ?_|refine skipI rfl ?_)
   cases o with
   | none =>
     refine condF rfl ?_
     repeat' (first|refine zN ?_|refine zE ?_|refine zP ?_|refine pD ?_|refine zS ?_|refine zR ?_|refine zO ?_|refine zB ?_|refine zX ?_|refine zT ?_|refine skipI rfl ?_)
     refine endR rfl ?_
     repeat' (first|exact trivial|exact rfl|refine ⟨rfl,?_⟩|refine And.intro ?_ ?_)
   | some x =>
     refine condT rfl ?_
     repeat' (first|refine zN ?_|refine zE ?_|refine zP ?_|refine pD ?_|refine zS ?_|refine zR ?_|refine zO ?_|refine zB ?_|refine zX ?_|refine zT ?_|refine skipI rfl ?_)
     refine endR rfl ?_
     repeat' (first|exact trivial|exact rfl|refine ⟨rfl,?_⟩|refine And.intro ?_ ?_)
  ·rw [c1,cond_false] at ho
   rw [ho]
   repeat' (first|refine zN ?_|refine zE ?_|refine zP ?_|refine pD ?_|refine zS ?_|refine zR ?_|refine zO ?_|refine zB ?_|refine zX ?_|refine zT ?_|refine skipI rfl ?_)
   refine endR rfl ?_
   repeat' (first|exact trivial|exact rfl|refine ⟨rfl,?_⟩|refine And.intro ?_ ?_)
end Go.AM.YtkgmmmhokgdcaaaGreat.Re
end

section
set_option linter.all false
namespace Go.AM.YtkgmmmhokgdcaaaGreat.Re
open Go.Proofs
set_option maxRecDepth 100000
set_option maxHeartbeats 4000000
def allFree:CalT→List Bk.El→Bool
 | _,[]=>true
 | c,b::l=>freeF c b&&allFree (bookF c b) l
theorem errB (xss:CalT) (b:Bk.El):decide (errF xss b≠0)=!freeF xss b:=by
 unfold errF
 cases freeF xss b <;> simp
def planL (e a b:Int) (xs:List tStage.El) (ws:List tWin.El) (ow:Int):List Bk.El:=Pl.bookF e a b xs ws ow
theorem planL_len {e a b:Int} {xs:List tStage.El} {ws:List tWin.El} {ow:Int}:(planL e a b xs ws ow).length≤1000:=by
 unfold planL Pl.bookF
 split
 ·rename_i h
  rw [Bool.and_eq_true] at h
  have:=(Pl.valid_facts h.1).n
  rw [Pl.bkN_length]
  omega
 ·simp
def canB (c:CalT) (e a b:Int) (xs:List tStage.El) (ws:List tWin.El) (ow:Int):Bool:=allFree c (planL e a b xs ws ow)&&decide (((planL e a b xs ws ow).length:Int) > 0)
def bookYesS:Spec:=⟨true,fun args rows=>match args,rows with
 | [.ptr 0 0,.agg [.int .i64 e,.int .i64 a,.int .i64 b,.sl (.pair (.int .i64) (.pair (.int .i64) (.pair (.pair (.int .i64) (.int .i64)) (.pair (.int .i64) (.int .i64))))) xs,.sl (.pair (.int .i64) (.pair (.int .i64) (.int .i64))) ws],.int .i64 ow],[.arr (.pair (.int .i64) (.pair (.int .i64) (.pair (.int .i64) (.int .i64)))) c none] =>
   some ⟨(CalG c∧lenF c≤800000)∧canB c e a b xs ws ow=true,.tup [.ptr 1 0,.bool true],[.arr Bk c none,.arr Bk (bookAll (planL e a b xs ws ow) c) none],true⟩
 | _,_=>none⟩
def bookNoS:Spec:=⟨true,fun args rows=>match args,rows with
 | [.ptr 0 0,.agg [.int .i64 e,.int .i64 a,.int .i64 b,.sl (.pair (.int .i64) (.pair (.int .i64) (.pair (.pair (.int .i64) (.int .i64)) (.pair (.int .i64) (.int .i64))))) xs,.sl (.pair (.int .i64) (.pair (.int .i64) (.int .i64))) ws],.int .i64 ow],[.arr (.pair (.int .i64) (.pair (.int .i64) (.pair (.int .i64) (.int .i64)))) c none] =>
   some ⟨(CalG c∧lenF c≤800000)∧canB c e a b xs ws ow=false,.tup [.ext .any,.bool false],[.arr Bk c none],true⟩
 | _,_=>none⟩
def sigBa:List (Nat × Spec):=[(70,Pl.bookS),(43,calCloneS),(28,bookS)]
theorem sigBaOk:SigOk Tryz.prog (look sigBa):=sigCons (sigCons (sigCons sigNil
 Tryz.func28 (by kernel_rfl) (c:=body Tryz.f28) rfl bookOk)
 Tryz.func43 (by kernel_rfl) (c:=body Tryz.f43) rfl calCloneOk)
 Tryz.func70 (by kernel_rfl) (c:=body Tryz.f70) rfl Pl.bookOk
theorem bookYesOk:SpecSound Tryz.prog 37 bookYesS:=by
 refine soundR (envOf sigBaOk) Tryz.func37 (c:=body Tryz.f37) rfl (by kernel_rfl) rfl ?_
 intro args rows out hf hpre
 split at hf <;> try (cases hf;done)
 rename_i e a b xs ws ow c
 cases hf
 refine ⟨Nat.le_of_ble_eq_true rfl,initI (args:=[.ptr 0 0,.agg [.int .i64 e,.int .i64 a,.int .i64 b,.sl tStage xs,.sl tWin ws],.int .i64 ow]) (rows:=[.arr Bk c none]) rfl ?_⟩
 obtain ⟨⟨hg,hl⟩,hcan⟩:=hpre
 obtain ⟨l,hll⟩:∃ l,l=planL e a b xs ws ow:=⟨_,rfl⟩
 have hlen:l.length≤1000:=by rw [hll];exact planL_len
 unfold canB at hcan
 rw [← hll] at hcan
 repeat' (first|refine zN ?_|refine zE ?_|refine zP ?_|refine zS ?_|refine zO ?_|refine zB ?_|refine zX ?_|refine zT ?_|refine skipI rfl ?_)
 refine zR ?_
 repeat' (first|with_reducible refine pN ?_|refine pD ?_|fail)
 repeat with_reducible refine cN ?_
 repeat' (first|refine zN ?_|refine zE ?_|refine zP ?_|refine zS ?_|refine zO ?_|refine zB ?_|refine zX ?_|refine zT ?_|refine skipI rfl ?_)
 refine zR ?_
 repeat' (first|with_reducible refine pN ?_|refine pD ?_|fail)
 repeat with_reducible refine cN ?_
 rw [show Pl.bookF e a b xs ws ow=l from hll.symm]
 repeat' (first|refine zN ?_|refine zE ?_|refine zP ?_|refine pD ?_|refine pC (by exact hg.cal (by omega)) ?_|refine zS ?_|refine zR ?_|refine zO ?_|refine zB ?_|refine zX ?_|refine zT ?_|refine skipI rfl ?_)
 refine loopI (σ:=Nat) (fun i=>[(9,.ptr 3000 0),(19,.int .i64 i)]) (fun i=>[(3000,.arr Bk (bookAll (l.take i) c) none)]) (fun i=>i≤l.length∧allFree c l=allFree (bookAll (l.take i) c) (l.drop i)) (fun i=>l.length - i) 0 rfl (fun _=>rfl) rfl ?_ ?_ ?_
 ·exact ⟨Nat.zero_le _,rfl⟩
 ·repeat' (first|exact trivial|exact rfl|refine ⟨rfl,?_⟩|refine And.intro ?_ ?_)
 rintro i ⟨hi,hinv⟩
 obtain ⟨hbg,hbl⟩:=bookAll_good (l:=l.take i) hg
 rw [List.length_take] at hbl
 repeat' (first|refine zN ?_|refine zE ?_|refine zP ?_|refine pD ?_|refine zS ?_|refine zR ?_|refine zO ?_|refine zB ?_|refine zX ?_|refine zT ?_|refine skipI rfl ?_)
 refine condI rfl (fun c1=>?_) (fun c1=>?_)
 ·simp only [decide_eq_true_eq] at c1
  have hil:i < l.length:=by omega
  have hin:((i:Int)).toNat=i:=by omega
  rw [drop_getI (d:=Bk.dflt) hil] at hinv
  repeat' (first|refine zN ?_|refine zE ?_|refine zP ?_|refine pD ?_|refine pC (by exact ⟨hbg.cal (by omega),hbg.sorted⟩) ?_|refine zS ?_|refine zR ?_|refine zO ?_|refine zB ?_|refine zX ?_|refine zT ?_|refine skipI rfl ?_)
  refine condI rfl (fun c2=>?_) (fun c2=>?_)
  ·have c2':freeF (bookAll (l.take i) c) (getI l Bk.dflt i)=false:=by
    have:=errB (bookAll (l.take i) c) (getI l Bk.dflt i)
    rw [show decide (errF (bookAll (l.take i) c) (getI l Bk.dflt i)≠0)=true by simp only [hin] at c2;exact c2] at this
    simpa using this.symm
   have hinv:allFree c l=(freeF (bookAll (l.take i) c) (getI l Bk.dflt i)&&_):=hinv
   rw [c2',Bool.false_and] at hinv
   rw [hinv] at hcan
   cases hcan
  ·have c2':freeF (bookAll (l.take i) c) (getI l Bk.dflt i)=true:=by
    have:=errB (bookAll (l.take i) c) (getI l Bk.dflt i)
    rw [show decide (errF (bookAll (l.take i) c) (getI l Bk.dflt i)≠0)=false by simp only [hin] at c2;exact c2] at this
    simpa using this.symm
   have hinv:allFree c l=(freeF (bookAll (l.take i) c) (getI l Bk.dflt i)&&allFree (bookF (bookAll (l.take i) c) (getI l Bk.dflt i)) (l.drop (i+1))):=hinv
   rw [c2',Bool.true_and,← bookAll_take hil] at hinv
   repeat' (first|refine zN ?_|refine zE ?_|refine zP ?_|refine pD ?_|refine zS ?_|refine zR ?_|refine zO ?_|refine zB ?_|refine zX ?_|refine zT ?_|refine skipI rfl ?_)
   refine roundI (i+1) rfl ?_ ?_ ?_
   ·exact ⟨by show i+1≤l.length;omega,hinv⟩
   ·show l.length - (i+1) < l.length - i
    omega
   ·repeat' (first|exact trivial|with_reducible exact rfl|refine And.intro ?_ ?_)
    all_goals (first|rfl|(rw [bookAll_take hil];simp only [hin];done)|(rw [bookAll_take hil];simp only [hin];rfl))
 ·simp only [decide_eq_false_iff_not] at c1
  rw [List.drop_eq_nil_of_le (by omega)] at hinv
  have hinv:allFree c l=true:=hinv
  have htk:l.take i=l:=List.take_of_length_le (by omega)
  rw [hinv,Bool.true_and] at hcan
  rw [htk]
  repeat' (first|refine zN ?_|refine zE ?_|refine zP ?_|refine pD ?_|refine zS ?_|refine zR ?_|refine zO ?_|refine zB ?_|refine zX ?_|refine zT ?_|refine skipI rfl ?_)
  refine endR rfl ?_
  rw [← hll,hcan]
  repeat' (first|exact trivial|exact rfl|refine ⟨rfl,?_⟩|refine And.intro ?_ ?_)
theorem bookNoOk:SpecSound Tryz.prog 37 bookNoS:=by
 refine soundR (envOf sigBaOk) Tryz.func37 (c:=body Tryz.f37) rfl (by kernel_rfl) rfl ?_
 intro args rows out hf hpre
 split at hf <;> try (cases hf;done)
 rename_i e a b xs ws ow c
 cases hf
 refine ⟨Nat.le_of_ble_eq_true rfl,initI (args:=[.ptr 0 0,.agg [.int .i64 e,.int .i64 a,.int .i64 b,.sl tStage xs,.sl tWin ws],.int .i64 ow]) (rows:=[.arr Bk c none]) rfl ?_⟩
 obtain ⟨⟨hg,hl⟩,hcan⟩:=hpre
 obtain ⟨l,hll⟩:∃ l,l=planL e a b xs ws ow:=⟨_,rfl⟩
 have hlen:l.length≤1000:=by rw [hll];exact planL_len
 unfold canB at hcan
 rw [← hll] at hcan
 repeat' (first|refine zN ?_|refine zE ?_|refine zP ?_|refine zS ?_|refine zO ?_|refine zB ?_|refine zX ?_|refine zT ?_|refine skipI rfl ?_)
 refine zR ?_
 repeat' (first|with_reducible refine pN ?_|refine pD ?_|fail)
 repeat with_reducible refine cN ?_
 repeat' (first|refine zN ?_|refine zE ?_|refine zP ?_|refine zS ?_|refine zO ?_|refine zB ?_|refine zX ?_|refine zT ?_|refine skipI rfl ?_)
 refine zR ?_
 repeat' (first|with_reducible refine pN ?_|refine pD ?_|fail)
 repeat with_reducible refine cN ?_
 rw [show Pl.bookF e a b xs ws ow=l from hll.symm]
 repeat' (first|refine zN ?_|refine zE ?_|refine zP ?_|refine pD ?_|refine pC (by exact hg.cal (by omega)) ?_|refine zS ?_|refine zR ?_|refine zO ?_|refine zB ?_|refine zX ?_|refine zT ?_|refine skipI rfl ?_)
 refine loopI (σ:=Nat) (fun i=>[(9,.ptr 3000 0),(19,.int .i64 i)]) (fun i=>[(3000,.arr Bk (bookAll (l.take i) c) none)]) (fun i=>i≤l.length∧allFree c l=allFree (bookAll (l.take i) c) (l.drop i)) (fun i=>l.length - i) 0 rfl (fun _=>rfl) rfl ?_ ?_ ?_
 ·exact ⟨Nat.zero_le _,rfl⟩
 ·repeat' (first|exact trivial|exact rfl|refine ⟨rfl,?_⟩|refine And.intro ?_ ?_)
 rintro i ⟨hi,hinv⟩
 obtain ⟨hbg,hbl⟩:=bookAll_good (l:=l.take i) hg
 rw [List.length_take] at hbl
 repeat' (first|refine zN ?_|refine zE ?_|refine zP ?_|refine pD ?_|refine zS ?_|refine zR ?_|refine zO ?_|refine zB ?_|refine zX ?_|refine zT ?_|refine skipI rfl ?_)
 refine condI rfl (fun c1=>?_) (fun c1=>?_)
 ·simp only [decide_eq_true_eq] at c1
  have hil:i < l.length:=by omega
  have hin:((i:Int)).toNat=i:=by omega
  rw [drop_getI (d:=Bk.dflt) hil] at hinv
  repeat' (first|refine zN ?_|refine zE ?_|refine zP ?_|refine pD ?_|refine pC (by exact ⟨hbg.cal (by omega),hbg.sorted⟩) ?_|refine zS ?_|refine zR ?_|refine zO ?_|refine zB ?_|refine zX ?_|refine zT ?_|refine skipI rfl ?_)
  refine condI rfl (fun c2=>?_) (fun c2=>?_)
  ·have c2':freeF (bookAll (l.take i) c) (getI l Bk.dflt i)=false:=by
    have:=errB (bookAll (l.take i) c) (getI l Bk.dflt i)
    rw [show decide (errF (bookAll (l.take i) c) (getI l Bk.dflt i)≠0)=true by simp only [hin] at c2;exact c2] at this
    simpa using this.symm
   have hinv:allFree c l=(freeF (bookAll (l.take i) c) (getI l Bk.dflt i)&&_):=hinv
   rw [c2',Bool.false_and] at hinv
   repeat' (first|refine zN ?_|refine zE ?_|refine zP ?_|refine pD ?_|refine zS ?_|refine zR ?_|refine zO ?_|refine zB ?_|refine zX ?_|refine zT ?_|refine skipI rfl ?_)
   refine endR rfl ?_
   repeat' (first|exact trivial|exact rfl|refine ⟨rfl,?_⟩|refine And.intro ?_ ?_)
  ·have c2':freeF (bookAll (l.take i) c) (getI l Bk.dflt i)=true:=by
    have:=errB (bookAll (l.take i) c) (getI l Bk.dflt i)
    rw [show decide (errF (bookAll (l.take i) c) (getI l Bk.dflt i)≠0)=false by simp only [hin] at c2;exact c2] at this
    simpa using this.symm
   have hinv:allFree c l=(freeF (bookAll (l.take i) c) (getI l Bk.dflt i)&&allFree (bookF (bookAll (l.take i) c) (getI l Bk.dflt i)) (l.drop (i+1))):=hinv
   rw [c2',Bool.true_and,← bookAll_take hil] at hinv
   repeat' (first|refine zN ?_|refine zE ?_|refine zP ?_|refine pD ?_|refine zS ?_|refine zR ?_|refine zO ?_|refine zB ?_|refine zX ?_|refine zT ?_|refine skipI rfl ?_)
   refine roundI (i+1) rfl ?_ ?_ ?_
   ·exact ⟨by show i+1≤l.length;omega,hinv⟩
   ·show l.length - (i+1) < l.length - i
    omega
   ·repeat' (first|exact trivial|with_reducible exact rfl|refine And.intro ?_ ?_)
    all_goals (first|rfl|(rw [bookAll_take hil];simp only [hin];done)|(rw [bookAll_take hil];simp only [hin];rfl))
 ·simp only [decide_eq_false_iff_not] at c1
  rw [List.drop_eq_nil_of_le (by omega)] at hinv
  have hinv:allFree c l=true:=hinv
  have htk:l.take i=l:=List.take_of_length_le (by omega)
  rw [hinv,Bool.true_and] at hcan
  repeat' (first|refine zN ?_|refine zE ?_|refine zP ?_|refine pD ?_|refine zS ?_|refine zR ?_|refine zO ?_|refine zB ?_|refine zX ?_|refine zT ?_|refine skipI rfl ?_)
  refine endR rfl ?_
  rw [hcan]
  repeat' (first|exact trivial|exact rfl|refine ⟨rfl,?_⟩|refine And.intro ?_ ?_)
def rbYesS:Spec:=⟨true,fun args rows=>match args,rows with
 | [.ptr 0 0,.agg [.int .i64 e,.int .i64 a,.int .i64 b,.sl (.pair (.int .i64) (.pair (.int .i64) (.pair (.pair (.int .i64) (.int .i64)) (.pair (.int .i64) (.int .i64))))) xs,.sl (.pair (.int .i64) (.pair (.int .i64) (.int .i64))) ws],.int .i64 ow],[.arr (.pair (.int .i64) (.pair (.int .i64) (.pair (.int .i64) (.int .i64)))) c none] =>
   some ⟨(CalG c∧lenF c≤800000)∧canB c e a b xs ws ow=true,.int .i64 0,[.arr Bk (bookAll (planL e a b xs ws ow) c) none],true⟩
 | _,_=>none⟩
def rbNoS:Spec:=⟨true,fun args rows=>match args,rows with
 | [.ptr 0 0,.agg [.int .i64 e,.int .i64 a,.int .i64 b,.sl (.pair (.int .i64) (.pair (.int .i64) (.pair (.pair (.int .i64) (.int .i64)) (.pair (.int .i64) (.int .i64))))) xs,.sl (.pair (.int .i64) (.pair (.int .i64) (.int .i64))) ws],.int .i64 ow],[.arr (.pair (.int .i64) (.pair (.int .i64) (.pair (.int .i64) (.int .i64)))) c none] =>
   some ⟨(CalG c∧lenF c≤800000)∧canB c e a b xs ws ow=false,.int .i64 100,[.arr Bk c none],true⟩
 | _,_=>none⟩
def rbNilS:Spec:=⟨true,fun args rows=>match args,rows with
 | [.nilptr,.agg [.int .i64 e,.int .i64 a,.int .i64 b,.sl (.pair (.int .i64) (.pair (.int .i64) (.pair (.pair (.int .i64) (.int .i64)) (.pair (.int .i64) (.int .i64))))) xs,.sl (.pair (.int .i64) (.pair (.int .i64) (.int .i64))) ws],.int .i64 ow],[]=>some ⟨True,.int .i64 1,[],true⟩
 | _,_=>none⟩
def rbCal (c:CalT) (e a b:Int) (xs:List tStage.El) (ws:List tWin.El) (ow:Int):CalT:=bif canB c e a b xs ws ow then bookAll (planL e a b xs ws ow) c else c
def rbErr (c:CalT) (e a b:Int) (xs:List tStage.El) (ws:List tWin.El) (ow:Int):Int:=bif canB c e a b xs ws ow then 0 else 100
def reBookS:Spec:=⟨true,fun args rows=>match args,rows with
 | [.nilptr,.agg [.int .i64 e,.int .i64 a,.int .i64 b,.sl (.pair (.int .i64) (.pair (.int .i64) (.pair (.pair (.int .i64) (.int .i64)) (.pair (.int .i64) (.int .i64))))) xs,.sl (.pair (.int .i64) (.pair (.int .i64) (.int .i64))) ws],.int .i64 ow],[]=>some ⟨True,.int .i64 1,[],true⟩
 | [.ptr 0 0,.agg [.int .i64 e,.int .i64 a,.int .i64 b,.sl (.pair (.int .i64) (.pair (.int .i64) (.pair (.pair (.int .i64) (.int .i64)) (.pair (.int .i64) (.int .i64))))) xs,.sl (.pair (.int .i64) (.pair (.int .i64) (.int .i64))) ws],.int .i64 ow],[.arr (.pair (.int .i64) (.pair (.int .i64) (.pair (.int .i64) (.int .i64)))) c none] =>
   some ⟨CalG c∧lenF c≤800000,.int .i64 (rbErr c e a b xs ws ow),[.arr Bk (rbCal c e a b xs ws ow) none],true⟩
 | _,_=>none⟩
def sigRbY:List (Nat × Spec):=[(37,bookYesS)]
theorem sigRbYOk:SigOk Tryz.prog (look sigRbY):=sigCons sigNil Tryz.func37 (by kernel_rfl) (c:=body Tryz.f37) rfl bookYesOk
def sigRbN:List (Nat × Spec):=[(37,bookNoS)]
theorem sigRbNOk:SigOk Tryz.prog (look sigRbN):=sigCons sigNil Tryz.func37 (by kernel_rfl) (c:=body Tryz.f37) rfl bookNoOk
theorem rbYesOk:SpecSound Tryz.prog 10 rbYesS:=by
 refine soundR (envOf sigRbYOk) Tryz.func10 (c:=body Tryz.f10) rfl (by kernel_rfl) rfl ?_
 intro args rows out hf hpre
 split at hf <;> try (cases hf;done)
 rename_i e a b xs ws ow c
 cases hf
 refine ⟨Nat.le_of_ble_eq_true rfl,initI (args:=[.ptr 0 0,.agg [.int .i64 e,.int .i64 a,.int .i64 b,.sl tStage xs,.sl tWin ws],.int .i64 ow]) (rows:=[.arr Bk c none]) rfl ?_⟩
 have hg:=hpre.1.1
 have hgb:=(bookAll_good (l:=planL e a b xs ws ow) hg).1
 repeat' (first|refine zN ?_|refine zE ?_|refine zP ?_|refine pD ?_|refine zS ?_|refine zR ?_|refine zO ?_|refine zB ?_|refine zX ?_|refine zT ?_|refine skipI rfl ?_)
 refine condF rfl ?_
 repeat' (first|refine zN ?_|refine zE ?_|refine zP ?_|refine pD ?_|refine pC (by exact hpre) ?_|refine zS ?_|refine zR ?_|refine zO ?_|refine zB ?_|refine zX ?_|refine zT ?_|refine skipI rfl ?_)
 refine condF rfl ?_
 repeat' (first|with_reducible refine cN ?_|refine zS ?_|refine skipI rfl ?_)
 refine moveI rfl rfl rfl rfl rfl rfl rfl rfl rfl rfl rfl hgb.len hg.len ?_
 repeat' (first|refine zN ?_|refine zE ?_|refine zP ?_|refine pD ?_|refine zS ?_|refine zR ?_|refine zO ?_|refine zB ?_|refine zX ?_|refine zT ?_|refine skipI rfl ?_)
 refine endR rfl ?_
 repeat' (first|exact trivial|exact rfl|refine ⟨rfl,?_⟩|refine And.intro ?_ ?_)
theorem rbNoOk:SpecSound Tryz.prog 10 rbNoS:=by
 refine soundR (envOf sigRbNOk) Tryz.func10 (c:=body Tryz.f10) rfl (by kernel_rfl) rfl ?_
 intro args rows out hf hpre
 split at hf <;> try (cases hf;done)
 rename_i e a b xs ws ow c
 cases hf
 refine ⟨Nat.le_of_ble_eq_true rfl,initI (args:=[.ptr 0 0,.agg [.int .i64 e,.int .i64 a,.int .i64 b,.sl tStage xs,.sl tWin ws],.int .i64 ow]) (rows:=[.arr Bk c none]) rfl ?_⟩
 repeat' (first|refine zN ?_|refine zE ?_|refine zP ?_|refine pD ?_|refine zS ?_|refine zR ?_|refine zO ?_|refine zB ?_|refine zX ?_|refine zT ?_|refine skipI rfl ?_)
 refine condF rfl ?_
 repeat' (first|refine zN ?_|refine zE ?_|refine zP ?_|refine pD ?_|refine pC (by exact hpre) ?_|refine zS ?_|refine zR ?_|refine zO ?_|refine zB ?_|refine zX ?_|refine zT ?_|refine skipI rfl ?_)
 refine condT rfl ?_
 repeat' (first|refine zN ?_|refine zE ?_|refine zP ?_|refine pD ?_|refine zS ?_|refine zR ?_|refine zO ?_|refine zB ?_|refine zX ?_|refine zT ?_|refine skipI rfl ?_)
 refine endR rfl ?_
 repeat' (first|exact trivial|exact rfl|refine ⟨rfl,?_⟩|refine And.intro ?_ ?_)
theorem rbNilOk:SpecSound Tryz.prog 10 rbNilS:=by
 refine soundR (envOf sigRbNOk) Tryz.func10 (c:=body Tryz.f10) rfl (by kernel_rfl) rfl ?_
 intro args rows out hf hpre
 split at hf <;> try (cases hf;done)
 rename_i e a b xs ws ow
 cases hf
 refine ⟨Nat.le_of_ble_eq_true rfl,initI (args:=[.nilptr,.agg [.int .i64 e,.int .i64 a,.int .i64 b,.sl tStage xs,.sl tWin ws],.int .i64 ow]) (rows:=[]) rfl ?_⟩
 repeat' (first|refine zN ?_|refine zE ?_|refine zP ?_|refine pD ?_|refine zS ?_|refine zR ?_|refine zO ?_|refine zB ?_|refine zX ?_|refine zT ?_|refine skipI rfl ?_)
 refine condT rfl ?_
 repeat' (first|refine zN ?_|refine zE ?_|refine zP ?_|refine pD ?_|refine zS ?_|refine zR ?_|refine zO ?_|refine zB ?_|refine zX ?_|refine zT ?_|refine skipI rfl ?_)
 refine endR rfl ?_
 repeat' (first|exact trivial|exact rfl|refine ⟨rfl,?_⟩|refine And.intro ?_ ?_)
theorem reBookOk:SpecSound Tryz.prog 10 reBookS:=by
 intro args rows out hf hpre
 unfold reBookS at hf
 dsimp only at hf
 split at hf <;> try (cases hf;done)
 ·cases hf
  exact rbNilOk _ _ _ rfl hpre
 ·rename_i e a b xs ws ow c
  cases hf
  cases hc:canB c e a b xs ws ow with
  | true =>
    rw [show rbErr c e a b xs ws ow=0 by unfold rbErr;rw [hc];rfl,show rbCal c e a b xs ws ow=bookAll (planL e a b xs ws ow) c by unfold rbCal;rw [hc];rfl]
    exact rbYesOk _ _ ⟨(CalG c∧lenF c≤800000)∧canB c e a b xs ws ow=true,.int .i64 0,[.arr Bk (bookAll (planL e a b xs ws ow) c) none],true⟩ rfl ⟨hpre,hc⟩
  | false =>
    rw [show rbErr c e a b xs ws ow=100 by unfold rbErr;rw [hc];rfl,show rbCal c e a b xs ws ow=c by unfold rbCal;rw [hc];rfl]
    exact rbNoOk _ _ ⟨(CalG c∧lenF c≤800000)∧canB c e a b xs ws ow=false,.int .i64 100,[.arr Bk c none],true⟩ rfl ⟨hpre,hc⟩
end Go.AM.YtkgmmmhokgdcaaaGreat.Re
end

section
set_option linter.all false
namespace Go.AM.YtkgmmmhokgdcaaaGreat.Re
open Go.Proofs
set_option maxRecDepth 100000
set_option maxHeartbeats 4000000
end Go.AM.YtkgmmmhokgdcaaaGreat.Re
end

section
set_option linter.all false
namespace Go.AM.YtkgmmmhokgdcaaaGreat.Re
open Go.Proofs
set_option maxRecDepth 100000
set_option maxHeartbeats 4000000
end Go.AM.YtkgmmmhokgdcaaaGreat.Re
end

section
set_option linter.all false
namespace Go.AM.YtkgmmmhokgdcaaaGreat.Re
open Go.Proofs
set_option maxRecDepth 100000
set_option maxHeartbeats 4000000
abbrev tP2:Ty:=.pair (.int .i64) (.int .i64)
abbrev WinT:=Int × Int × Int
end Go.AM.YtkgmmmhokgdcaaaGreat.Re
end

section
set_option linter.all false
namespace Go.AM.YtkgmmmhokgdcaaaGreat.Re
open Go.Proofs
set_option maxRecDepth 100000
set_option maxHeartbeats 4000000
end Go.AM.YtkgmmmhokgdcaaaGreat.Re
end

section
set_option linter.all false
namespace Go.AM.YtkgmmmhokgdcaaaGreat.Re
open Go.Proofs
theorem fold_some {c:CalT} {e a b:Int} {ns:List NeedT} {ws:List tWin.El} {kvs:DlT} {y:List StT × Int}:∀ {l:List (List PairT)} {s:BestT},l.foldl (stepG c e a b ns ws kvs) s=some y →
 s=some y∨∃ ch∈l,∃ xs,stG b c e ns ch=some xs∧lateAny kvs xs=false∧safeF e a b xs ws=true∧y=(xs,overG (lastG xs))
 | [],s,h=>.inl h
 | ch::l,s,h=>by
   rw [List.foldl_cons] at h
   rcases fold_some h with h1|⟨ch',h1,h2⟩
   ·unfold stepG at h1
    cases hs:stG b c e ns ch with
    | none=>rw [hs] at h1;exact .inl h1
    | some xs =>
      rw [hs] at h1
      dsimp only at h1
      cases hA:(s.isSome&&decide (overG (lastG xs)≥bLst s)) <;> rw [hA] at h1
      ·rw [cond_false] at h1
       cases hB:lateAny kvs xs <;> rw [hB] at h1
       ·rw [cond_false] at h1
        cases hC:safeF e a b xs ws <;> rw [hC] at h1
        ·exact .inl h1
        ·exact .inr ⟨ch,by simp,xs,hs,hB,hC,(Option.some.inj h1).symm⟩
       ·exact .inl h1
      ·exact .inl h1
   ·exact .inr ⟨ch',by simp [h1],h2⟩
theorem best_some {c:CalT} {e a b:Int} {ns:List NeedT} {ws:List tWin.El} {kvs:DlT} {y:List StT × Int} (h:bestG c e a b ns ws kvs=some y) :
 ∃ ch∈chL ns [],stG b c e ns ch=some y.1∧lateAny kvs y.1=false∧safeF e a b y.1 ws=true∧y.2=overG (lastG y.1):=by
 rcases fold_some (s:=none) h with h1|⟨ch,h1,xs,h2,h3,h4,h5⟩
 ·cases h1
 ·subst h5;exact ⟨ch,h1,h2,h3,h4,rfl⟩
theorem tool_mem {c:CalT} (h:CalG c) {t:Int} (h0:0≤t) (h1:t < 60) {e:Bk.El}:e∈toolL c t↔inC c e∧tlB e=t:=by
 constructor
 ·intro he
  have ht:=((h.tool h0 h1).all e he).2
  have ht:tlB e=t:=by omega
  exact ⟨by unfold inC;rw [ht];exact he,ht⟩
 ·rintro ⟨h2,h3⟩
  unfold inC at h2
  rwa [h3] at h2
theorem tool_book {c:CalT} (h:CalG c) {b:Bk.El} (hf:freeF c b=true) {t:Int} (h0:0≤t) (h1:t < 60) {e:Bk.El}:e∈toolL (bookF c b) t↔(e=b∧tlB b=t)∨e∈toolL c t:=by
 obtain ⟨g1,g2,_⟩:=book_yes h hf
 rw [tool_mem g1 h0 h1,tool_mem h h0 h1]
 constructor
 ·rintro ⟨h2,h3⟩
  rcases (g2 e (by omega)).1 h2 with rfl|h4
  ·exact .inl ⟨rfl,h3⟩
  ·exact .inr ⟨h4,h3⟩
 ·rintro (⟨rfl,h3⟩|⟨h4,h3⟩)
  ·exact ⟨(g2 e (by omega)).2 (.inl rfl),h3⟩
  ·exact ⟨(g2 e (by omega)).2 (.inr h4),h3⟩
theorem free_book {c:CalT} (h:CalG c) {b d:Bk.El} (hf:freeF c b=true):freeF (bookF c b) d=true↔freeF c d=true∧¬ (tlB b=tlB d∧meet b d):=by
 rw [free_iff,free_iff]
 constructor
 ·rintro ⟨h1,h2⟩
  refine ⟨⟨h1,fun e he=>h2 e ((tool_book h hf h1.t0 h1.t1).2 (.inr he))⟩,fun ⟨h3,h4⟩=>h2 b ((tool_book h hf h1.t0 h1.t1).2 (.inl ⟨rfl,h3⟩)) h4⟩
 ·rintro ⟨⟨h1,h2⟩,h3⟩
  refine ⟨h1,fun e he hm=>?_⟩
  rcases (tool_book h hf h1.t0 h1.t1).1 he with ⟨rfl,h4⟩|h4
  ·exact h3 ⟨h4,hm⟩
  ·exact h2 e h4 hm
def apartB (a b:Bk.El):Prop:=¬ (tlB a=tlB b∧meet a b)
theorem allFree_iff:∀ {l:List Bk.El} {c:CalT},CalG c→(allFree c l=true↔(∀ b∈l,freeF c b=true)∧l.Pairwise apartB)
 | [],c,_=>by simp [allFree]
 | b::l,c,h=>by
   simp only [allFree,Bool.and_eq_true,List.mem_cons,forall_eq_or_imp,List.pairwise_cons]
   constructor
   ·rintro ⟨h1,h2⟩
    obtain ⟨h3,h4⟩:=(allFree_iff (book_good h b).1).1 h2
    exact ⟨⟨h1,fun d hd=>((free_book h h1).1 (h3 d hd)).1⟩,fun d hd=>((free_book h h1).1 (h3 d hd)).2,h4⟩
   ·rintro ⟨⟨h1,h2⟩,h3,h4⟩
    exact ⟨h1,(allFree_iff (book_good h b).1).2 ⟨fun d hd=>(free_book h h1).2 ⟨h2 d hd,h3 d hd⟩,h4⟩⟩
def cntC (p:Bk.El→Bool) (c:CalT):Nat:=c.flatten.countP p
theorem cnt_set {p:Bk.El→Bool} {l:List Bk.El}:∀ {c:CalT} {i:Nat},i < c.length→cntC p (c.set i l)+(getI c [] i).countP p=cntC p c+l.countP p
 | [],i,h=>by simp at h
 | x::r,0,_=>by simp [cntC,getI];omega
 | x::r,i+1,h=>by
   have:=cnt_set (p:=p) (l:=l) (c:=r) (i:=i) (by simpa using h)
   simp [cntC,getI] at this ⊢
   omega
theorem cnt_book {p:Bk.El→Bool} {c:CalT} (h:CalG c) {b:Bk.El} (hf:freeF c b=true):cntC p (bookF c b)=cntC p c+(if p b=true then 1 else 0):=by
 unfold bookF
 rw [if_pos hf]
 have hg:=(free_iff.1 hf).1
 have hi:(tlB b).toNat < c.length:=by rw [h.len];have:=hg.t0;have:=hg.t1;omega
 have h1:=cnt_set (p:=p) (l:=addF (toolL c b.1) b) hi
 have h2:(addF (toolL c b.1) b).countP p=(toolL c b.1).countP p+(if p b=true then 1 else 0):=by
  have e:addF (toolL c b.1) b=(toolL c b.1).take (posF (toolL c b.1) (startB b))++[b]++(toolL c b.1).drop (posF (toolL c b.1) (startB b)):=by unfold addF insF;simp
  rw [e,List.countP_append,List.countP_append]
  have h3:(toolL c b.1).countP p=((toolL c b.1).take (posF (toolL c b.1) (startB b))).countP p+((toolL c b.1).drop (posF (toolL c b.1) (startB b))).countP p:=by
   rw [← List.countP_append,List.take_append_drop]
  rw [h3,List.countP_singleton]
  omega
 show cntC p (c.set (tlB b).toNat (addF (toolL c b.1) b))=_
 have h4:(getI c [] (tlB b).toNat)=toolL c b.1:=rfl
 rw [h4] at h1
 omega
theorem all_book:∀ {l:List Bk.El} {c:CalT},CalG c→allFree c l=true →
 (∀ t,0≤t→t < 60→∀ e,e∈toolL (bookAll l c) t↔(e∈l∧tlB e=t)∨e∈toolL c t)∧lenF (bookAll l c)=lenF c+l.length∧∀ p,cntC p (bookAll l c)=cntC p c+l.countP p
 | [],c,_,_=>⟨fun t h0 h1 e=>by simp [bookAll],rfl,fun p=>rfl⟩
 | b::l,c,h,hf=>by
   simp only [allFree,Bool.and_eq_true] at hf
   obtain ⟨h1,h2⟩:=hf
   obtain ⟨k1,k2,k3⟩:=all_book (book_good h b).1 h2
   refine ⟨fun t h0 h3 e=>?_,?_,fun p=>?_⟩
   ·show e∈toolL (bookAll l (bookF c b)) t↔_
    rw [k1 t h0 h3 e,tool_book h h1 h0 h3]
    constructor
    ·rintro (⟨h4,h5⟩|⟨rfl,h5⟩|h4)
     ·exact .inl ⟨List.mem_cons_of_mem _ h4,h5⟩
     ·exact .inl ⟨by simp,h5⟩
     ·exact .inr h4
    ·rintro (⟨h4,h5⟩|h4)
     ·rcases List.mem_cons.1 h4 with rfl|h4
      ·exact .inr (.inl ⟨rfl,h5⟩)
      ·exact .inl ⟨h4,h5⟩
     ·exact .inr (.inr h4)
   ·show lenF (bookAll l (bookF c b))=_
    rw [k2,(book_yes h h1).2.2,List.length_cons]
    omega
   ·show cntC p (bookAll l (bookF c b))=_
    rw [k3 p,cnt_book h h1,List.countP_cons]
    omega
def bks (xs:List StT) (ow:Int):List Bk.El:=xs.flatMap fun x=>[Pl.bk1 x ow,Pl.bk2 x ow]
theorem bkN_take {xs:List StT} {ow:Int}:∀ {i:Nat},i≤xs.length→Pl.bkN xs ow i=bks (xs.take i) ow
 | 0,_=>rfl
 | i+1,h=>by
   rw [show Pl.bkN xs ow (i+1)=Pl.bkN xs ow i++[Pl.bk1 (getI xs tStage.dflt i) ow]++[Pl.bk2 (getI xs tStage.dflt i) ow] from rfl,bkN_take (by omega),take_getI (d:=tStage.dflt) (by omega)]
   unfold bks
   rw [List.flatMap_append]
   simp
theorem planL_eq {e a b:Int} {xs:List tStage.El} {ws:List tWin.El} {ow:Int} (h:Pl.validF e a b xs ws=true) (h1:1≤ow) (h2:ow≤1000000):planL e a b xs ws ow=bks xs ow:=by
 unfold planL Pl.bookF
 rw [if_pos (by rw [h];unfold Pl.withinF;simp [h1,h2]),bkN_take (Nat.le_refl _),List.take_length]
theorem bks_len (xs:List StT) (ow:Int):(bks xs ow).length=2 * xs.length:=by
 unfold bks
 induction xs with
 | nil=>rfl
 | cons x r ih=>rw [List.flatMap_cons,List.length_append,ih,List.length_cons];simp;omega
def owTo (ow:Int) (b:Bk.El):Bk.El:=(b.1,b.2.1,b.2.2.1,ow)
theorem bks_own (xs:List StT) (o ow:Int):bks xs ow=(bks xs o).map (owTo ow):=by
 unfold bks
 induction xs with
 | nil=>rfl
 | cons x r ih=>rw [List.flatMap_cons,List.flatMap_cons,List.map_append,ih];rfl
theorem free_own {c:CalT} {b:Bk.El} {ow:Int} (h:freeF c b=true) (h1:1≤ow) (h2:ow≤1000000):freeF c (owTo ow b)=true:=by
 obtain ⟨k1,k2⟩:=free_iff.1 h
 exact free_iff.2 ⟨⟨k1.t0,k1.t1,k1.s0,k1.se,k1.e1,h1,h2⟩,fun d hd hm=>k2 d hd hm⟩
theorem all_own {c:CalT} (hc:CalG c) {l:List Bk.El} {ow:Int} (h:allFree c l=true) (h1:1≤ow) (h2:ow≤1000000):allFree c (l.map (owTo ow))=true:=by
 obtain ⟨k1,k2⟩:=(allFree_iff hc).1 h
 refine (allFree_iff hc).2 ⟨fun b hb=>?_,?_⟩
 ·obtain ⟨d,hd,rfl⟩:=List.mem_map.1 hb
  exact free_own (k1 d hd) h1 h2
 ·rw [List.pairwise_map]
  exact k2.imp fun h=>h
theorem bookG_eq {c:CalT} {tl fr ln:Int} (h:(firstF c tl fr ln).2=true):bookG c tl fr ln=bookF c (tl,(firstF c tl fr ln).1,(firstF c tl fr ln).1+ln,1):=by
 unfold bookG;rw [h];rfl
theorem stG_all {b:Int}:∀ {ns:List NeedT} {c:CalT} {t:Int} {ch:List PairT} {xs:List StT},CalG c→stG b c t ns ch=some xs→allFree c (bks xs 1)=true
 | [],c,t,ch,xs,_,h=>by
   simp only [stG,Option.some.injEq] at h
   subst h
   rfl
 | _::_,c,t,[],xs,_,h=>by simp [stG] at h
 | x::ns,c,t,p::ch,xs,hc,h=>by
   simp only [stG] at h
   cases h1:(firstF c p.1 (t+b) x.2.2).2 <;> rw [h1] at h
   ·cases h
   ·rw [cond_true] at h
    cases h2:(firstF (bookG c p.1 (t+b) x.2.2) p.2 ((firstF c p.1 (t+b) x.2.2).1+x.2.2 - 1+b) x.2.2).2 <;> rw [h2] at h
    ·cases h
    ·rw [cond_true,Option.map_eq_some_iff] at h
     obtain ⟨l,h3,rfl⟩:=h
     have hg1:=(bookG_good hc p.1 (t+b) x.2.2).1
     have hg2:=(bookG_good hg1 p.2 ((firstF c p.1 (t+b) x.2.2).1+x.2.2 - 1+b) x.2.2).1
     have h5:=stG_all hg2 h3
     have f1:=(first_facts hc h1).2.2
     have f2:=(first_facts hg1 h2).2.2
     obtain ⟨st,hst⟩:∃ st:StT,st=(x.2.1,x.2.2,(p.1,(firstF c p.1 (t+b) x.2.2).1),(p.2,(firstF (bookG c p.1 (t+b) x.2.2) p.2 ((firstF c p.1 (t+b) x.2.2).1+x.2.2 - 1+b) x.2.2).1)):=⟨_,rfl⟩
     have g1:bookF c (Pl.bk1 st 1)=bookG c p.1 (t+b) x.2.2:=by rw [hst];exact (bookG_eq h1).symm
     have g2:bookF (bookG c p.1 (t+b) x.2.2) (Pl.bk2 st 1)=bookG (bookG c p.1 (t+b) x.2.2) p.2 ((firstF c p.1 (t+b) x.2.2).1+x.2.2 - 1+b) x.2.2:=by rw [hst];exact (bookG_eq h2).symm
     rw [← hst]
     show (freeF c (Pl.bk1 st 1)&&(freeF (bookF c (Pl.bk1 st 1)) (Pl.bk2 st 1)&&allFree (bookF (bookF c (Pl.bk1 st 1)) (Pl.bk2 st 1)) (bks l 1)))=true
     rw [g1,g2,h5,show freeF c (Pl.bk1 st 1)=true by rw [hst];exact f1,show freeF (bookG c p.1 (t+b) x.2.2) (Pl.bk2 st 1)=true by rw [hst];exact f2]
     rfl
structure Made (c:CalT) (e a b:Int) (ns:List NeedT) (ws:List tWin.El) (xs:List StT):Prop where
 rv:rvalidF e a b ns ws=true
 safe:safeF e a b xs ws=true
 valid:Pl.validF e a b xs ws=true
 len:xs.length=ns.length
 pos:1≤xs.length
 free:∀ ow,1≤ow→ow≤1000000→allFree c (bks xs ow)=true
theorem made {c:CalT} (hc:CalG c) {e a b:Int} {ns:List NeedT} {ws:List tWin.El} {y:List StT × Int} (h:makeG c e a b ns ws=some y):Made c e a b ns ws y.1:=by
 unfold makeG at h
 cases hr:rvalidF e a b ns ws <;> rw [hr] at h
 ·cases h
 ·rw [cond_true] at h
  obtain ⟨ch,h1,h2,h3,h4,h5⟩:=best_some h
  have h6:=(stG_facts hc h2).1
  have h7:=rvalid_facts hr
  have hv:Pl.validF e a b y.1 ws=true:=by
   unfold safeF at h4
   simp only [Bool.and_eq_true] at h4
   exact h4.1.1
  refine ⟨hr,h4,hv,h6,by rw [h6];exact h7.2.2.1.1,fun ow o1 o2=>?_⟩
  rw [bks_own _ 1 ow]
  exact all_own hc (stG_all hc h2) o1 o2
theorem Made.can {c:CalT} {e a b:Int} {ns:List NeedT} {ws:List tWin.El} {xs:List StT} (m:Made c e a b ns ws xs) {ow:Int} (h1:1≤ow) (h2:ow≤1000000):canB c e a b xs ws ow=true:=by
 unfold canB
 rw [planL_eq m.valid h1 h2,m.free ow h1 h2,Bool.true_and,decide_eq_true_eq,bks_len]
 have:=m.pos
 omega
theorem Made.twice {c:CalT} (hc:CalG c) {e a b:Int} {ns:List NeedT} {ws:List tWin.El} {xs:List StT} (m:Made c e a b ns ws xs) {ow o2:Int} (h1:1≤ow) (h2:ow≤1000000) (h3:1≤o2) (h4:o2≤1000000) :
 canB (bookAll (bks xs ow) c) e a b xs ws o2=false:=by
 cases hcan:canB (bookAll (bks xs ow) c) e a b xs ws o2 with
 | false=>rfl
 | true =>
   exfalso
   unfold canB at hcan
   rw [planL_eq m.valid h3 h4,Bool.and_eq_true] at hcan
   cases xs with
   | nil=>have:=m.pos;simp at this
   | cons x r =>
     have hgc:=(bookAll_good (l:=bks (x::r) ow) hc).1
     have h5:=((allFree_iff hgc).1 hcan.1).1 (Pl.bk1 x o2) (by unfold bks;simp)
     obtain ⟨k1,k2⟩:=free_iff.1 h5
     have h6:=(all_book hc (m.free ow h1 h2)).1 (tlB (Pl.bk1 x o2)) k1.t0 k1.t1 (Pl.bk1 x ow)
     refine k2 _ (h6.2 (.inl ⟨by unfold bks;simp,rfl⟩)) ?_
     have:=k1.se
     exact ⟨this,this⟩
theorem Made.book {c:CalT} (hc:CalG c) {e a b:Int} {ns:List NeedT} {ws:List tWin.El} {xs:List StT} (m:Made c e a b ns ws xs) {ow:Int} (h1:1≤ow) (h2:ow≤1000000) :
 rbErr c e a b xs ws ow=0∧rbCal c e a b xs ws ow=bookAll (bks xs ow) c:=by
 unfold rbErr rbCal
 rw [m.can h1 h2,planL_eq m.valid h1 h2]
 exact ⟨rfl,rfl⟩
theorem Made.again {c:CalT} (hc:CalG c) {e a b:Int} {ns:List NeedT} {ws:List tWin.El} {xs:List StT} (m:Made c e a b ns ws xs) {ow o2:Int} (h1:1≤ow) (h2:ow≤1000000) (h3:1≤o2) (h4:o2≤1000000) :
 rbErr (bookAll (bks xs ow) c) e a b xs ws o2=100∧rbCal (bookAll (bks xs ow) c) e a b xs ws o2=bookAll (bks xs ow) c:=by
 unfold rbErr rbCal
 rw [m.twice hc h1 h2 h3 h4]
 exact ⟨rfl,rfl⟩
end Go.AM.YtkgmmmhokgdcaaaGreat.Re
end
