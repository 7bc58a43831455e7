/- CaD, CaS. -/
import Derived.Test.YtmohhhbgcehnpaaGreatPm14
import Derived.Test.YtmohhhbgcehnpaaGreatPm16

section
set_option linter.all false
namespace Go.AM.YtmohhhbgcehnpaaGreat
open Go.Proofs
set_option maxRecDepth 100000
set_option maxHeartbeats 4000000
def startB (b:Bk.El):Int:=b.2.1
def SortedB (xs:List Bk.El):Prop:=∀ i j,i < j→j < xs.length→startB (getI xs Bk.dflt i)≤startB (getI xs Bk.dflt j)
def posF (xs:List Bk.El) (s:Int):Nat:=(xs.takeWhile fun b=>decide (startB b < s)).length
theorem posF_eq {s:Int}:∀ {xs:List Bk.El} {i:Nat},i≤xs.length→(∀ k,k < i→startB (getI xs Bk.dflt k) < s)→(i < xs.length→s≤startB (getI xs Bk.dflt i))→posF xs s=i
 | [],i,h,_,_=>by simp at h;subst h;rfl
 | x::xs,0,_,_,h=>by
   have h0:s≤startB x:=h (by simp)
   unfold posF
   rw [List.takeWhile_cons_of_neg (by simp;omega)];rfl
 | x::xs,i+1,hi,hl,h=>by
   have h0:startB x < s:=hl 0 (by omega)
   have:=posF_eq (xs:=xs) (i:=i) (by simpa using hi) (fun k hk=>hl (k+1) (by omega)) (fun hi=>h (by simpa using hi))
   unfold posF at this ⊢
   rw [List.takeWhile_cons_of_pos (by simpa using h0)]
   simp [this]
def foundF (xs:List Bk.El) (s:Int):Bool:=decide ((posF xs s:Int) < xs.length)&&decide (cmpI (startB (getI xs Bk.dflt (posF xs s))) s=0)
theorem half_u (n:Int) (h:0≤n) (k:n < 9223372036854775808):IntKind.wrap .i64 ((IntKind.wrap .u64 n).fdiv (2 ^ (min (1:Int).toNat IntKind.u64.bits)))=n / 2:=by
 have h1:IntKind.wrap .u64 n=n:=by simp [IntKind.wrap,IntKind.signed,IntKind.bits];omega
 have h2:(2:Int) ^ (min (1:Int).toNat IntKind.u64.bits)=2:=by simp [IntKind.bits]
 rw [h1,h2,Int.fdiv_eq_ediv_of_nonneg _ (by omega)]
 exact wrapId (by omega) (by omega)
def sigBy:List (Nat × Spec):=[(59,byS)]
theorem sigByOk:SigOk Tryz.prog (look sigBy):=sigCons sigNil Tryz.func59 (by kernel_rfl) (c:=body Tryz.f59) rfl byOk
def binS:Spec:=plain fun
 | [.sl (.pair (.int .i64) (.pair (.int .i64) (.pair (.int .i64) (.int .i64)))) xs,.agg [.int .i64 tl,.int .i64 s,.int .i64 e,.int .i64 o],.fn 59 [] []] =>
   outV (SortedB xs∧xs.length≤1000000000) (.tup [.int .i64 (posF xs s),.bool (foundF xs s)])
 | _=>none
theorem cmpI_neg {a b:Int}:cmpI a b < 0↔a < b:=by
 unfold cmpI
 split
 ·simp;assumption
 ·split <;> simp <;> omega
theorem binOk:SpecSound Tryz.prog 95 binS:=by
 refine soundP (envOf sigByOk) Tryz.func95 (c:=body Tryz.f95) rfl (by kernel_rfl) rfl ?_
 intro args out hf hpre
 split at hf <;> try (cases hf;done)
 rename_i xs tl s e o
 cases hf
 refine ⟨Nat.le_of_ble_eq_true rfl,initI (args:=[.sl Bk xs,.agg [.int .i64 tl,.int .i64 s,.int .i64 e,.int .i64 o],.fn 59 [] []]) rfl ?_⟩
 obtain ⟨hso,hlen⟩:=hpre
 repeat' (first|refine zN ?_|refine zE ?_|refine zP ?_|refine pD ?_|refine zS ?_|refine zR ?_|refine zO ?_|refine zB ?_|refine zX ?_|refine zT ?_|refine skipI rfl ?_)
 refine loopI (σ:=Nat × Nat) (fun p=>[(9,.int .i64 p.1),(10,.int .i64 p.2)]) (fun p=>[]) (fun p=>p.1≤p.2∧p.2≤xs.length∧(∀ k,k < p.1→startB (getI xs Bk.dflt k) < s)∧(p.2 < xs.length→s≤startB (getI xs Bk.dflt p.2))) (fun p=>p.2 - p.1) (0,xs.length) rfl (fun _=>rfl) rfl ?_ ?_ ?_
 ·exact ⟨Nat.zero_le _,Nat.le_refl _,fun k hk=>by omega,fun h=>by omega⟩
 ·repeat' (first|exact trivial|exact rfl|refine ⟨rfl,?_⟩|refine And.intro ?_ ?_)
 ·rintro ⟨i,j⟩ ⟨h1,h2,h3,h4⟩
  simp only at h1 h2 h3 h4
  repeat' (first|refine zN ?_|refine zE ?_|refine zP ?_|refine pD ?_|refine zS ?_|refine zR ?_|refine zO ?_|refine zB ?_|refine zX ?_|refine zT ?_|refine skipI rfl ?_)
  refine condI rfl (fun c1=>?_) (fun c1=>?_)
  ·simp only [decide_eq_true_eq] at c1
   have hij:i < j:=by omega
   refine skipI rfl ?_
   with_reducible refine cN ?_
   refine zB ?_
   refine zS ?_
   refine zR ?_
   repeat' (first|with_reducible refine pN ?_|refine pD ?_|fail)
   with_reducible refine cN ?_
   have hm:((i+j) / 2:Nat) < j∧i≤(i+j) / 2:=by omega
   refine tidyI [(11,.int .i64 (((i+j) / 2:Nat):Int))] [] rfl rfl ?_ ?_
   ·repeat' (first|exact trivial|exact rfl|refine ⟨rfl,?_⟩|refine And.intro ?_ ?_)
    exact ((half_u ((i:Int)+(j:Int)) (by omega) (by omega)).trans (by omega)).symm
   generalize hmm:(i+j) / 2=mid at hm
   have ht:((mid:Int)).toNat=mid:=by omega
   repeat' (first|refine zN ?_|refine zE ?_|refine zP ?_|refine pD ?_|refine zS ?_|refine zR ?_|refine zO ?_|refine zB ?_|refine zX ?_|refine zT ?_|refine skipI rfl ?_)
   refine condI rfl (fun c2=>?_) (fun c2=>?_)
   ·simp only [decide_eq_true_eq,cmpI_neg,ht] at c2
    repeat' (first|refine zN ?_|refine zE ?_|refine zP ?_|refine pD ?_|refine zS ?_|refine zR ?_|refine zO ?_|refine zB ?_|refine zX ?_|refine zT ?_|refine skipI rfl ?_)
    refine roundI (mid+1,j) rfl ?_ ?_ ?_
    ·refine ⟨by show mid+1≤j;omega,h2,fun k hk=>?_,h4⟩
     have hk:k < mid+1:=hk
     rcases Nat.lt_or_ge k mid with h|h
     ·exact Int.lt_of_le_of_lt (hso k mid h (by omega)) c2
     ·obtain rfl:k=mid:=by omega
      exact c2
    ·show j - (mid+1) < j - i
     omega
    ·repeat' (first|exact trivial|exact rfl|refine ⟨rfl,?_⟩|refine And.intro ?_ ?_)
   ·simp only [decide_eq_false_iff_not,cmpI_neg,ht] at c2
    repeat' (first|refine zN ?_|refine zE ?_|refine zP ?_|refine pD ?_|refine zS ?_|refine zR ?_|refine zO ?_|refine zB ?_|refine zX ?_|refine zT ?_|refine skipI rfl ?_)
    refine roundI (i,mid) rfl ?_ ?_ ?_
    ·exact ⟨hm.2,by show mid≤xs.length;omega,h3,fun _=>by show s≤startB (getI xs Bk.dflt mid);unfold startB;omega⟩
    ·show mid - i < j - i
     omega
    ·repeat' (first|exact trivial|exact rfl|refine ⟨rfl,?_⟩|refine And.intro ?_ ?_)
  ·simp only [decide_eq_false_iff_not] at c1
   have hij:i=j:=by omega
   repeat' (first|refine zN ?_|refine zE ?_|refine zP ?_|refine pD ?_|refine pC (by first|exact fun h=>(by simpa using h)|exact fun _=>trivial) ?_|refine zS ?_|refine zR ?_|refine zO ?_|refine zB ?_|refine zX ?_|refine zT ?_|refine skipI rfl ?_)
   have hp:=posF_eq (by omega) h3 (by intro h;rw [hij];exact h4 (by omega))
   refine endR rfl ?_
   repeat' (first|exact trivial|exact rfl|refine ⟨rfl,?_⟩|refine And.intro ?_ ?_)
   ·rw [hp]
   ·unfold foundF
    rw [hp]
    rfl
def sigIns:List (Nat × Spec):=[(95,binS),(96,insS)]
theorem sigInsOk:SigOk Tryz.prog (look sigIns):=sigCons (sigCons sigNil Tryz.func96 (by kernel_rfl) (c:=body Tryz.f96) rfl insOk)
 Tryz.func95 (by kernel_rfl) (c:=body Tryz.f95) rfl binOk
def addF (xs:List Bk.El) (b:Bk.El):List Bk.El:=insF xs [b] (posF xs (startB b))
theorem posF_le (xs:List Bk.El) (s:Int):posF xs s≤xs.length:=(List.takeWhile_sublist _).length_le
def insertedS:Spec:=⟨true,fun args rows=>match args,rows with
 | [.own 0,.agg [.int .i64 tl,.int .i64 s,.int .i64 e,.int .i64 o],.fn 59 [] []],[.seq (.pair (.int .i64) (.pair (.int .i64) (.pair (.int .i64) (.int .i64)))) xs] =>
   some ⟨SortedB xs∧xs.length≤1000000000,.own 1,[.dead,.seq Bk (addF xs (tl,s,e,o))],true⟩
 | _,_=>none⟩
theorem insertedOk:SpecSound Tryz.prog 58 insertedS:=by
 refine soundR (envOf sigInsOk) Tryz.func58 (c:=body Tryz.f58) rfl (by kernel_rfl) rfl ?_
 intro args rows out hf hpre
 split at hf <;> try (cases hf;done)
 rename_i tl s e o xs
 cases hf
 refine ⟨Nat.le_of_ble_eq_true rfl,initI (args:=[.own 0,.agg [.int .i64 tl,.int .i64 s,.int .i64 e,.int .i64 o],.fn 59 [] []]) (rows:=[.seq Bk xs]) rfl ?_⟩
 obtain ⟨hso,hlen⟩:=hpre
 have hp:=posF_le xs s
 repeat' (first|refine zN ?_|refine zE ?_|refine zP ?_|refine pD ?_|refine pC (by first|exact ⟨hso,hlen⟩|exact ⟨by omega,by omega,by simp,by simp;omega⟩) ?_|refine zS ?_|refine zR ?_|refine zO ?_|refine zB ?_|refine zX ?_|refine zT ?_|refine skipI rfl ?_)
 refine endR rfl ?_
 repeat' (first|exact trivial|exact rfl|refine ⟨rfl,?_⟩|refine And.intro ?_ ?_)
def sigBook:List (Nat × Spec):=[(56,validS),(57,busyS),(58,insertedS)]
theorem sigBookOk:SigOk Tryz.prog (look sigBook):=sigCons (sigCons (sigCons sigNil Tryz.func58 (by kernel_rfl) (c:=body Tryz.f58) rfl insertedOk)
 Tryz.func57 (by kernel_rfl) (c:=body Tryz.f57) rfl busyOk)
 Tryz.func56 (by kernel_rfl) (c:=body Tryz.f56) rfl validOk
def freeF (xss:List (List Bk.El)) (b:Bk.El):Bool:=validB b.1 b.2.1 b.2.2.1 b.2.2.2&&!busyF xss b.1 b.2.1 b.2.2.1
def bookF (xss:List (List Bk.El)) (b:Bk.El):List (List Bk.El):=if freeF xss b=true then xss.set b.1.toNat (addF (toolL xss b.1) b) else xss
def errF (xss:List (List Bk.El)) (b:Bk.El):Int:=if freeF xss b=true then 0 else 70
def CalS (xss:List (List Bk.El)):Prop:=∀ xs∈xss,SortedB xs
def bookS:Spec:=⟨true,fun args rows=>match args,rows with
 | [.nilptr,.agg [.int .i64 tl,.int .i64 s,.int .i64 e,.int .i64 o]],[]=>some ⟨True,.int .i64 1,[],true⟩
 | [.ptr 0 0,.agg [.int .i64 tl,.int .i64 s,.int .i64 e,.int .i64 o]],[.arr (.pair (.int .i64) (.pair (.int .i64) (.pair (.int .i64) (.int .i64)))) xss none] =>
   some ⟨Cal xss∧CalS xss,.int .i64 (errF xss (tl,s,e,o)),[.arr Bk (bookF xss (tl,s,e,o)) none],true⟩
 | _,_=>none⟩
theorem bookOk:SpecSound Tryz.prog 30 bookS:=by
 refine soundR (envOf sigBookOk) Tryz.func30 (c:=body Tryz.f30) rfl (by kernel_rfl) rfl ?_
 intro args rows out hf hpre
 split at hf <;> try (cases hf;done)
 ·rename_i tl s e o
  cases hf
  refine ⟨Nat.le_of_ble_eq_true rfl,initI rfl ?_⟩
  repeat' (first|refine zN ?_|refine zE ?_|refine zP ?_|refine pD ?_|refine zS ?_|refine zR ?_|refine zO ?_|refine zB ?_|refine zX ?_|refine zT ?_|refine skipI rfl ?_)
  refine condT rfl ?_
  repeat' (first|refine zN ?_|refine zE ?_|refine zP ?_|refine pD ?_|refine zS ?_|refine zR ?_|refine zO ?_|refine zB ?_|refine zX ?_|refine zT ?_|refine skipI rfl ?_)
  refine endR rfl ?_
  repeat' (first|exact trivial|exact rfl|refine ⟨rfl,?_⟩|refine And.intro ?_ ?_)
 ·rename_i tl s e o xss
  cases hf
  obtain ⟨hcal,hso⟩:=hpre
  refine ⟨Nat.le_of_ble_eq_true rfl,initI (args:=[.ptr 0 0,.agg [.int .i64 tl,.int .i64 s,.int .i64 e,.int .i64 o]]) (rows:=[.arr Bk xss none]) rfl ?_⟩
  repeat' (first|refine zN ?_|refine zE ?_|refine zP ?_|refine pD ?_|refine zS ?_|refine zR ?_|refine zO ?_|refine zB ?_|refine zX ?_|refine zT ?_|refine skipI rfl ?_)
  refine condF rfl ?_
  repeat' (first|refine zN ?_|refine zE ?_|refine zP ?_|refine pD ?_|refine pC (by first|exact hcal|exact fun _=>hcal) ?_|refine zS ?_|refine zR ?_|refine zO ?_|refine zB ?_|refine zX ?_|refine zT ?_|refine skipI rfl ?_)
  refine condI rfl (fun c1=>?_) (fun c1=>?_)
  ·repeat' (first|refine zN ?_|refine zE ?_|refine zP ?_|refine pD ?_|refine zS ?_|refine zR ?_|refine zO ?_|refine zB ?_|refine zX ?_|refine zT ?_|refine skipI rfl ?_)
   refine endR rfl ?_
   repeat' (first|exact trivial|exact rfl|refine ⟨rfl,?_⟩|refine And.intro ?_ ?_)
   all_goals
    have hno:freeF xss (tl,s,e,o)=false:=by
     unfold freeF
     show (validB tl s e o&&!busyF xss tl s e)=false
     revert c1
     cases validB tl s e o <;> cases busyF xss tl s e <;> simp
   ·unfold errF
    rw [hno];rfl
   ·unfold bookF
    rw [hno];rfl
  ·have hl:=hcal.len
   obtain ⟨hv,hb⟩:validB tl s e o=true∧busyF xss tl s e=false:=by
    revert c1
    cases validB tl s e o <;> cases busyF xss tl s e <;> simp
   have htl:toolB tl=true:=by
    revert hv
    unfold validB
    cases toolB tl <;> simp
   obtain ⟨h1,h2⟩:=toolB_true htl
   have h3:tl.toNat < 60:=by omega
   have h4:=hcal.get h3
   have h5:0+0+tl.toNat * 1=tl.toNat:=by omega
   repeat' (first|refine zN ?_|refine zE ?_|refine zP ?_|refine pD ?_|refine pC (by first|(rw [h5,hl];omega)|(rw [h5];exact ⟨hso _ h4.1,Nat.le_trans h4.2 (by omega)⟩)|exact rfl) ?_|refine zS ?_|refine zR ?_|refine zO ?_|refine zB ?_|refine zX ?_|refine zT ?_|refine skipI rfl ?_)
   have hyes:freeF xss (tl,s,e,o)=true:=by
    unfold freeF
    show (validB tl s e o&&!busyF xss tl s e)=true
    rw [hv,hb];rfl
   refine endR rfl ?_
   repeat' (first|exact trivial|exact rfl|refine ⟨rfl,?_⟩|refine And.intro ?_ ?_)
   ·unfold errF
    rw [hyes];rfl
   ·unfold bookF
    rw [hyes,if_pos rfl,h5];rfl
end Go.AM.YtmohhhbgcehnpaaGreat
end

section
set_option linter.all false
namespace Go.AM.YtmohhhbgcehnpaaGreat
open Go.Proofs
set_option maxRecDepth 100000
set_option maxHeartbeats 4000000
def pickF (c n:Int):Int:=(if c < 0 then -(c+1) else c) % n
def pickP:Spec:=plain fun
 | [.int .i64 c,.int .i64 n]=>outV (0 < n) (.int .i64 (pickF c n))
 | _=>none
theorem pick_b {c n:Int} (h:0 < n):0≤pickF c n∧pickF c n < n:=⟨Int.emod_nonneg _ (by omega),Int.emod_lt_of_pos _ h⟩
theorem pickF_neg {c n:Int} (h:0 < n) (c1:c < 0):pickF c n=(0 - (c+1)).tmod n:=by
 unfold pickF;rw [if_pos c1,Int.tmod_eq_emod_of_nonneg (by omega)];congr 1;omega
theorem pickF_pos {c n:Int} (h:0 < n) (c1:¬ c < 0):pickF c n=c.tmod n:=by
 unfold pickF;rw [if_neg c1,Int.tmod_eq_emod_of_nonneg (by omega)]
theorem pickROk:SpecSound Tryz.prog 55 pickP:=by
 refine soundP (envOf sigNil) Tryz.func55 (c:=body Tryz.f55) rfl (by kernel_rfl) rfl ?_
 intro args out hf hpre
 split at hf <;> try (cases hf;done)
 rename_i c n
 cases hf
 refine ⟨Nat.le_of_ble_eq_true rfl,initI rfl ?_⟩
 refine factInt (t:=0) rfl (fun hc=>?_)
 have hc:=wrap64 hc
 change 0 < n at hpre
 repeat' (first|refine zN ?_|refine zE ?_|refine zP ?_|refine pD ?_|refine zS ?_|refine zR ?_|refine zO ?_|refine zB ?_|refine zX ?_|refine zT ?_|refine skipI rfl ?_)
 refine condI rfl (fun c1=>?_) (fun c1=>?_)
 ·simp only [decide_eq_true_eq] at c1
  repeat' (first|refine zN ?_|refine zE ?_|refine zP ?_|refine pD ?_|refine zS ?_|refine zR ?_|refine zO ?_|refine zB ?_|refine zX ?_|refine zT ?_|refine skipI rfl ?_)
  refine endR rfl ?_
  repeat' (first|exact trivial|exact rfl|refine ⟨rfl,?_⟩|refine And.intro ?_ ?_)
  exact pickF_neg hpre c1
 ·simp only [decide_eq_false_iff_not] at c1
  repeat' (first|refine zN ?_|refine zE ?_|refine zP ?_|refine pD ?_|refine zS ?_|refine zR ?_|refine zO ?_|refine zB ?_|refine zX ?_|refine zT ?_|refine skipI rfl ?_)
  refine endR rfl ?_
  repeat' (first|exact trivial|exact rfl|refine ⟨rfl,?_⟩|refine And.intro ?_ ?_)
  exact pickF_pos hpre c1
def sigPick:List (Nat × Spec):=[(55,pickP)]
theorem sigPickOk:SigOk Tryz.prog (look sigPick):=sigCons sigNil Tryz.func55 (by kernel_rfl) (c:=body Tryz.f55) rfl pickROk
def mkB (e:t4.El):Bk.El:=(pickF e.1 6,pickF e.2.1 300,pickF e.2.1 300+1+pickF e.2.2.1 40,1+pickF e.2.2.2 6)
def someF (x:List t4.El):List Bk.El:=(x.take 40).map mkB
theorem someF_len (x:List t4.El):(someF x).length≤40:=by unfold someF;simp;omega
def someS:Spec:=plain fun
 | [.sl (.pair (.int .i64) (.pair (.int .i64) (.pair (.int .i64) (.int .i64)))) x]=>some ⟨True,.own 0,[.seq Bk (someF x)],false⟩
 | _=>none
theorem someOk:SpecSound Tryz.prog 29 someS:=by
 refine soundP (envOf sigPickOk) Tryz.func29 (c:=body Tryz.f29) rfl (by kernel_rfl) rfl ?_
 intro args out hf hpre
 split at hf <;> try (cases hf;done)
 rename_i x
 cases hf
 refine ⟨Nat.le_of_ble_eq_true rfl,initI (args:=[.sl t4 x]) rfl ?_⟩
 refine factSl (t:=0) (ty:=t4) rfl (fun hxs=>?_)
 have hmx:x.length≤9223372036854775807:=by have:=hxs.1;unfold maxLen at this;omega
 repeat' (first|refine zN ?_|refine zE ?_|refine zP ?_|refine pD ?_|refine zS ?_|refine zR ?_|refine zO ?_|refine zB ?_|refine zX ?_|refine zT ?_|refine skipI rfl ?_)
 refine loopI (σ:=Nat) (fun i=>[(3,.own 3000),(4,.int .i64 i)]) (fun i=>[(3000,.seq Bk ((x.take i).map mkB))]) (fun i=>i≤x.length∧i≤40) (fun i=>40 - i) 0 rfl (fun _=>rfl) rfl ?_ ?_ ?_
 ·exact ⟨Nat.zero_le _,Nat.zero_le _⟩
 ·repeat' (first|exact trivial|exact rfl|refine ⟨rfl,?_⟩|refine And.intro ?_ ?_)
 ·intro i ⟨hi,hi40⟩
  repeat' (first|refine zN ?_|refine zE ?_|refine zP ?_|refine pD ?_|refine zS ?_|refine zR ?_|refine zO ?_|refine zB ?_|refine zX ?_|refine zT ?_|refine skipI rfl ?_)
  refine condI rfl (fun c1=>?_) (fun c1=>?_)
  ·simp only [Bool.and_eq_true,decide_eq_true_eq] at c1
   have hix:i < x.length:=by omega
   have hin:((i:Int)).toNat=i:=by omega
   have b1:=fun c:Int=>pick_b (c:=c) (n:=300) (by omega)
   have b2:=fun c:Int=>pick_b (c:=c) (n:=40) (by omega)
   have b3:=fun c:Int=>pick_b (c:=c) (n:=6) (by omega)
   have e1:=b1 (getI x t4.dflt ((i:Int)).toNat).2.1
   have e2:=b2 (getI x t4.dflt ((i:Int)).toNat).2.2.1
   have e3:=b3 (getI x t4.dflt ((i:Int)).toNat).2.2.2
   repeat' (first|refine zN ?_|refine zE ?_|refine zP ?_|refine pD ?_|refine pC (by (simp only [List.length_append,List.length_map,List.length_take,List.length_cons,List.length_nil];omega)) ?_|refine zS ?_|refine zR ?_|refine zO ?_|refine zB ?_|refine zX ?_|refine zT ?_|refine skipI rfl ?_)
   refine roundI (i+1) rfl ?_ ?_ ?_
   ·exact ⟨by omega,by omega⟩
   ·show 40 - (i+1) < 40 - i
    omega
   ·repeat' (first|exact trivial|exact rfl|refine ⟨rfl,?_⟩|refine And.intro ?_ ?_)
    rw [take_succ_getI (d:=t4.dflt) hix,List.map_append,hin]
    rfl
  ·simp only [Bool.and_eq_false_iff,decide_eq_false_iff_not] at c1
   repeat' (first|refine zN ?_|refine zE ?_|refine zP ?_|refine pD ?_|refine zS ?_|refine zR ?_|refine zO ?_|refine zB ?_|refine zX ?_|refine zT ?_|refine skipI rfl ?_)
   refine endR rfl ?_
   repeat' (first|exact trivial|exact rfl|refine ⟨rfl,?_⟩|refine And.intro ?_ ?_)
   unfold someF
   rcases c1 with c1|c1
   ·rw [List.take_of_length_le (i:=i) (by omega),List.take_of_length_le (i:=40) (by omega)]
   ·rw [show i=40 by omega]
def sameB:List Bk.El→List Bk.El→Bool
 | [],[]=>true
 | a::l,b::m=>(decide (a.1=b.1)&&(decide (a.2.1=b.2.1)&&(decide (a.2.2.1=b.2.2.1)&&decide (a.2.2.2=b.2.2.2))))&&sameB l m
 | _,_=>false
theorem bk_ext {a b:Bk.El} (h:(decide (a.1=b.1)&&(decide (a.2.1=b.2.1)&&(decide (a.2.2.1=b.2.2.1)&&decide (a.2.2.2=b.2.2.2))))=true):a=b:=by
 simp only [Bool.and_eq_true,decide_eq_true_eq] at h
 obtain ⟨h1,h2,h3,h4⟩:=h
 exact Prod.ext h1 (Prod.ext h2 (Prod.ext h3 h4))
theorem sameB_iff:∀ {a b:List Bk.El},sameB a b=true↔a=b
 | [],[]=>by simp [sameB]
 | [],_::_=>by simp [sameB]
 | _::_,[]=>by simp [sameB]
 | a::l,b::m=>by
   rw [sameB,Bool.and_eq_true,sameB_iff]
   constructor
   ·rintro ⟨h1,rfl⟩
    rw [bk_ext h1]
   ·intro h
    injection h with h1 h2
    subst h1 h2
    simp
theorem sameB_false {a b:List Bk.El} (h:a≠b):sameB a b=false:=by
 cases hs:sameB a b
 ·rfl
 ·exact absurd (sameB_iff.1 hs) h
def sameS:Spec:=plain fun
 | [.sl (.pair (.int .i64) (.pair (.int .i64) (.pair (.int .i64) (.int .i64)))) a,.sl (.pair (.int .i64) (.pair (.int .i64) (.pair (.int .i64) (.int .i64)))) b]=>outV True (.bool (sameB a b))
 | _=>none
theorem take_eq_succ {a b:List Bk.El} {i:Nat} (ha:i < a.length) (hb:i < b.length) (h:a.take i=b.take i) (he:getI a Bk.dflt i=getI b Bk.dflt i):a.take (i+1)=b.take (i+1):=by
 rw [take_succ_getI (d:=Bk.dflt) ha,take_succ_getI (d:=Bk.dflt) hb,h,he]
theorem sameOk:SpecSound Tryz.prog 39 sameS:=by
 refine soundP (envOf sigNil) Tryz.func39 (c:=body Tryz.f39) rfl (by kernel_rfl) rfl ?_
 intro args out hf hpre
 split at hf <;> try (cases hf;done)
 rename_i a b
 cases hf
 refine ⟨Nat.le_of_ble_eq_true rfl,initI (args:=[.sl Bk a,.sl Bk b]) rfl ?_⟩
 refine factSl (t:=0) (ty:=Bk) rfl (fun hxs=>?_)
 have hmx:a.length≤9223372036854775807:=by have:=hxs.1;unfold maxLen at this;omega
 repeat' (first|refine zN ?_|refine zE ?_|refine zP ?_|refine pD ?_|refine zS ?_|refine zR ?_|refine zO ?_|refine zB ?_|refine zX ?_|refine zT ?_|refine skipI rfl ?_)
 refine condI rfl (fun c1=>?_) (fun c1=>?_)
 ·simp only [decide_eq_true_eq] at c1
  repeat' (first|refine zN ?_|refine zE ?_|refine zP ?_|refine pD ?_|refine zS ?_|refine zR ?_|refine zO ?_|refine zB ?_|refine zX ?_|refine zT ?_|refine skipI rfl ?_)
  refine endR rfl ?_
  repeat' (first|exact trivial|exact rfl|refine ⟨rfl,?_⟩|refine And.intro ?_ ?_)
  exact sameB_false fun h=>c1 (by rw [h])
 ·simp only [decide_eq_false_iff_not] at c1
  have hlen:a.length=b.length:=by omega
  repeat' (first|refine zN ?_|refine zE ?_|refine zP ?_|refine pD ?_|refine zS ?_|refine zR ?_|refine zO ?_|refine zB ?_|refine zX ?_|refine zT ?_|refine skipI rfl ?_)
  refine loopI (σ:=Nat) (fun i=>[(5,.int .i64 i)]) (fun i=>[]) (fun i=>i≤a.length∧a.take i=b.take i) (fun i=>a.length - i) 0 rfl (fun _=>rfl) rfl ?_ ?_ ?_
  ·exact ⟨Nat.zero_le _,by simp⟩
  ·repeat' (first|exact trivial|exact rfl|refine ⟨rfl,?_⟩|refine And.intro ?_ ?_)
  ·intro i ⟨hi,ht⟩
   repeat' (first|refine zN ?_|refine zE ?_|refine zP ?_|refine pD ?_|refine zS ?_|refine zR ?_|refine zO ?_|refine zB ?_|refine zX ?_|refine zT ?_|refine skipI rfl ?_)
   refine condI rfl (fun c2=>?_) (fun c2=>?_)
   ·simp only [decide_eq_true_eq] at c2
    have hin:((i:Int)).toNat=i:=by omega
    repeat' (first|refine zN ?_|refine zE ?_|refine zP ?_|refine pD ?_|refine zS ?_|refine zR ?_|refine zO ?_|refine zB ?_|refine zX ?_|refine zT ?_|refine skipI rfl ?_)
    refine condI rfl (fun c3=>?_) (fun c3=>?_)
    ·repeat' (first|refine zN ?_|refine zE ?_|refine zP ?_|refine pD ?_|refine zS ?_|refine zR ?_|refine zO ?_|refine zB ?_|refine zX ?_|refine zT ?_|refine skipI rfl ?_)
     refine endR rfl ?_
     repeat' (first|exact trivial|exact rfl|refine ⟨rfl,?_⟩|refine And.intro ?_ ?_)
     refine sameB_false fun h=>?_
     subst h
     simp at c3
    ·repeat' (first|refine zN ?_|refine zE ?_|refine zP ?_|refine pD ?_|refine zS ?_|refine zR ?_|refine zO ?_|refine zB ?_|refine zX ?_|refine zT ?_|refine skipI rfl ?_)
     refine roundI (i+1) rfl ?_ ?_ ?_
     ·refine ⟨by omega,take_eq_succ (by omega) (by omega) ht ?_⟩
      rw [hin] at c3
      exact bk_ext (by simpa using c3)
     ·show a.length - (i+1) < a.length - i
      omega
     ·repeat' (first|exact trivial|exact rfl|refine ⟨rfl,?_⟩|refine And.intro ?_ ?_)
   ·simp only [decide_eq_false_iff_not] at c2
    repeat' (first|refine zN ?_|refine zE ?_|refine zP ?_|refine pD ?_|refine zS ?_|refine zR ?_|refine zO ?_|refine zB ?_|refine zX ?_|refine zT ?_|refine skipI rfl ?_)
    refine endR rfl ?_
    repeat' (first|exact trivial|exact rfl|refine ⟨rfl,?_⟩|refine And.intro ?_ ?_)
    refine sameB_iff.2 ?_
    rw [List.take_of_length_le (by omega),List.take_of_length_le (by omega)] at ht
    exact ht
end Go.AM.YtmohhhbgcehnpaaGreat
end
