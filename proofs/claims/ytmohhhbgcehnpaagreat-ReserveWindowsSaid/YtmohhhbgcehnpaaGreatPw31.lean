/- ReO, ReP, ReQ, ReT. -/
import Derived.Test.YtmohhhbgcehnpaaGreatPw17
import Derived.Test.YtmohhhbgcehnpaaGreatPw22
import Derived.Test.YtmohhhbgcehnpaaGreatPw30

section
set_option linter.all false
namespace Go.AM.YtmohhhbgcehnpaaGreat.Re
open Go.Proofs
set_option maxRecDepth 100000
set_option maxHeartbeats 4000000
theorem pickLOk:SpecSound Tryz.prog 17 pickP:=by
 refine soundP (envOf sigNil) Tryz.func17 (c:=body Tryz.f17) rfl (by kernel_rfl) rfl ?_
 intro args out hf hpre
 split at hf <;> try (cases hf;done)
 rename_i c n
 cases hf
 refine ⟨Nat.le_of_ble_eq_true rfl,initI rfl ?_⟩
 refine factInt (t:=0) rfl (fun hc=>?_)
 have hc:=wrap64 hc
 change 0 < n at hpre
 repeat' (first|refine zN ?_|refine zE ?_|refine zP ?_|refine pD ?_|refine zS ?_|refine zR ?_|refine zO ?_|refine zB ?_|refine zX ?_|refine zT ?_|refine skipI rfl ?_)
 refine condI rfl (fun c1=>?_) (fun c1=>?_)
 ·simp only [decide_eq_true_eq] at c1
  repeat' (first|refine zN ?_|refine zE ?_|refine zP ?_|refine pD ?_|refine zS ?_|refine zR ?_|refine zO ?_|refine zB ?_|refine zX ?_|refine zT ?_|refine skipI rfl ?_)
  refine endR rfl ?_
  repeat' (first|exact trivial|exact rfl|refine ⟨rfl,?_⟩|refine And.intro ?_ ?_)
  exact pickF_neg hpre c1
 ·simp only [decide_eq_false_iff_not] at c1
  repeat' (first|refine zN ?_|refine zE ?_|refine zP ?_|refine pD ?_|refine zS ?_|refine zR ?_|refine zO ?_|refine zB ?_|refine zX ?_|refine zT ?_|refine skipI rfl ?_)
  refine endR rfl ?_
  repeat' (first|exact trivial|exact rfl|refine ⟨rfl,?_⟩|refine And.intro ?_ ?_)
  exact pickF_pos hpre c1
def calOf (x:List t4.El):CalT:=bookAll ((someF x).take 15) noCal
def refs (l:List Bk.El):List Bk.El:=l.foldl bookR []
def refOf (x:List t4.El):List Bk.El:=refs ((someF x).take 15)
theorem refs_take {l:List Bk.El} {i:Nat} (h:i < l.length):refs (l.take (i+1))=bookR (refs (l.take i)) (getI l Bk.dflt i):=by
 unfold refs
 rw [take_succ_getI (d:=Bk.dflt) h,List.foldl_append]
 rfl
theorem refs_len {l:List Bk.El}:(refs l).length≤l.length:=by
 have:∀ (l acc:List Bk.El),(l.foldl bookR acc).length≤acc.length+l.length:=fun l=>by
  induction l with
  | nil=>intro acc;simp
  | cons b r ih =>
    intro acc
    refine Nat.le_trans (ih _) ?_
    have:(bookR acc b).length≤acc.length+1:=by
     unfold bookR
     split
     ·rw [List.length_append,List.length_append,List.length_take,List.length_drop]
      show _+(1+_)≤_
      omega
     ·omega
    simp only [List.length_cons]
    omega
 have h:=this l []
 simp only [List.length_nil,Nat.zero_add] at h
 exact h
def bookedS:Spec:=⟨true,fun args rows=>match args,rows with
 | [.sl (.pair (.int .i64) (.pair (.int .i64) (.pair (.int .i64) (.int .i64)))) x],[]=>some ⟨True,.tup [.ptr 0 0,.ptr 1 0],[.arr Bk (calOf x) none,.box [.own 2],.seq Bk (refOf x)],true⟩
 | _,_=>none⟩
def sigBd:List (Nat × Spec):=[(23,newS),(30,bookS),(28,refNewS),(29,someS),(31,refBookS)]
theorem sigBdOk:SigOk Tryz.prog (look sigBd):=sigCons (sigCons (sigCons (sigCons (sigCons sigNil
 Tryz.func31 (by kernel_rfl) (c:=body Tryz.f31) rfl refBookOk)
 Tryz.func29 (by kernel_rfl) (c:=body Tryz.f29) rfl someOk)
 Tryz.func28 (by kernel_rfl) (c:=body Tryz.f28) rfl refNewOk)
 Tryz.func30 (by kernel_rfl) (c:=body Tryz.f30) rfl bookOk)
 Tryz.func23 (by kernel_rfl) (c:=body Tryz.f23) rfl newOk
theorem calOf_good (x:List t4.El):CalG (calOf x)∧lenF (calOf x)≤15:=by
 obtain ⟨h1,h2⟩:=bookAll_good (l:=(someF x).take 15) noCal_good
 rw [lenF_no,List.length_take] at h2
 exact ⟨h1,by show lenF (bookAll _ _)≤_;omega⟩
theorem bookedOk:SpecSound Tryz.prog 6 bookedS:=by
 refine soundR (envOf sigBdOk) Tryz.func6 (c:=body Tryz.f6) rfl (by kernel_rfl) rfl ?_
 intro args rows out hf hpre
 split at hf <;> try (cases hf;done)
 rename_i x
 cases hf
 refine ⟨Nat.le_of_ble_eq_true rfl,initI (args:=[.sl t4 x]) (rows:=[]) rfl ?_⟩
 repeat' (first|refine zN ?_|refine zE ?_|refine zP ?_|refine pD ?_|refine zS ?_|refine zR ?_|refine zO ?_|refine zB ?_|refine zX ?_|refine zT ?_|refine skipI rfl ?_)
 obtain ⟨l,hl⟩:∃ l,l=someF x:=⟨_,rfl⟩
 have hlen:l.length≤40:=by rw [hl];exact someF_len x
 rw [← hl]
 refine loopI (σ:=Nat) (fun i=>[(4,.ptr 3000 0),(5,.ptr 3001 0),(7,.int .i64 i)]) (fun i=>[(3000,.arr Bk (bookAll (l.take i) noCal) none),(3001,.box [.own 3002]),(3002,.seq Bk (refs (l.take i)))]) (fun i=>i≤l.length∧i≤15) (fun i=>l.length - i) 0 rfl (fun _=>rfl) rfl ?_ ?_ ?_
 ·exact ⟨Nat.zero_le _,Nat.zero_le _⟩
 ·repeat' (first|exact trivial|with_reducible exact rfl|refine And.intro ?_ ?_)
  all_goals rfl
 rintro i ⟨hi,hi15⟩
 obtain ⟨h1,h2,h3⟩:=bookAll_ok (l.take i) (by rw [List.length_take];omega)
 have h4:=(bookAll_good (l:=l.take i) noCal_good).2
 rw [lenF_no,List.length_take] at h4
 repeat' (first|refine zN ?_|refine zE ?_|refine zP ?_|refine pD ?_|refine zS ?_|refine zR ?_|refine zO ?_|refine zB ?_|refine zX ?_|refine zT ?_|refine skipI rfl ?_)
 refine condI rfl (fun c1=>?_) (fun c1=>?_)
 ·simp only [Bool.and_eq_true,decide_eq_true_eq] at c1
  have hil:i < l.length:=by omega
  have hin:((i:Int)).toNat=i:=by omega
  repeat' (first|refine zN ?_|refine zE ?_|refine zP ?_|refine pD ?_|refine pC (by first|exact ⟨h2,h3⟩|(show List.length (α:=Bk.El) _≤100000;have:=refs_len (l:=l.take i);rw [List.length_take] at this;omega)) ?_|refine zS ?_|refine zR ?_|refine zO ?_|refine zB ?_|refine zX ?_|refine zT ?_|refine skipI rfl ?_)
  refine roundI (i+1) rfl ?_ ?_ ?_
  ·exact ⟨by omega,by omega⟩
  ·show l.length - (i+1) < l.length - i
   omega
  ·repeat' (first|exact trivial|with_reducible exact rfl|refine And.intro ?_ ?_)
   all_goals (first|rfl|(rw [bookAll_take hil];simp only [hin];done)|(rw [refs_take hil];simp only [hin];done))
 ·have e:bookAll (l.take i) noCal=calOf x:=by
   unfold calOf
   rw [← hl]
   simp only [Bool.and_eq_false_iff,decide_eq_false_iff_not] at c1
   by_cases hc:i=l.length
   ·rw [List.take_of_length_le (by omega),List.take_of_length_le (by omega)]
   ·rw [show i=15 by omega]
  have e2:refs (l.take i)=refOf x:=by
   unfold refOf
   rw [← hl]
   simp only [Bool.and_eq_false_iff,decide_eq_false_iff_not] at c1
   by_cases hc:i=l.length
   ·rw [List.take_of_length_le (by omega),List.take_of_length_le (by omega)]
   ·rw [show i=15 by omega]
  rw [e,e2]
  repeat' (first|refine zN ?_|refine zE ?_|refine zP ?_|refine pD ?_|refine zS ?_|refine zR ?_|refine zO ?_|refine zB ?_|refine zX ?_|refine zT ?_|refine skipI rfl ?_)
  refine endR rfl ?_
  repeat' (first|exact trivial|exact rfl|refine ⟨rfl,?_⟩|refine And.intro ?_ ?_)
def simpleS:Spec:=⟨true,fun args rows=>match args,rows with
 | [],[]=>some ⟨True,.agg [.int .i64 0,.int .i64 5,.int .i64 10,.sl tNeed [([1,2],20,30)],.sl tWin []],[],true⟩
 | _,_=>none⟩
theorem simpleOk:SpecSound Tryz.prog 24 simpleS:=by
 refine soundR (envOf sigNil) Tryz.func24 (c:=body Tryz.f24) rfl (by kernel_rfl) rfl ?_
 intro args rows out hf hpre
 split at hf <;> try (cases hf;done)
 cases hf
 refine ⟨Nat.le_of_ble_eq_true rfl,initI (args:=[]) (rows:=[]) rfl ?_⟩
 repeat' (first|refine zN ?_|refine zE ?_|refine zP ?_|refine zS ?_|refine zO ?_|refine zB ?_|refine zX ?_|refine zT ?_|refine skipI rfl ?_)
 refine zR ?_
 repeat' (first|with_reducible refine pN ?_|refine pD ?_|fail)
 repeat with_reducible refine cN ?_
 refine zS ?_
 refine regF 2 1 rfl ?_
 repeat' (first|with_reducible refine pN ?_|refine pC (by first|trivial|omega|decide) ?_)
 refine cN ?_
 refine freezeI 3 rfl ?_
 repeat' (first|refine zN ?_|refine zE ?_|refine zP ?_|refine pD ?_|refine zS ?_|refine zR ?_|refine zO ?_|refine zB ?_|refine zX ?_|refine zT ?_|refine skipI rfl ?_)
 refine endR rfl ?_
 repeat' (first|exact trivial|exact rfl|refine ⟨rfl,?_⟩|refine And.intro ?_ ?_)
end Go.AM.YtmohhhbgcehnpaaGreat.Re
end

section
set_option linter.all false
namespace Go.AM.YtmohhhbgcehnpaaGreat.Re
open Go.Proofs
set_option maxRecDepth 100000
set_option maxHeartbeats 4000000
abbrev WinT:=Int × Int × Int
end Go.AM.YtmohhhbgcehnpaaGreat.Re
end

section
set_option linter.all false
namespace Go.AM.YtmohhhbgcehnpaaGreat.Re
open Go.Proofs
set_option maxRecDepth 100000
set_option maxHeartbeats 4000000
def nd0:List tNeed.El:=[([1,2],20,30)]
def st1:List tStage.El:=[(20,30,(1,10),(2,49))]
def st2:List tStage.El:=[(20,30,(2,10),(1,49))]
def cal1:CalT:=bookAll [(1,10,40,7),(2,49,79,7)] noCal
theorem mk1:makeG noCal 0 5 10 nd0 []=some (st1,79):=by kernel_rfl
theorem rb1:canB noCal 0 5 10 st1 [] 7=true:=by kernel_rfl
theorem rb1l:planL 0 5 10 st1 [] 7=[(1,10,40,7),(2,49,79,7)]:=by kernel_rfl
theorem mk2:makeG cal1 0 5 10 nd0 []=some (st2,79):=by kernel_rfl
theorem rb2:canB cal1 0 5 10 st1 [] 7=false:=by kernel_rfl
theorem rp1:repG cal1 0 5 10 st1 [] 0 5 10 nd0 [] 7 0 5 1=none:=by kernel_rfl
theorem va1:rvalidF 0 5 10 nd0 []=true:=by kernel_rfl
theorem ln1:lenF cal1=2:=by kernel_rfl
abbrev shReq:Shp:=.agg [none,none,none,some tNeed,some tWin]
def sigSn:List (Nat × Spec):=[(23,newS),(24,simpleS),(11,makeS),(25,reBookS),(26,repairS),(27,lenS),(9,rvalidS.norm [shReq])]
theorem sigSnOk:SigOk Tryz.prog (look sigSn):=sigCons (sigCons (sigCons (sigCons (sigCons (sigCons (sigCons sigNil
 Tryz.func9 (by kernel_rfl) (c:=body Tryz.f9) rfl (rvalidOk.norm _))
 Tryz.func27 (by kernel_rfl) (c:=body Tryz.f27) rfl lenOk)
 Tryz.func26 (by kernel_rfl) (c:=body Tryz.f26) rfl repairOk)
 Tryz.func25 (by kernel_rfl) (c:=body Tryz.f25) rfl reBookOk)
 Tryz.func11 (by kernel_rfl) (c:=body Tryz.f11) rfl makeOk)
 Tryz.func24 (by kernel_rfl) (c:=body Tryz.f24) rfl simpleOk)
 Tryz.func23 (by kernel_rfl) (c:=body Tryz.f23) rfl newOk
theorem cal1_good:CalG cal1∧lenF cal1≤100:=⟨(bookAll_good noCal_good).1,by rw [ln1];omega⟩
def saneS:Spec:=plain fun
 | []=>outV True (.bool true)
 | _=>none
theorem rbE1:rbErr noCal 0 5 10 st1 [] 7=0:=by unfold rbErr;rw [rb1];rfl
theorem rbC1:rbCal noCal 0 5 10 st1 [] 7=cal1:=by unfold rbCal;rw [rb1,cond_true,rb1l];rfl
theorem rbE2:rbErr cal1 0 5 10 st1 [] 7=100:=by unfold rbErr;rw [rb2];rfl
theorem rbC2:rbCal cal1 0 5 10 st1 [] 7=cal1:=by unfold rbCal;rw [rb2];rfl
theorem saneOk:SpecSound Tryz.prog 5 saneS:=by
 refine soundP (envOf sigSnOk) Tryz.func5 (c:=body Tryz.f5) rfl (by kernel_rfl) rfl ?_
 intro args out hf hpre
 split at hf <;> try (cases hf;done)
 cases hf
 refine ⟨Nat.le_of_ble_eq_true rfl,initI rfl ?_⟩
 have hnc:CalG noCal∧lenF noCal≤100:=⟨noCal_good,by rw [lenF_no];omega⟩
 repeat' (first|refine zN ?_|refine zE ?_|refine zP ?_|refine zS ?_|refine zO ?_|refine zB ?_|refine zX ?_|refine zT ?_|refine skipI rfl ?_)
 refine zR ?_
 repeat' (first|with_reducible refine pN ?_|refine pD ?_|refine pC (by exact ⟨⟨hnc.1,by have:=hnc.2;omega⟩,by decide,by decide⟩) ?_)
 repeat with_reducible refine cN ?_
 repeat' (first|refine zN ?_|refine zE ?_|refine zP ?_|refine zS ?_|refine zO ?_|refine zB ?_|refine zX ?_|refine zT ?_|refine skipI rfl ?_)
 refine zR ?_
 repeat' (first|with_reducible refine pN ?_|refine pD ?_|refine pC (by exact ⟨⟨hnc.1,by have:=hnc.2;omega⟩,by decide,by decide⟩) ?_)
 repeat with_reducible refine cN ?_
 repeat' (first|refine zN ?_|refine zE ?_|refine zP ?_|refine zS ?_|refine zO ?_|refine zB ?_|refine zX ?_|refine zT ?_|refine skipI rfl ?_)
 refine zR ?_
 repeat' (first|with_reducible refine pN ?_|refine pD ?_|refine pC (by exact ⟨⟨hnc.1,by have:=hnc.2;omega⟩,by decide,by decide⟩) ?_)
 repeat with_reducible refine cN ?_
 rw [show makeG noCal 0 5 10 [([1,2],20,30)] []=some (st1,79) from mk1]
 refine tidyI [(3,.int .i64 0)] [(2,.box [.int .i64 0,.int .i64 5,.int .i64 10,.sl tStage st1,.sl tWin []])] rfl rfl ?_ ?_
 ·repeat' (first|exact trivial|exact rfl|refine ⟨rfl,?_⟩|refine And.intro ?_ ?_)
 repeat' (first|refine zN ?_|refine zE ?_|refine zP ?_|refine pD ?_|refine zS ?_|refine zR ?_|refine zO ?_|refine zB ?_|refine zX ?_|refine zT ?_|refine skipI rfl ?_)
 refine condF rfl ?_
 repeat' (first|refine zN ?_|refine zE ?_|refine zP ?_|refine zS ?_|refine zO ?_|refine zB ?_|refine zX ?_|refine zT ?_|refine skipI rfl ?_)
 refine zR ?_
 repeat' (first|with_reducible refine pN ?_|refine pD ?_|refine pC (by exact ⟨hnc.1,by have:=hnc.2;omega⟩) ?_)
 repeat with_reducible refine cN ?_
 rw [rbE1,rbC1]
 have hc1:CalG cal1∧lenF cal1≤700000:=⟨cal1_good.1,by have:=cal1_good.2;omega⟩
 repeat' (first|refine zN ?_|refine zE ?_|refine zP ?_|refine zS ?_|refine zO ?_|refine zB ?_|refine zX ?_|refine zT ?_|refine skipI rfl ?_)
 refine zR ?_
 repeat' (first|with_reducible refine pN ?_|refine pD ?_|refine pC (by exact ⟨⟨hc1.1,by have:=hc1.2;omega⟩,by decide,by decide⟩) ?_)
 repeat with_reducible refine cN ?_
 rw [show makeG cal1 0 5 10 [([1,2],20,30)] []=some (st2,79) from mk2]
 refine tidyI [(6,.int .i64 0)] [(5,.box [.int .i64 0,.int .i64 5,.int .i64 10,.sl tStage st2,.sl tWin []])] rfl rfl ?_ ?_
 ·repeat' (first|exact trivial|exact rfl|refine ⟨rfl,?_⟩|refine And.intro ?_ ?_)
 repeat' (first|refine zN ?_|refine zE ?_|refine zP ?_|refine zS ?_|refine zO ?_|refine zB ?_|refine zX ?_|refine zT ?_|refine skipI rfl ?_)
 refine zR ?_
 repeat' (first|with_reducible refine pN ?_|refine pD ?_|refine pC (by exact ⟨hc1.1,by have:=hc1.2;omega⟩) ?_)
 repeat with_reducible refine cN ?_
 rw [rbE2,rbC2]
 repeat' (first|refine zN ?_|refine zE ?_|refine zP ?_|refine zS ?_|refine zO ?_|refine zB ?_|refine zX ?_|refine zT ?_|refine skipI rfl ?_)
 refine zR ?_
 repeat' (first|with_reducible refine pN ?_|refine pD ?_|refine pC (by exact ⟨hc1,by decide,by decide⟩) ?_)
 repeat with_reducible refine cN ?_
 rw [show repG cal1 0 5 10 st1 [] 0 5 10 [([1,2],20,30)] [] 7 0 5 1=none from rp1]
 refine tidyI [(9,.int .i64 100)] [] rfl rfl ?_ ?_
 ·repeat' (first|exact trivial|exact rfl|refine ⟨rfl,?_⟩|refine And.intro ?_ ?_)
 repeat' (first|refine zN ?_|refine zE ?_|refine zP ?_|refine pD ?_|refine zS ?_|refine zR ?_|refine zO ?_|refine zB ?_|refine zX ?_|refine zT ?_|refine skipI rfl ?_)
 refine condF rfl ?_
 repeat' (first|refine zN ?_|refine zE ?_|refine zP ?_|refine zS ?_|refine zO ?_|refine zB ?_|refine zX ?_|refine zT ?_|refine skipI rfl ?_)
 refine zR ?_
 repeat' (first|with_reducible refine pN ?_|refine pD ?_|refine pC (by decide) ?_)
 repeat with_reducible refine cN ?_
 repeat' (first|refine zN ?_|refine zE ?_|refine zP ?_|refine zS ?_|refine zO ?_|refine zB ?_|refine zX ?_|refine zT ?_|refine skipI rfl ?_)
 refine zR ?_
 repeat' (first|with_reducible refine pN ?_|refine pD ?_|refine pC (by decide) ?_)
 repeat with_reducible refine cN ?_
 refine tidyI [(12,.bool true),(13,.bool true)] [] rfl rfl ?_ ?_
 ·repeat' (first|exact trivial|exact rfl|refine ⟨rfl,?_⟩|refine And.intro ?_ ?_)
 refine zS ?_
 refine regH [(90,true),(93,true),(97,true),(101,true),(105,true),(109,true),(114,true),(118,true),(123,true)] rfl ?_
 repeat' (first|with_reducible refine pN ?_|refine pC (by first|trivial|rfl|decide|exact hc1.1.cal (by have:=hc1.2;omega)|(rw [ln1];rfl)|(rw [show rvalidF 0 5 10 [([1,2],20,30)] []=true from va1];rfl)|(simp only [ln1];rfl)) ?_)
 repeat' (first|refine zN ?_|refine zE ?_|refine zP ?_|refine pD ?_|refine zS ?_|refine zR ?_|refine zO ?_|refine zB ?_|refine zX ?_|refine zT ?_|refine skipI rfl ?_)
 refine endR rfl ?_
 repeat' (first|exact trivial|exact rfl|refine ⟨rfl,?_⟩|refine And.intro ?_ ?_)
end Go.AM.YtmohhhbgcehnpaaGreat.Re
end

section
set_option linter.all false
namespace Go.AM.YtmohhhbgcehnpaaGreat.Re
open Go.Proofs
theorem fold_some {c:CalT} {e a b:Int} {ns:List NeedT} {ws:List tWin.El} {kvs:DlT} {y:List StT × Int}:∀ {l:List (List PairT)} {s:BestT},l.foldl (stepG c e a b ns ws kvs) s=some y →
 s=some y∨∃ ch∈l,∃ xs,stG b c e ns ch=some xs∧lateAny kvs xs=false∧safeF e a b xs ws=true∧y=(xs,overG (lastG xs))
 | [],s,h=>.inl h
 | ch::l,s,h=>by
   rw [List.foldl_cons] at h
   rcases fold_some h with h1|⟨ch',h1,h2⟩
   ·unfold stepG at h1
    cases hs:stG b c e ns ch with
    | none=>rw [hs] at h1;exact .inl h1
    | some xs =>
      rw [hs] at h1
      dsimp only at h1
      cases hA:(s.isSome&&decide (overG (lastG xs)≥bLst s)) <;> rw [hA] at h1
      ·rw [cond_false] at h1
       cases hB:lateAny kvs xs <;> rw [hB] at h1
       ·rw [cond_false] at h1
        cases hC:safeF e a b xs ws <;> rw [hC] at h1
        ·exact .inl h1
        ·exact .inr ⟨ch,by simp,xs,hs,hB,hC,(Option.some.inj h1).symm⟩
       ·exact .inl h1
      ·exact .inl h1
   ·exact .inr ⟨ch',by simp [h1],h2⟩
theorem best_some {c:CalT} {e a b:Int} {ns:List NeedT} {ws:List tWin.El} {kvs:DlT} {y:List StT × Int} (h:bestG c e a b ns ws kvs=some y) :
 ∃ ch∈chL ns [],stG b c e ns ch=some y.1∧lateAny kvs y.1=false∧safeF e a b y.1 ws=true∧y.2=overG (lastG y.1):=by
 rcases fold_some (s:=none) h with h1|⟨ch,h1,xs,h2,h3,h4,h5⟩
 ·cases h1
 ·subst h5;exact ⟨ch,h1,h2,h3,h4,rfl⟩
theorem tool_mem {c:CalT} (h:CalG c) {t:Int} (h0:0≤t) (h1:t < 60) {e:Bk.El}:e∈toolL c t↔inC c e∧tlB e=t:=by
 constructor
 ·intro he
  have ht:=((h.tool h0 h1).all e he).2
  have ht:tlB e=t:=by omega
  exact ⟨by unfold inC;rw [ht];exact he,ht⟩
 ·rintro ⟨h2,h3⟩
  unfold inC at h2
  rwa [h3] at h2
theorem tool_book {c:CalT} (h:CalG c) {b:Bk.El} (hf:freeF c b=true) {t:Int} (h0:0≤t) (h1:t < 60) {e:Bk.El}:e∈toolL (bookF c b) t↔(e=b∧tlB b=t)∨e∈toolL c t:=by
 obtain ⟨g1,g2,_⟩:=book_yes h hf
 rw [tool_mem g1 h0 h1,tool_mem h h0 h1]
 constructor
 ·rintro ⟨h2,h3⟩
  rcases (g2 e (by omega)).1 h2 with rfl|h4
  ·exact .inl ⟨rfl,h3⟩
  ·exact .inr ⟨h4,h3⟩
 ·rintro (⟨rfl,h3⟩|⟨h4,h3⟩)
  ·exact ⟨(g2 e (by omega)).2 (.inl rfl),h3⟩
  ·exact ⟨(g2 e (by omega)).2 (.inr h4),h3⟩
theorem free_book {c:CalT} (h:CalG c) {b d:Bk.El} (hf:freeF c b=true):freeF (bookF c b) d=true↔freeF c d=true∧¬ (tlB b=tlB d∧meet b d):=by
 rw [free_iff,free_iff]
 constructor
 ·rintro ⟨h1,h2⟩
  refine ⟨⟨h1,fun e he=>h2 e ((tool_book h hf h1.t0 h1.t1).2 (.inr he))⟩,fun ⟨h3,h4⟩=>h2 b ((tool_book h hf h1.t0 h1.t1).2 (.inl ⟨rfl,h3⟩)) h4⟩
 ·rintro ⟨⟨h1,h2⟩,h3⟩
  refine ⟨h1,fun e he hm=>?_⟩
  rcases (tool_book h hf h1.t0 h1.t1).1 he with ⟨rfl,h4⟩|h4
  ·exact h3 ⟨h4,hm⟩
  ·exact h2 e h4 hm
def apartB (a b:Bk.El):Prop:=¬ (tlB a=tlB b∧meet a b)
theorem allFree_iff:∀ {l:List Bk.El} {c:CalT},CalG c→(allFree c l=true↔(∀ b∈l,freeF c b=true)∧l.Pairwise apartB)
 | [],c,_=>by simp [allFree]
 | b::l,c,h=>by
   simp only [allFree,Bool.and_eq_true,List.mem_cons,forall_eq_or_imp,List.pairwise_cons]
   constructor
   ·rintro ⟨h1,h2⟩
    obtain ⟨h3,h4⟩:=(allFree_iff (book_good h b).1).1 h2
    exact ⟨⟨h1,fun d hd=>((free_book h h1).1 (h3 d hd)).1⟩,fun d hd=>((free_book h h1).1 (h3 d hd)).2,h4⟩
   ·rintro ⟨⟨h1,h2⟩,h3,h4⟩
    exact ⟨h1,(allFree_iff (book_good h b).1).2 ⟨fun d hd=>(free_book h h1).2 ⟨h2 d hd,h3 d hd⟩,h4⟩⟩
def cntC (p:Bk.El→Bool) (c:CalT):Nat:=c.flatten.countP p
theorem cnt_set {p:Bk.El→Bool} {l:List Bk.El}:∀ {c:CalT} {i:Nat},i < c.length→cntC p (c.set i l)+(getI c [] i).countP p=cntC p c+l.countP p
 | [],i,h=>by simp at h
 | x::r,0,_=>by simp [cntC,getI];omega
 | x::r,i+1,h=>by
   have:=cnt_set (p:=p) (l:=l) (c:=r) (i:=i) (by simpa using h)
   simp [cntC,getI] at this ⊢
   omega
theorem cnt_book {p:Bk.El→Bool} {c:CalT} (h:CalG c) {b:Bk.El} (hf:freeF c b=true):cntC p (bookF c b)=cntC p c+(if p b=true then 1 else 0):=by
 unfold bookF
 rw [if_pos hf]
 have hg:=(free_iff.1 hf).1
 have hi:(tlB b).toNat < c.length:=by rw [h.len];have:=hg.t0;have:=hg.t1;omega
 have h1:=cnt_set (p:=p) (l:=addF (toolL c b.1) b) hi
 have h2:(addF (toolL c b.1) b).countP p=(toolL c b.1).countP p+(if p b=true then 1 else 0):=by
  have e:addF (toolL c b.1) b=(toolL c b.1).take (posF (toolL c b.1) (startB b))++[b]++(toolL c b.1).drop (posF (toolL c b.1) (startB b)):=by unfold addF insF;simp
  rw [e,List.countP_append,List.countP_append]
  have h3:(toolL c b.1).countP p=((toolL c b.1).take (posF (toolL c b.1) (startB b))).countP p+((toolL c b.1).drop (posF (toolL c b.1) (startB b))).countP p:=by
   rw [← List.countP_append,List.take_append_drop]
  rw [h3,List.countP_singleton]
  omega
 show cntC p (c.set (tlB b).toNat (addF (toolL c b.1) b))=_
 have h4:(getI c [] (tlB b).toNat)=toolL c b.1:=rfl
 rw [h4] at h1
 omega
theorem all_book:∀ {l:List Bk.El} {c:CalT},CalG c→allFree c l=true →
 (∀ t,0≤t→t < 60→∀ e,e∈toolL (bookAll l c) t↔(e∈l∧tlB e=t)∨e∈toolL c t)∧lenF (bookAll l c)=lenF c+l.length∧∀ p,cntC p (bookAll l c)=cntC p c+l.countP p
 | [],c,_,_=>⟨fun t h0 h1 e=>by simp [bookAll],rfl,fun p=>rfl⟩
 | b::l,c,h,hf=>by
   simp only [allFree,Bool.and_eq_true] at hf
   obtain ⟨h1,h2⟩:=hf
   obtain ⟨k1,k2,k3⟩:=all_book (book_good h b).1 h2
   refine ⟨fun t h0 h3 e=>?_,?_,fun p=>?_⟩
   ·show e∈toolL (bookAll l (bookF c b)) t↔_
    rw [k1 t h0 h3 e,tool_book h h1 h0 h3]
    constructor
    ·rintro (⟨h4,h5⟩|⟨rfl,h5⟩|h4)
     ·exact .inl ⟨List.mem_cons_of_mem _ h4,h5⟩
     ·exact .inl ⟨by simp,h5⟩
     ·exact .inr h4
    ·rintro (⟨h4,h5⟩|h4)
     ·rcases List.mem_cons.1 h4 with rfl|h4
      ·exact .inr (.inl ⟨rfl,h5⟩)
      ·exact .inl ⟨h4,h5⟩
     ·exact .inr (.inr h4)
   ·show lenF (bookAll l (bookF c b))=_
    rw [k2,(book_yes h h1).2.2,List.length_cons]
    omega
   ·show cntC p (bookAll l (bookF c b))=_
    rw [k3 p,cnt_book h h1,List.countP_cons]
    omega
def bks (xs:List StT) (ow:Int):List Bk.El:=xs.flatMap fun x=>[Pl.bk1 x ow,Pl.bk2 x ow]
theorem bkN_take {xs:List StT} {ow:Int}:∀ {i:Nat},i≤xs.length→Pl.bkN xs ow i=bks (xs.take i) ow
 | 0,_=>rfl
 | i+1,h=>by
   rw [show Pl.bkN xs ow (i+1)=Pl.bkN xs ow i++[Pl.bk1 (getI xs tStage.dflt i) ow]++[Pl.bk2 (getI xs tStage.dflt i) ow] from rfl,bkN_take (by omega),take_getI (d:=tStage.dflt) (by omega)]
   unfold bks
   rw [List.flatMap_append]
   simp
theorem planL_eq {e a b:Int} {xs:List tStage.El} {ws:List tWin.El} {ow:Int} (h:Pl.validF e a b xs ws=true) (h1:1≤ow) (h2:ow≤1000000):planL e a b xs ws ow=bks xs ow:=by
 unfold planL Pl.bookF
 rw [if_pos (by rw [h];unfold Pl.withinF;simp [h1,h2]),bkN_take (Nat.le_refl _),List.take_length]
theorem bks_len (xs:List StT) (ow:Int):(bks xs ow).length=2 * xs.length:=by
 unfold bks
 induction xs with
 | nil=>rfl
 | cons x r ih=>rw [List.flatMap_cons,List.length_append,ih,List.length_cons];simp;omega
def owTo (ow:Int) (b:Bk.El):Bk.El:=(b.1,b.2.1,b.2.2.1,ow)
theorem bks_own (xs:List StT) (o ow:Int):bks xs ow=(bks xs o).map (owTo ow):=by
 unfold bks
 induction xs with
 | nil=>rfl
 | cons x r ih=>rw [List.flatMap_cons,List.flatMap_cons,List.map_append,ih];rfl
theorem free_own {c:CalT} {b:Bk.El} {ow:Int} (h:freeF c b=true) (h1:1≤ow) (h2:ow≤1000000):freeF c (owTo ow b)=true:=by
 obtain ⟨k1,k2⟩:=free_iff.1 h
 exact free_iff.2 ⟨⟨k1.t0,k1.t1,k1.s0,k1.se,k1.e1,h1,h2⟩,fun d hd hm=>k2 d hd hm⟩
theorem all_own {c:CalT} (hc:CalG c) {l:List Bk.El} {ow:Int} (h:allFree c l=true) (h1:1≤ow) (h2:ow≤1000000):allFree c (l.map (owTo ow))=true:=by
 obtain ⟨k1,k2⟩:=(allFree_iff hc).1 h
 refine (allFree_iff hc).2 ⟨fun b hb=>?_,?_⟩
 ·obtain ⟨d,hd,rfl⟩:=List.mem_map.1 hb
  exact free_own (k1 d hd) h1 h2
 ·rw [List.pairwise_map]
  exact k2.imp fun h=>h
theorem bookG_eq {c:CalT} {tl fr ln:Int} (h:(firstF c tl fr ln).2=true):bookG c tl fr ln=bookF c (tl,(firstF c tl fr ln).1,(firstF c tl fr ln).1+ln,1):=by
 unfold bookG;rw [h];rfl
theorem stG_all {b:Int}:∀ {ns:List NeedT} {c:CalT} {t:Int} {ch:List PairT} {xs:List StT},CalG c→stG b c t ns ch=some xs→allFree c (bks xs 1)=true
 | [],c,t,ch,xs,_,h=>by
   simp only [stG,Option.some.injEq] at h
   subst h
   rfl
 | _::_,c,t,[],xs,_,h=>by simp [stG] at h
 | x::ns,c,t,p::ch,xs,hc,h=>by
   simp only [stG] at h
   cases h1:(firstF c p.1 (t+b) x.2.2).2 <;> rw [h1] at h
   ·cases h
   ·rw [cond_true] at h
    cases h2:(firstF (bookG c p.1 (t+b) x.2.2) p.2 ((firstF c p.1 (t+b) x.2.2).1+x.2.2 - 1+b) x.2.2).2 <;> rw [h2] at h
    ·cases h
    ·rw [cond_true,Option.map_eq_some_iff] at h
     obtain ⟨l,h3,rfl⟩:=h
     have hg1:=(bookG_good hc p.1 (t+b) x.2.2).1
     have hg2:=(bookG_good hg1 p.2 ((firstF c p.1 (t+b) x.2.2).1+x.2.2 - 1+b) x.2.2).1
     have h5:=stG_all hg2 h3
     have f1:=(first_facts hc h1).2.2
     have f2:=(first_facts hg1 h2).2.2
     obtain ⟨st,hst⟩:∃ st:StT,st=(x.2.1,x.2.2,(p.1,(firstF c p.1 (t+b) x.2.2).1),(p.2,(firstF (bookG c p.1 (t+b) x.2.2) p.2 ((firstF c p.1 (t+b) x.2.2).1+x.2.2 - 1+b) x.2.2).1)):=⟨_,rfl⟩
     have g1:bookF c (Pl.bk1 st 1)=bookG c p.1 (t+b) x.2.2:=by rw [hst];exact (bookG_eq h1).symm
     have g2:bookF (bookG c p.1 (t+b) x.2.2) (Pl.bk2 st 1)=bookG (bookG c p.1 (t+b) x.2.2) p.2 ((firstF c p.1 (t+b) x.2.2).1+x.2.2 - 1+b) x.2.2:=by rw [hst];exact (bookG_eq h2).symm
     rw [← hst]
     show (freeF c (Pl.bk1 st 1)&&(freeF (bookF c (Pl.bk1 st 1)) (Pl.bk2 st 1)&&allFree (bookF (bookF c (Pl.bk1 st 1)) (Pl.bk2 st 1)) (bks l 1)))=true
     rw [g1,g2,h5,show freeF c (Pl.bk1 st 1)=true by rw [hst];exact f1,show freeF (bookG c p.1 (t+b) x.2.2) (Pl.bk2 st 1)=true by rw [hst];exact f2]
     rfl
structure Made (c:CalT) (e a b:Int) (ns:List NeedT) (ws:List tWin.El) (xs:List StT):Prop where
 rv:rvalidF e a b ns ws=true
 safe:safeF e a b xs ws=true
 valid:Pl.validF e a b xs ws=true
 len:xs.length=ns.length
 pos:1≤xs.length
 free:∀ ow,1≤ow→ow≤1000000→allFree c (bks xs ow)=true
theorem made {c:CalT} (hc:CalG c) {e a b:Int} {ns:List NeedT} {ws:List tWin.El} {y:List StT × Int} (h:makeG c e a b ns ws=some y):Made c e a b ns ws y.1:=by
 unfold makeG at h
 cases hr:rvalidF e a b ns ws <;> rw [hr] at h
 ·cases h
 ·rw [cond_true] at h
  obtain ⟨ch,h1,h2,h3,h4,h5⟩:=best_some h
  have h6:=(stG_facts hc h2).1
  have h7:=rvalid_facts hr
  have hv:Pl.validF e a b y.1 ws=true:=by
   unfold safeF at h4
   simp only [Bool.and_eq_true] at h4
   exact h4.1.1
  refine ⟨hr,h4,hv,h6,by rw [h6];exact h7.2.2.1.1,fun ow o1 o2=>?_⟩
  rw [bks_own _ 1 ow]
  exact all_own hc (stG_all hc h2) o1 o2
theorem Made.can {c:CalT} {e a b:Int} {ns:List NeedT} {ws:List tWin.El} {xs:List StT} (m:Made c e a b ns ws xs) {ow:Int} (h1:1≤ow) (h2:ow≤1000000):canB c e a b xs ws ow=true:=by
 unfold canB
 rw [planL_eq m.valid h1 h2,m.free ow h1 h2,Bool.true_and,decide_eq_true_eq,bks_len]
 have:=m.pos
 omega
theorem Made.twice {c:CalT} (hc:CalG c) {e a b:Int} {ns:List NeedT} {ws:List tWin.El} {xs:List StT} (m:Made c e a b ns ws xs) {ow o2:Int} (h1:1≤ow) (h2:ow≤1000000) (h3:1≤o2) (h4:o2≤1000000) :
 canB (bookAll (bks xs ow) c) e a b xs ws o2=false:=by
 cases hcan:canB (bookAll (bks xs ow) c) e a b xs ws o2 with
 | false=>rfl
 | true =>
   exfalso
   unfold canB at hcan
   rw [planL_eq m.valid h3 h4,Bool.and_eq_true] at hcan
   cases xs with
   | nil=>have:=m.pos;simp at this
   | cons x r =>
     have hgc:=(bookAll_good (l:=bks (x::r) ow) hc).1
     have h5:=((allFree_iff hgc).1 hcan.1).1 (Pl.bk1 x o2) (by unfold bks;simp)
     obtain ⟨k1,k2⟩:=free_iff.1 h5
     have h6:=(all_book hc (m.free ow h1 h2)).1 (tlB (Pl.bk1 x o2)) k1.t0 k1.t1 (Pl.bk1 x ow)
     refine k2 _ (h6.2 (.inl ⟨by unfold bks;simp,rfl⟩)) ?_
     have:=k1.se
     exact ⟨this,this⟩
theorem Made.book {c:CalT} (hc:CalG c) {e a b:Int} {ns:List NeedT} {ws:List tWin.El} {xs:List StT} (m:Made c e a b ns ws xs) {ow:Int} (h1:1≤ow) (h2:ow≤1000000) :
 rbErr c e a b xs ws ow=0∧rbCal c e a b xs ws ow=bookAll (bks xs ow) c:=by
 unfold rbErr rbCal
 rw [m.can h1 h2,planL_eq m.valid h1 h2]
 exact ⟨rfl,rfl⟩
theorem Made.again {c:CalT} (hc:CalG c) {e a b:Int} {ns:List NeedT} {ws:List tWin.El} {xs:List StT} (m:Made c e a b ns ws xs) {ow o2:Int} (h1:1≤ow) (h2:ow≤1000000) (h3:1≤o2) (h4:o2≤1000000) :
 rbErr (bookAll (bks xs ow) c) e a b xs ws o2=100∧rbCal (bookAll (bks xs ow) c) e a b xs ws o2=bookAll (bks xs ow) c:=by
 unfold rbErr rbCal
 rw [m.twice hc h1 h2 h3 h4]
 exact ⟨rfl,rfl⟩
end Go.AM.YtmohhhbgcehnpaaGreat.Re
end
