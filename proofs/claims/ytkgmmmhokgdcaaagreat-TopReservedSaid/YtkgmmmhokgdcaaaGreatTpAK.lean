/- The tops' helpers: pick, same, booked, awake. -/
import Derived.Test.YtkgmmmhokgdcaaaGreatPc31
import Derived.Test.YtkgmmmhokgdcaaaGreatPc25
import Derived.Test.YtkgmmmhokgdcaaaGreatPc21
import Derived.Test.YtkgmmmhokgdcaaaGreatPc17
set_option linter.all false
namespace Go.AM.YtkgmmmhokgdcaaaGreat.Tp
open Go.Proofs
open Go.AM.YtkgmmmhokgdcaaaGreat.Fl Go.AM.YtkgmmmhokgdcaaaGreat.Re
set_option maxRecDepth 100000
set_option maxHeartbeats 4000000
theorem pickTOk:SpecSound Tryz.prog 11 pickP:=by
 refine soundP (envOf sigNil) Tryz.func11 (c:=body Tryz.f11) rfl (by kernel_rfl) rfl ?_
 intro args out hf hpre
 split at hf <;> try (cases hf;done)
 rename_i c n
 cases hf
 refine ⟨Nat.le_of_ble_eq_true rfl,initI rfl ?_⟩
 refine factInt (t:=0) rfl (fun hc=>?_)
 have hc:=wrap64 hc
 change 0 < n at hpre
 repeat' (first|refine zN ?_|refine zE ?_|refine zP ?_|refine pD ?_|refine zS ?_|refine zR ?_|refine zO ?_|refine zB ?_|refine zX ?_|refine zT ?_|refine skipI rfl ?_)
 refine condI rfl (fun c1=>?_) (fun c1=>?_)
 ·simp only [decide_eq_true_eq] at c1
  repeat' (first|refine zN ?_|refine zE ?_|refine zP ?_|refine pD ?_|refine zS ?_|refine zR ?_|refine zO ?_|refine zB ?_|refine zX ?_|refine zT ?_|refine skipI rfl ?_)
  refine endR rfl ?_
  repeat' (first|exact trivial|exact rfl|refine ⟨rfl,?_⟩|refine And.intro ?_ ?_)
  exact pickF_neg hpre c1
 ·simp only [decide_eq_false_iff_not] at c1
  repeat' (first|refine zN ?_|refine zE ?_|refine zP ?_|refine pD ?_|refine zS ?_|refine zR ?_|refine zO ?_|refine zB ?_|refine zX ?_|refine zT ?_|refine skipI rfl ?_)
  refine endR rfl ?_
  repeat' (first|exact trivial|exact rfl|refine ⟨rfl,?_⟩|refine And.intro ?_ ?_)
  exact pickF_pos hpre c1
def neAt (a b:List Int) (i:Nat):Bool:=!decide (getI a 0 i=getI b 0 i)
def sameL (a b:List Int):Bool:=decide ((a.length:Int)=(b.length:Int))&&!(List.range a.length).any (neAt a b)
def sameTS:Spec:=plain fun
 | [.sl (.int .i64) a,.sl (.int .i64) b]=>outV True (.bool (sameL a b))
 | _=>none
theorem sameTOk:SpecSound Tryz.prog 31 sameTS:=by
 refine soundP (envOf sigNil) Tryz.func31 (c:=body Tryz.f31) rfl (by kernel_rfl) rfl ?_
 intro args out hf hpre
 split at hf <;> try (cases hf;done)
 rename_i a b
 cases hf
 refine ⟨Nat.le_of_ble_eq_true rfl,initI (args:=[.sl tInt a,.sl tInt b]) rfl ?_⟩
 refine factSl (t:=0) (ty:=tInt) rfl (fun hxs=>?_)
 have hmx:List.length (α:=Int) a≤9223372036854775807:=by have:=hxs.1;unfold maxLen at this;exact this
 obtain ⟨r,hr⟩:∃ r,r=sameL a b:=⟨_,rfl⟩
 rw [← hr]
 unfold sameL at hr
 repeat' (first|refine zN ?_|refine zE ?_|refine zP ?_|refine pD ?_|refine zS ?_|refine zR ?_|refine zO ?_|refine zB ?_|refine zX ?_|refine zT ?_|refine skipI rfl ?_)
 refine condI rfl (fun c1=>?_) (fun c1=>?_)
 ·have c1:decide ((a.length:Int)=(b.length:Int))=false:=decide_eq_false (of_decide_eq_true c1)
  rw [c1] at hr
  repeat' (first|refine zN ?_|refine zE ?_|refine zP ?_|refine pD ?_|refine zS ?_|refine zR ?_|refine zO ?_|refine zB ?_|refine zX ?_|refine zT ?_|refine skipI rfl ?_)
  refine endR rfl ?_
  repeat' (first|exact trivial|exact rfl|refine ⟨rfl,?_⟩|refine And.intro ?_ ?_)
  exact hr
 have c1:decide ((a.length:Int)=(b.length:Int))=true:=decide_eq_true (Decidable.not_not.mp (of_decide_eq_false c1))
 rw [c1] at hr
 have hlen:a.length=b.length:=by have:=of_decide_eq_true c1;omega
 repeat' (first|refine zN ?_|refine zE ?_|refine zP ?_|refine pD ?_|refine zS ?_|refine zR ?_|refine zO ?_|refine zB ?_|refine zX ?_|refine zT ?_|refine skipI rfl ?_)
 refine loopI (σ:=Nat) (fun i=>[(5,.int .i64 i)]) (fun i=>[]) (fun i=>i≤List.length (α:=Int) a∧∀ j,j < i→neAt a b j=false) (fun i=>List.length (α:=Int) a - i) 0 rfl (fun _=>rfl) rfl ?_ ?_ ?_
 ·exact ⟨Nat.zero_le _,fun j hj=>by omega⟩
 ·repeat' (first|exact trivial|exact rfl|refine ⟨rfl,?_⟩|refine And.intro ?_ ?_)
 rintro i ⟨hi,hb⟩
 repeat' (first|refine zN ?_|refine zE ?_|refine zP ?_|refine pD ?_|refine zS ?_|refine zR ?_|refine zO ?_|refine zB ?_|refine zX ?_|refine zT ?_|refine skipI rfl ?_)
 refine condI rfl (fun c2=>?_) (fun c2=>?_)
 ·simp only [decide_eq_true_eq] at c2
  have hil:i < List.length (α:=Int) a:=by omega
  have hil2:i < List.length (α:=Int) b:=by have:List.length (α:=Int) a=List.length (α:=Int) b:=hlen;omega
  have hin:((i:Int)).toNat=i:=by omega
  repeat' (first|refine zN ?_|refine zE ?_|refine zP ?_|refine pD ?_|refine zS ?_|refine zR ?_|refine zO ?_|refine zB ?_|refine zX ?_|refine zT ?_|refine skipI rfl ?_)
  refine condI rfl (fun c3=>?_) (fun c3=>?_)
  ·have c3:decide (getI a 0 ((i:Int)).toNat≠getI b 0 ((i:Int)).toNat)=true:=c3
   rw [hin] at c3
   have h9:neAt a b i=true:=by unfold neAt;rw [decide_eq_false (of_decide_eq_true c3)];rfl
   rw [rng_yes hil h9] at hr
   repeat' (first|refine zN ?_|refine zE ?_|refine zP ?_|refine pD ?_|refine zS ?_|refine zR ?_|refine zO ?_|refine zB ?_|refine zX ?_|refine zT ?_|refine skipI rfl ?_)
   refine endR rfl ?_
   repeat' (first|exact trivial|exact rfl|refine ⟨rfl,?_⟩|refine And.intro ?_ ?_)
   exact hr
  ·have c3:decide (getI a 0 ((i:Int)).toNat≠getI b 0 ((i:Int)).toNat)=false:=c3
   rw [hin] at c3
   have h9:neAt a b i=false:=by unfold neAt;rw [decide_eq_true (Decidable.not_not.mp (of_decide_eq_false c3))];rfl
   repeat' (first|refine zN ?_|refine zE ?_|refine zP ?_|refine pD ?_|refine zS ?_|refine zR ?_|refine zO ?_|refine zB ?_|refine zX ?_|refine zT ?_|refine skipI rfl ?_)
   refine roundI (i+1) rfl ?_ ?_ ?_
   ·refine ⟨by show i+1≤List.length (α:=Int) a;omega,fun j hj=>?_⟩
    by_cases hji:j=i
    ·subst hji;exact h9
    ·exact hb j (by omega)
   ·show List.length (α:=Int) a - (i+1) < List.length (α:=Int) a - i
    omega
   ·repeat' (first|exact trivial|with_reducible exact rfl|refine And.intro ?_ ?_)
    all_goals rfl
 ·simp only [decide_eq_false_iff_not] at c2
  rw [rng_no (fun j hj=>hb j (by show j < i;have:j < List.length (α:=Int) a:=hj;omega))] at hr
  repeat' (first|refine zN ?_|refine zE ?_|refine zP ?_|refine pD ?_|refine zS ?_|refine zR ?_|refine zO ?_|refine zB ?_|refine zX ?_|refine zT ?_|refine skipI rfl ?_)
  refine endR rfl ?_
  repeat' (first|exact trivial|exact rfl|refine ⟨rfl,?_⟩|refine And.intro ?_ ?_)
  exact hr
def own90 (b:Bk.El):Bk.El:=(b.1,b.2.1,b.2.2.1,90)
def bksT (x:List t4.El):List Bk.El:=(someF (x.take 20)).map own90
def calT (x:List t4.El):CalT:=bookAll (bksT x) noCal
theorem calT_good (x:List t4.El):CalG (calT x)∧lenF (calT x)≤40:=by
 obtain ⟨h1,h2⟩:=bookAll_good (l:=bksT x) noCal_good
 rw [lenF_no] at h2
 have h3:(bksT x).length≤40:=by unfold bksT;rw [List.length_map];exact someF_len _
 exact ⟨h1,by show lenF (bookAll _ _)≤_;omega⟩
def bookedTS:Spec:=⟨true,fun args rows=>match args,rows with
 | [.sl (.pair (.int .i64) (.pair (.int .i64) (.pair (.int .i64) (.int .i64)))) x],[]=>some ⟨True,.ptr 0 0,[.arr Bk (calT x) none],true⟩
 | _,_=>none⟩
def sigBt:List (Nat × Spec):=[(32,newS),(28,bookS),(33,someS)]
theorem sigBtOk:SigOk Tryz.prog (look sigBt):=sigCons (sigCons (sigCons sigNil
 Tryz.func33 (by kernel_rfl) (c:=body Tryz.f33) rfl someOk)
 Tryz.func28 (by kernel_rfl) (c:=body Tryz.f28) rfl bookOk)
 Tryz.func32 (by kernel_rfl) (c:=body Tryz.f32) rfl newOk
def part90 (l:List Bk.El) (i:Nat):List Bk.El:=(l.take i).map own90++l.drop i
theorem part90_len {l:List Bk.El} {i:Nat}:(part90 l i).length=l.length:=by
 unfold part90;rw [List.length_append,List.length_map,← List.length_append,List.take_append_drop]
theorem part90_set {l:List Bk.El} {i:Nat} (h:i < l.length):(part90 l i).set i (own90 (getI l Bk.dflt i))=part90 l (i+1):=by
 have e:getI l Bk.dflt i=l[i]:=by simp [getI,List.getD,List.getElem?_eq_getElem h]
 unfold part90
 rw [List.drop_eq_getElem_cons h,List.set_append_right _ _ (by rw [List.length_map,List.length_take];omega),List.length_map,List.length_take,show i - min i l.length=0 by omega,List.set_cons_zero,take_succ_getI (d:=Bk.dflt) h,List.map_append,e]
 simp
theorem part90_get {l:List Bk.El} {i:Nat} (h:i < l.length):getI (part90 l i) Bk.dflt i=getI l Bk.dflt i:=by
 unfold part90 getI List.getD
 rw [List.getElem?_append_right (by rw [List.length_map,List.length_take];omega),List.length_map,List.length_take,List.getElem?_drop]
 rw [show i+(i - min i l.length)=i by omega]
theorem part90_got {l:List Bk.El} {i:Nat} (h:i < l.length):getI (part90 l (i+1)) Bk.dflt i=own90 (getI l Bk.dflt i):=by
 rw [← part90_set h]
 unfold getI List.getD
 rw [List.getElem?_set_self (by rw [part90_len];exact h)]
 rfl
theorem bookedTOk:SpecSound Tryz.prog 7 bookedTS:=by
 refine soundR (envOf sigBtOk) Tryz.func7 (c:=body Tryz.f7) rfl (by kernel_rfl) rfl ?_
 intro args rows out hf hpre
 split at hf <;> try (cases hf;done)
 rename_i x
 cases hf
 refine ⟨Nat.le_of_ble_eq_true rfl,initI (args:=[.sl t4 x]) (rows:=[]) rfl ?_⟩
 repeat' (first|refine zN ?_|refine zE ?_|refine zP ?_|refine pD ?_|refine zS ?_|refine zR ?_|refine zO ?_|refine zB ?_|refine zX ?_|refine zT ?_|refine skipI rfl ?_)
 rw [show List.drop (Int.toNat 0) (List.take (min (x.length:Int) 20).toNat x)=x.take 20 by
  show List.drop 0 _=_;rw [List.drop_zero,List.take_eq_take_iff];omega]
 obtain ⟨l,hl⟩:∃ l,l=someF (x.take 20):=⟨_,rfl⟩
 have hlen:l.length≤40:=by rw [hl];exact someF_len _
 rw [← hl]
 refine loopI (σ:=Nat) (fun i=>[(3,.ptr 3000 0),(4,.own 3001),(5,.int .i64 i)]) (fun i=>[(3000,.arr Bk (bookAll ((l.take i).map own90) noCal) none),(3001,.seq Bk (part90 l i))]) (fun i=>i≤l.length) (fun i=>l.length - i) 0 rfl (fun _=>rfl) rfl ?_ ?_ ?_
 ·exact Nat.zero_le _
 ·repeat' (first|exact trivial|with_reducible exact rfl|refine And.intro ?_ ?_)
  all_goals rfl
 intro i hi
 have hpl:=part90_len (l:=l) (i:=i)
 repeat' (first|refine zN ?_|refine zE ?_|refine zP ?_|refine pD ?_|refine pC (by (rw [hpl];omega)) ?_|refine zS ?_|refine zR ?_|refine zO ?_|refine zB ?_|refine zX ?_|refine zT ?_|refine skipI rfl ?_)
 refine condI rfl (fun c1=>?_) (fun c1=>?_)
 ·simp only [decide_eq_true_eq] at c1
  have hil:i < l.length:=by omega
  have hin:((i:Int)).toNat=i:=by omega
  have hset:=part90_set hil
  have hgot:=part90_got hil
  have hput:(part90 l i).set ((i:Int)).toNat ((getI (part90 l i) Bk.dflt ((i:Int)).toNat).1,(getI (part90 l i) Bk.dflt ((i:Int)).toNat).2.1,(getI (part90 l i) Bk.dflt ((i:Int)).toNat).2.2.1,90)=part90 l (i+1):=by
   rw [hin,part90_get hil];exact hset
  have hpl2:=part90_len (l:=l) (i:=i+1)
  obtain ⟨h1,h2,h3⟩:=bookAll_ok ((l.take i).map own90) (by rw [List.length_map,List.length_take];omega)
  have h4:=(bookAll_good (l:=(l.take i).map own90) noCal_good).2
  rw [lenF_no,List.length_map,List.length_take] at h4
  repeat' (first|refine zN ?_|refine zE ?_|refine zP ?_|refine zS ?_|refine zO ?_|refine zB ?_|refine zX ?_|refine zT ?_|refine skipI rfl ?_)
  refine zR ?_
  repeat' (first|with_reducible refine pN ?_|refine pD ?_|refine pC (by (rw [hpl];omega)) ?_)
  repeat with_reducible refine cN ?_
  rw [hput]
  repeat' (first|refine zN ?_|refine zE ?_|refine zP ?_|refine pD ?_|refine pC (by first|(rw [hpl2];omega)|exact ⟨h2,h3⟩) ?_|refine zS ?_|refine zR ?_|refine zO ?_|refine zB ?_|refine zX ?_|refine zT ?_|refine skipI rfl ?_)
  refine roundI (i+1) rfl ?_ ?_ ?_
  ·show i+1≤l.length
   omega
  ·show l.length - (i+1) < l.length - i
   omega
  ·repeat' (first|exact trivial|with_reducible exact rfl|refine And.intro ?_ ?_)
   all_goals first|rfl|skip
   simp only [hin]
   rw [hgot,take_succ_getI (d:=Bk.dflt) hil,List.map_append,bookAll_append]
   rfl
 ·simp only [decide_eq_false_iff_not] at c1
  have e:bookAll ((l.take i).map own90) noCal=calT x:=by
   unfold calT bksT
   rw [← hl,List.take_of_length_le (by omega)]
  rw [e]
  repeat' (first|refine zN ?_|refine zE ?_|refine zP ?_|refine pD ?_|refine zS ?_|refine zR ?_|refine zO ?_|refine zB ?_|refine zX ?_|refine zT ?_|refine skipI rfl ?_)
  refine endR rfl ?_
  repeat' (first|exact trivial|exact rfl|refine ⟨rfl,?_⟩|refine And.intro ?_ ?_)
def exNx (i:Nat):List Int:=bif decide ((i:Int) < 2) then [(i:Int)+1] else []
def exStep (i:Nat):StepT:=(1,[(i:Int)],10,20,exNx i,-1,0)
def exL (n:Nat):List StepT:=(List.range n).map exStep
def awakeS:Spec:=plain fun
 | []=>outV True (.bool true)
 | _=>none
abbrev shPl:Shp:=.agg [none,none,none,some tStage,some Fl.tWin]
def sigAw:List (Nat × Spec):=[(30,wcheckS),(16,checkS.norm [shPl]),(31,sameTS)]
theorem sigAwOk:SigOk Tryz.prog (look sigAw):=sigCons (sigCons (sigCons sigNil
 Tryz.func31 (by kernel_rfl) (c:=body Tryz.f31) rfl sameTOk)
 Tryz.func16 (by kernel_rfl) (c:=body Tryz.f16) rfl (checkOk.norm _))
 Tryz.func30 (by kernel_rfl) (c:=body Tryz.f30) rfl wcheckOk
theorem aw_check:checkF 2 5 (exL 3) [(0,2,13)]=(3,[0,1,2]):=by decide +kernel
theorem aw_safe:safeF 0 1 5 [(10,20,(1,5),(2,29))] []=true:=by decide +kernel
theorem awakeOk:SpecSound Tryz.prog 6 awakeS:=by
 refine soundP (envOf sigAwOk) Tryz.func6 (c:=body Tryz.f6) rfl (by kernel_rfl) rfl ?_
 intro args out hf hpre
 split at hf <;> try (cases hf;done)
 cases hf
 refine ⟨Nat.le_of_ble_eq_true rfl,initI rfl ?_⟩
 repeat' (first|refine zN ?_|refine zE ?_|refine zP ?_|refine pD ?_|refine zS ?_|refine zR ?_|refine zO ?_|refine zB ?_|refine zX ?_|refine zT ?_|refine skipI rfl ?_)
 refine loopI (σ:=Nat) (fun i=>[(2,.int .i64 i)]) (fun i=>[(1,.box [.int .i64 2,.int .i64 5,.own 3000,.own 9]),(3000,.seq tStep (exL i)),(9,.seq Fl.tWin [(0,2,13)])]) (fun i=>i≤3) (fun i=>3 - i) 0 rfl (fun _=>rfl) rfl ?_ ?_ ?_
 ·exact Nat.zero_le _
 ·repeat' (first|exact trivial|with_reducible exact rfl|refine And.intro ?_ ?_)
  all_goals rfl
 intro i hi
 repeat' (first|refine zN ?_|refine zE ?_|refine zP ?_|refine pD ?_|refine zS ?_|refine zR ?_|refine zO ?_|refine zB ?_|refine zX ?_|refine zT ?_|refine skipI rfl ?_)
 refine condI rfl (fun c1=>?_) (fun c1=>?_)
 ·simp only [decide_eq_true_eq] at c1
  have hi3:i < 3:=by omega
  repeat' (first|refine zN ?_|refine zE ?_|refine zP ?_|refine zS ?_|refine zO ?_|refine zB ?_|refine zX ?_|refine zT ?_|refine skipI rfl ?_)
  refine zR ?_
  repeat' (first|with_reducible refine pN ?_|refine pD ?_|fail)
  repeat with_reducible refine cN ?_
  refine freezeI 16 rfl ?_
  repeat' (first|refine zN ?_|refine zE ?_|refine zP ?_|refine zS ?_|refine zO ?_|refine zB ?_|refine zX ?_|refine zT ?_|refine skipI rfl ?_)
  refine zR ?_
  repeat' (first|with_reducible refine pN ?_|refine pD ?_|fail)
  repeat with_reducible refine cN ?_
  repeat' (first|with_reducible refine cN ?_|refine zS ?_|refine skipI rfl ?_)
  refine joinC (fun _:Unit=>[]) (fun _=>[(3,.box [.int .i64 1,.sl tInt [(i:Int)],.int .i64 10,.int .i64 20,.own 3100,.int .i64 (-1),.int .i64 0]),(3100,.seq tInt (exNx i))]) (fun _=>True) (fun _=>rfl) ?_ (fun _ _=>?_)
  ·refine condI rfl (fun c2=>?_) (fun c2=>?_)
   ·have c2:decide ((i:Int) < 2)=true:=c2
    repeat' (first|refine zN ?_|refine zE ?_|refine zP ?_|refine pD ?_|refine pC (by (unfold In64;omega)) ?_|refine zS ?_|refine zR ?_|refine zO ?_|refine zB ?_|refine zX ?_|refine zT ?_|refine skipI rfl ?_)
    refine meetI () rfl trivial ?_
    repeat' (first|exact trivial|exact rfl|refine ⟨rfl,?_⟩|refine And.intro ?_ ?_)
    unfold exNx
    rw [c2]
    rfl
   ·have c2:decide ((i:Int) < 2)=false:=c2
    repeat' (first|refine zN ?_|refine zE ?_|refine zP ?_|refine pD ?_|refine zS ?_|refine zR ?_|refine zO ?_|refine zB ?_|refine zX ?_|refine zT ?_|refine skipI rfl ?_)
    refine meetI () rfl trivial ?_
    repeat' (first|exact trivial|exact rfl|refine ⟨rfl,?_⟩|refine And.intro ?_ ?_)
    unfold exNx
    rw [c2]
    rfl
  have hel:(exL i).length=i:=by unfold exL;rw [List.length_map,List.length_range]
  repeat' (first|refine zN ?_|refine zE ?_|refine zP ?_|refine pD ?_|refine pC (by first|(rw [hel];omega)|(simp only [hel,List.length_cons,List.length_nil];omega)|(unfold In64;omega)) ?_|refine zS ?_|refine zR ?_|refine zO ?_|refine zB ?_|refine zX ?_|refine zT ?_|refine skipI rfl ?_)
  refine roundI (i+1) rfl ?_ ?_ ?_
  ·show i+1≤3
   omega
  ·show 3 - (i+1) < 3 - i
   omega
  ·repeat' (first|exact trivial|with_reducible exact rfl|refine And.intro ?_ ?_)
   all_goals first|rfl|(unfold exL;rw [List.range_succ,List.map_append];rfl)
 ·simp only [decide_eq_false_iff_not] at c1
  obtain rfl:i=3:=by omega
  repeat' (first|with_reducible refine cN ?_|refine zS ?_|refine skipI rfl ?_)
  refine freezeI 3000 rfl ?_
  refine freezeI 9 rfl ?_
  repeat' (first|refine zN ?_|refine zE ?_|refine zP ?_|refine zS ?_|refine zO ?_|refine zB ?_|refine zX ?_|refine zT ?_|refine skipI rfl ?_)
  refine zR ?_
  repeat' (first|with_reducible refine pN ?_|refine pD ?_|fail)
  repeat with_reducible refine cN ?_
  rw [aw_check]
  repeat' (first|refine zN ?_|refine zE ?_|refine zP ?_|refine zS ?_|refine zO ?_|refine zB ?_|refine zX ?_|refine zT ?_|refine skipI rfl ?_)
  refine zR ?_
  repeat' (first|with_reducible refine pN ?_|refine pD ?_|fail)
  repeat with_reducible refine cN ?_
  repeat' (first|refine zN ?_|refine zE ?_|refine zP ?_|refine zS ?_|refine zO ?_|refine zB ?_|refine zX ?_|refine zT ?_|refine skipI rfl ?_)
  refine zR ?_
  repeat' (first|with_reducible refine pN ?_|refine pD ?_|fail)
  repeat with_reducible refine cN ?_
  rw [aw_safe]
  repeat' (first|refine zN ?_|refine zE ?_|refine zP ?_|refine pD ?_|refine zS ?_|refine zR ?_|refine zO ?_|refine zB ?_|refine zX ?_|refine zT ?_|refine skipI rfl ?_)
  refine endR rfl ?_
  repeat' (first|exact trivial|exact rfl|refine ⟨rfl,?_⟩|refine And.intro ?_ ?_)
  trace_state
end Go.AM.YtkgmmmhokgdcaaaGreat.Tp
