/- ReV, ReJ. -/
import Derived.Test.YtmohhhbgcehnpaaGreatPm23
import Derived.Test.YtmohhhbgcehnpaaGreatPm28
import Derived.Test.YtmohhhbgcehnpaaGreatPm27

section
set_option linter.all false
namespace Go.AM.YtmohhhbgcehnpaaGreat.Re
open Go.Proofs
set_option maxRecDepth 100000
set_option maxHeartbeats 4000000
abbrev tNd:Ty:=.pair (.slice (.int .i64)) (.pair (.int .i64) (.int .i64))
def inF (n lo hi:Int):Bool:=decide (lo≤n)&&decide (n≤hi)
def inS:Spec:=plain fun
 | [.int .i64 n,.int .i64 lo,.int .i64 hi]=>outV True (.bool (inF n lo hi))
 | _=>none
theorem inOk:SpecSound Tryz.prog 33 inS:=by
 refine soundP (envOf sigNil) Tryz.func33 (c:=body Tryz.f33) rfl (by kernel_rfl) rfl ?_
 intro args out hf hpre
 split at hf <;> try (cases hf;done)
 rename_i n lo hi
 cases hf
 refine ⟨Nat.le_of_ble_eq_true rfl,initI (args:=[.int .i64 n,.int .i64 lo,.int .i64 hi]) rfl ?_⟩
 repeat' (first|refine zN ?_|refine zE ?_|refine zP ?_|refine pD ?_|refine zS ?_|refine zR ?_|refine zO ?_|refine zB ?_|refine zX ?_|refine zT ?_|refine skipI rfl ?_)
 refine endR rfl ?_
 repeat' (first|exact trivial|exact rfl|refine ⟨rfl,?_⟩|refine And.intro ?_ ?_)
def befF (f t f' t':Int):Bool:=decide (f < f')||(decide (f=f')&&decide (t < t'))
def befS:Spec:=plain fun
 | [.agg [.int .i64 f,.int .i64 t,.int .i64 l],.agg [.int .i64 f',.int .i64 t',.int .i64 l']]=>outV True (.bool (befF f t f' t'))
 | _=>none
theorem befOk:SpecSound Tryz.prog 34 befS:=by
 refine soundP (envOf sigNil) Tryz.func34 (c:=body Tryz.f34) rfl (by kernel_rfl) rfl ?_
 intro args out hf hpre
 split at hf <;> try (cases hf;done)
 rename_i f t l f' t' l'
 cases hf
 refine ⟨Nat.le_of_ble_eq_true rfl,initI (args:=[.agg [.int .i64 f,.int .i64 t,.int .i64 l],.agg [.int .i64 f',.int .i64 t',.int .i64 l']]) rfl ?_⟩
 repeat' (first|refine zN ?_|refine zE ?_|refine zP ?_|refine pD ?_|refine zS ?_|refine zR ?_|refine zO ?_|refine zB ?_|refine zX ?_|refine zT ?_|refine skipI rfl ?_)
 refine endR rfl ?_
 repeat' (first|exact trivial|exact rfl|refine ⟨rfl,?_⟩|refine And.intro ?_ ?_)
def headBad (e a b n m:Int):Bool:=(((!inF e 0 1000000||!inF a 0 b)||decide (b > 10000))||!inF n 1 4)||decide (m > 20)
def toolBad (ts:List Int) (i:Nat):Bool:=!inF (getI ts 0 i) 0 59||(decide ((i:Int) > 0)&&decide (getI ts 0 i≤getI ts 0 (i - 1)))
def needHd (x:List Int × Int × Int):Bool:=(!inF (x.1.length:Int) 2 3||!inF x.2.1 1 x.2.2)||decide (x.2.2 > 10000)
def needBad (x:List Int × Int × Int):Bool:=needHd x||(List.range x.1.length).any (toolBad x.1)
def winBad (n:Int) (ws:List tWin.El) (i:Nat):Bool :=
 (((!inF (getI ws tWin.dflt i).1 0 (n - 1)||!inF (getI ws tWin.dflt i).2.1 ((getI ws tWin.dflt i).1+1) (n - 1))||!inF (getI ws tWin.dflt i).2.2 0 1000000)) ||
   (decide ((i:Int) > 0)&&!befF (getI ws tWin.dflt (i - 1)).1 (getI ws tWin.dflt (i - 1)).2.1 (getI ws tWin.dflt i).1 (getI ws tWin.dflt i).2.1)
def rvalidF (e a b:Int) (ns:List tNd.El) (ws:List tWin.El):Bool:=!headBad e a b ns.length ws.length&&!ns.any needBad&&!(List.range ws.length).any (winBad ns.length ws)
def rvalidS:Spec:=plain fun
 | [.agg [.int .i64 e,.int .i64 a,.int .i64 b,.sl (.pair (.slice (.int .i64)) (.pair (.int .i64) (.int .i64))) ns,.sl (.pair (.int .i64) (.pair (.int .i64) (.int .i64))) ws]] =>
   outV (ns.length≤1000000∧ws.length≤1000000) (.bool (rvalidF e a b ns ws))
 | _=>none
def sigRv:List (Nat × Spec):=[(33,inS),(34,befS)]
theorem sigRvOk:SigOk Tryz.prog (look sigRv):=sigCons (sigCons sigNil
 Tryz.func34 (by kernel_rfl) (c:=body Tryz.f34) rfl befOk)
 Tryz.func33 (by kernel_rfl) (c:=body Tryz.f33) rfl inOk
theorem inF_true {n lo hi:Int} (h:inF n lo hi=true):lo≤n∧n≤hi:=by unfold inF at h;simpa using h
theorem any_range_no {n:Nat} {p:Nat→Bool} (h:∀ j,j < n→p j=false):(List.range n).any p=false:=by
 rw [List.any_eq_false]
 intro j hj
 rw [h j (List.mem_range.1 hj)]
 simp
theorem any_range_yes {n:Nat} {p:Nat→Bool} {i:Nat} (hi:i < n) (h:p i=true):(List.range n).any p=true:=List.any_eq_true.2 ⟨i,List.mem_range.2 hi,h⟩
theorem any_take_no {α:Type} {d:α} {l:List α} {p:α→Bool} (h:∀ j,j < l.length→p (getI l d j)=false):l.any p=false:=by
 rw [List.any_eq_false]
 intro x hx
 obtain ⟨i,hi,rfl⟩:=List.getElem_of_mem hx
 have:=h i hi
 rw [show getI l d i=l[i] by simp [getI,List.getD,List.getElem?_eq_getElem hi]] at this
 rw [this]
 simp
theorem any_take_yes {α:Type} {d:α} {l:List α} {p:α→Bool} {i:Nat} (hi:i < l.length) (h:p (getI l d i)=true):l.any p=true:=List.any_eq_true.2 ⟨_,Pl.getI_mem hi,h⟩
theorem rvalidOk:SpecSound Tryz.prog 9 rvalidS:=by
 refine soundP (envOf sigRvOk) Tryz.func9 (c:=body Tryz.f9) rfl (by kernel_rfl) rfl ?_
 intro args out hf hpre
 split at hf <;> try (cases hf;done)
 rename_i e a b ns ws
 cases hf
 refine ⟨Nat.le_of_ble_eq_true rfl,initI (args:=[.agg [.int .i64 e,.int .i64 a,.int .i64 b,.sl tNd ns,.sl tWin ws]]) rfl ?_⟩
 obtain ⟨hn,hw⟩:=hpre
 obtain ⟨r,hr⟩:∃ r,r=rvalidF e a b ns ws:=⟨_,rfl⟩
 rw [← hr]
 unfold rvalidF at hr
 repeat' (first|refine zN ?_|refine zE ?_|refine zP ?_|refine pD ?_|refine zS ?_|refine zR ?_|refine zO ?_|refine zB ?_|refine zX ?_|refine zT ?_|refine skipI rfl ?_)
 refine condI rfl (fun c1=>?_) (fun c1=>?_)
 ·have h1:headBad e a b ns.length ws.length=true:=c1
  rw [h1] at hr
  have hr:r=false:=hr
  repeat' (first|refine zN ?_|refine zE ?_|refine zP ?_|refine pD ?_|refine zS ?_|refine zR ?_|refine zO ?_|refine zB ?_|refine zX ?_|refine zT ?_|refine skipI rfl ?_)
  refine endR rfl ?_
  repeat' (first|exact trivial|exact rfl|refine ⟨rfl,?_⟩|refine And.intro ?_ ?_)
  exact hr
 have h1:headBad e a b ns.length ws.length=false:=c1
 rw [h1] at hr
 repeat' (first|refine zN ?_|refine zE ?_|refine zP ?_|refine pD ?_|refine zS ?_|refine zR ?_|refine zO ?_|refine zB ?_|refine zX ?_|refine zT ?_|refine skipI rfl ?_)
 refine loopI (σ:=Nat) (fun i=>[(48,.int .i64 i)]) (fun i=>[]) (fun i=>i≤ns.length∧∀ j,j < i→needBad (getI ns tNd.dflt j)=false) (fun i=>ns.length - i) 0 rfl (fun _=>rfl) rfl ?_ ?_ ?_
 ·exact ⟨Nat.zero_le _,fun j hj=>by omega⟩
 ·repeat' (first|exact trivial|exact rfl|refine ⟨rfl,?_⟩|refine And.intro ?_ ?_)
 ·rintro i ⟨hi,hb⟩
  repeat' (first|refine zN ?_|refine zE ?_|refine zP ?_|refine pD ?_|refine zS ?_|refine zR ?_|refine zO ?_|refine zB ?_|refine zX ?_|refine zT ?_|refine skipI rfl ?_)
  refine condI rfl (fun c2=>?_) (fun c2=>?_)
  ·simp only [decide_eq_true_eq] at c2
   have hil:i < ns.length:=by omega
   have hin:((i:Int)).toNat=i:=by omega
   repeat' (first|refine zN ?_|refine zE ?_|refine zP ?_|refine pD ?_|refine zS ?_|refine zR ?_|refine zO ?_|refine zB ?_|refine zX ?_|refine zT ?_|refine skipI rfl ?_)
   refine condI rfl (fun c3=>?_) (fun c3=>?_)
   ·simp only [hin] at c3
    have h3:needHd (getI ns tNd.dflt i)=true:=c3
    rw [any_take_yes (d:=tNd.dflt) hil (show needBad (getI ns tNd.dflt i)=true by unfold needBad;rw [h3];rfl)] at hr
    have hr:r=false:=by rw [hr];rfl
    repeat' (first|refine zN ?_|refine zE ?_|refine zP ?_|refine pD ?_|refine zS ?_|refine zR ?_|refine zO ?_|refine zB ?_|refine zX ?_|refine zT ?_|refine skipI rfl ?_)
    refine endR rfl ?_
    repeat' (first|exact trivial|exact rfl|refine ⟨rfl,?_⟩|refine And.intro ?_ ?_)
    exact hr
   simp only [hin] at c3
   have h3:needHd (getI ns tNd.dflt i)=false:=c3
   repeat' (first|refine zN ?_|refine zE ?_|refine zP ?_|refine pD ?_|refine zS ?_|refine zR ?_|refine zO ?_|refine zB ?_|refine zX ?_|refine zT ?_|refine skipI rfl ?_)
   simp only [hin]
   obtain ⟨tools,htools⟩:∃ tools:List Int,tools=(getI ns tNd.dflt i).1:=⟨_,rfl⟩
   simp only [← htools]
   have htl:tools.length≤3:=by
    have h4:inF (tools.length:Int) 2 3=true:=by
     rw [htools]
     unfold needHd at h3
     simp only [Bool.or_eq_false_iff,Bool.not_eq_false'] at h3
     exact h3.1.1
    have:=inF_true h4
    omega
   refine loopI (σ:=Nat) (fun j=>[(75,.int .i64 j)]) (fun j=>[]) (fun j=>j≤tools.length∧∀ k,k < j→toolBad tools k=false) (fun j=>tools.length - j) 0 rfl (fun _=>rfl) rfl ?_ ?_ ?_
   ·exact ⟨Nat.zero_le _,fun j hj=>by omega⟩
   ·repeat' (first|exact trivial|with_reducible exact rfl|refine And.intro ?_ ?_)
    all_goals rfl
   ·rintro j ⟨hj,hbj⟩
    repeat' (first|refine zN ?_|refine zE ?_|refine zP ?_|refine pD ?_|refine zS ?_|refine zR ?_|refine zO ?_|refine zB ?_|refine zX ?_|refine zT ?_|refine skipI rfl ?_)
    refine condI rfl (fun c4=>?_) (fun c4=>?_)
    ·simp only [decide_eq_true_eq] at c4
     have hjl:j < tools.length:=by omega
     have hjn:((j:Int)).toNat=j:=by omega
     have hjn1:((j:Int) - 1).toNat=j - 1:=by omega
     repeat' (first|refine zN ?_|refine zE ?_|refine zP ?_|refine pD ?_|refine pC (by (intro _ h;simp only [decide_eq_true_eq] at h;omega)) ?_|refine zS ?_|refine zR ?_|refine zO ?_|refine zB ?_|refine zX ?_|refine zT ?_|refine skipI rfl ?_)
     refine condI rfl (fun c5=>?_) (fun c5=>?_)
     ·simp only [hjn,hjn1] at c5
      have h5:toolBad tools j=true:=c5
      have h6:needBad (getI ns tNd.dflt i)=true:=by unfold needBad;rw [← htools,any_range_yes hjl h5,Bool.or_true]
      rw [any_take_yes (d:=tNd.dflt) hil h6] at hr
      have hr:r=false:=by rw [hr];rfl
      repeat' (first|refine zN ?_|refine zE ?_|refine zP ?_|refine pD ?_|refine zS ?_|refine zR ?_|refine zO ?_|refine zB ?_|refine zX ?_|refine zT ?_|refine skipI rfl ?_)
      refine endR rfl ?_
      repeat' (first|exact trivial|exact rfl|refine ⟨rfl,?_⟩|refine And.intro ?_ ?_)
      exact hr
     ·simp only [hjn,hjn1] at c5
      have h5:toolBad tools j=false:=c5
      repeat' (first|refine zN ?_|refine zE ?_|refine zP ?_|refine pD ?_|refine zS ?_|refine zR ?_|refine zO ?_|refine zB ?_|refine zX ?_|refine zT ?_|refine skipI rfl ?_)
      refine roundI (j+1) rfl ?_ ?_ ?_
      ·refine ⟨by show j+1≤tools.length;omega,fun k hk=>?_⟩
       by_cases hkj:k=j
       ·subst hkj;exact h5
       ·exact hbj k (by omega)
      ·show tools.length - (j+1) < tools.length - j
       omega
      ·repeat' (first|exact trivial|with_reducible exact rfl|refine And.intro ?_ ?_)
       all_goals rfl
    ·simp only [decide_eq_false_iff_not] at c4
     have h6:needBad (getI ns tNd.dflt i)=false:=by unfold needBad;rw [h3,← htools,any_range_no (fun k hk=>hbj k (by omega))];rfl
     repeat' (first|refine zN ?_|refine zE ?_|refine zP ?_|refine pD ?_|refine zS ?_|refine zR ?_|refine zO ?_|refine zB ?_|refine zX ?_|refine zT ?_|refine skipI rfl ?_)
     refine roundI (i+1) rfl ?_ ?_ ?_
     ·refine ⟨by show i+1≤ns.length;omega,fun k hk=>?_⟩
      by_cases hki:k=i
      ·subst hki;exact h6
      ·exact hb k (by omega)
     ·show ns.length - (i+1) < ns.length - i
      omega
     ·repeat' (first|exact trivial|with_reducible exact rfl|refine And.intro ?_ ?_)
      all_goals rfl
  ·simp only [decide_eq_false_iff_not] at c2
   have h7:ns.any needBad=false:=any_take_no (d:=tNd.dflt) fun j hj=>hb j (by omega)
   rw [h7] at hr
   repeat' (first|refine zN ?_|refine zE ?_|refine zP ?_|refine pD ?_|refine zS ?_|refine zR ?_|refine zO ?_|refine zB ?_|refine zX ?_|refine zT ?_|refine skipI rfl ?_)
   refine loopI (σ:=Nat) (fun i=>[(103,.int .i64 i)]) (fun i=>[]) (fun i=>i≤ws.length∧∀ j,j < i→winBad ns.length ws j=false) (fun i=>ws.length - i) 0 rfl (fun _=>rfl) rfl ?_ ?_ ?_
   ·exact ⟨Nat.zero_le _,fun j hj=>by omega⟩
   ·repeat' (first|exact trivial|exact rfl|refine ⟨rfl,?_⟩|refine And.intro ?_ ?_)
   ·rintro k ⟨hk,hbk⟩
    repeat' (first|refine zN ?_|refine zE ?_|refine zP ?_|refine pD ?_|refine zS ?_|refine zR ?_|refine zO ?_|refine zB ?_|refine zX ?_|refine zT ?_|refine skipI rfl ?_)
    refine condI rfl (fun c8=>?_) (fun c8=>?_)
    ·simp only [decide_eq_true_eq] at c8
     have hkl:k < ws.length:=by omega
     have hkn:((k:Int)).toNat=k:=by omega
     have hkn1:((k:Int) - 1).toNat=k - 1:=by omega
     repeat' (first|refine zN ?_|refine zE ?_|refine zP ?_|refine zS ?_|refine zO ?_|refine zB ?_|refine zX ?_|refine zT ?_|refine skipI rfl ?_)
     refine zR ?_
     repeat' (first|with_reducible refine pN ?_|refine pD ?_|refine pC (by first|(unfold In64;omega)|(intro h;rw [Bool.not_eq_false'] at h;have:=inF_true h;unfold In64;omega)) ?_)
     repeat with_reducible refine cN ?_
     repeat' (first|refine zN ?_|refine zE ?_|refine zP ?_|refine zS ?_|refine zO ?_|refine zB ?_|refine zX ?_|refine zT ?_|refine skipI rfl ?_)
     refine zR ?_
     repeat' (first|with_reducible refine pN ?_|refine pD ?_|refine pC (by first|(unfold In64;omega)|(intro h;rw [Bool.not_eq_false'] at h;have:=inF_true h;unfold In64;omega)) ?_)
     repeat with_reducible refine cN ?_
     refine condI rfl (fun c9=>?_) (fun c9=>?_)
     ·simp only [hkn] at c9
      have h9:winBad ns.length ws k=true:=by
       unfold winBad
       rw [Bool.or_eq_true]
       exact .inl c9
      rw [any_range_yes hkl h9] at hr
      have hr:r=false:=by rw [hr];rfl
      repeat' (first|refine zN ?_|refine zE ?_|refine zP ?_|refine pD ?_|refine zS ?_|refine zR ?_|refine zO ?_|refine zB ?_|refine zX ?_|refine zT ?_|refine skipI rfl ?_)
      refine endR rfl ?_
      repeat' (first|exact trivial|exact rfl|refine ⟨rfl,?_⟩|refine And.intro ?_ ?_)
      exact hr
     repeat' (first|refine zN ?_|refine zE ?_|refine zP ?_|refine pD ?_|refine pC (by (intro h;simp only [decide_eq_true_eq] at h;omega)) ?_|refine zS ?_|refine zR ?_|refine zO ?_|refine zB ?_|refine zX ?_|refine zT ?_|refine skipI rfl ?_)
     refine condI rfl (fun c10=>?_) (fun c10=>?_)
     ·simp only [hkn,hkn1] at c10
      have h9:winBad ns.length ws k=true:=by
       unfold winBad
       rw [Bool.or_eq_true]
       exact .inr c10
      rw [any_range_yes hkl h9] at hr
      have hr:r=false:=by rw [hr];rfl
      repeat' (first|refine zN ?_|refine zE ?_|refine zP ?_|refine pD ?_|refine zS ?_|refine zR ?_|refine zO ?_|refine zB ?_|refine zX ?_|refine zT ?_|refine skipI rfl ?_)
      refine endR rfl ?_
      repeat' (first|exact trivial|exact rfl|refine ⟨rfl,?_⟩|refine And.intro ?_ ?_)
      exact hr
     ·simp only [hkn,hkn1] at c9 c10
      have h9:winBad ns.length ws k=false:=by
       unfold winBad
       rw [Bool.or_eq_false_iff]
       exact ⟨c9,c10⟩
      repeat' (first|refine zN ?_|refine zE ?_|refine zP ?_|refine pD ?_|refine zS ?_|refine zR ?_|refine zO ?_|refine zB ?_|refine zX ?_|refine zT ?_|refine skipI rfl ?_)
      refine roundI (k+1) rfl ?_ ?_ ?_
      ·refine ⟨by show k+1≤ws.length;omega,fun j hj=>?_⟩
       by_cases hjk:j=k
       ·subst hjk;exact h9
       ·exact hbk j (by omega)
      ·show ws.length - (k+1) < ws.length - k
       omega
      ·repeat' (first|exact trivial|with_reducible exact rfl|refine And.intro ?_ ?_)
       all_goals rfl
    ·simp only [decide_eq_false_iff_not] at c8
     rw [any_range_no (fun j hj=>hbk j (by omega))] at hr
     have hr:r=true:=hr
     repeat' (first|refine zN ?_|refine zE ?_|refine zP ?_|refine pD ?_|refine zS ?_|refine zR ?_|refine zO ?_|refine zB ?_|refine zX ?_|refine zT ?_|refine skipI rfl ?_)
     refine endR rfl ?_
     repeat' (first|exact trivial|exact rfl|refine ⟨rfl,?_⟩|refine And.intro ?_ ?_)
     exact hr
end Go.AM.YtmohhhbgcehnpaaGreat.Re
end

section
set_option linter.all false
namespace Go.AM.YtmohhhbgcehnpaaGreat.Re
open Go.Proofs
set_option maxRecDepth 100000
set_option maxHeartbeats 4000000
theorem any_false_mem {α:Type} {l:List α} {p:α→Bool} (h:l.any p=false):∀ x∈l,p x=false:=fun x hx=>by
 rw [List.any_eq_false] at h
 simpa using h x hx
theorem rvalid_facts {e a b:Int} {ns:List tNeed.El} {ws:List tWin.El} (h:rvalidF e a b ns ws=true) :
 (0≤e∧e≤1000000)∧(0≤a∧a≤b∧b≤10000)∧(1≤ns.length∧ns.length≤4∧ws.length≤20)∧(∀ x∈ns,(2≤List.length (α:=Int) x.1∧List.length (α:=Int) x.1≤3)∧(1:Int)≤x.2.1∧(x.2.1:Int)≤x.2.2∧x.2.2≤(10000:Int)):=by
 unfold rvalidF at h
 simp only [Bool.and_eq_true,Bool.not_eq_true'] at h
 obtain ⟨⟨h1,h2⟩,h3⟩:=h
 unfold headBad at h1
 simp only [Bool.or_eq_false_iff,Bool.not_eq_false',decide_eq_false_iff_not] at h1
 obtain ⟨⟨⟨⟨h4,h5⟩,h6⟩,h7⟩,h8⟩:=h1
 have h4:=inF_true h4
 have h5:=inF_true h5
 have h7:=inF_true h7
 refine ⟨h4,⟨h5.1,h5.2,by omega⟩,⟨by omega,by omega,by omega⟩,fun x hx=>?_⟩
 have h9:=any_false_mem h2 x hx
 unfold needBad needHd at h9
 simp only [Bool.or_eq_false_iff,Bool.not_eq_false',decide_eq_false_iff_not] at h9
 obtain ⟨⟨⟨g1,g2⟩,g3⟩,_⟩:=h9
 have g1:=inF_true g1
 have g2:=inF_true g2
 exact ⟨⟨by omega,by omega⟩,g2.1,g2.2,Int.not_lt.1 g3⟩
theorem rvalid_best {c:CalT} (hg:CalG c) (hl:lenF c≤800000) {e a b:Int} {ns:List tNeed.El} {ws:List tWin.El} (h:rvalidF e a b ns ws=true):BeP c e b ns ws:=by
 obtain ⟨h1,h2,h3,h4⟩:=rvalid_facts h
 refine ⟨⟨hg,hl⟩,⟨h1.1,h1.2,by omega,h2.2.2⟩,⟨h3.1,by omega,by omega⟩,fun x hx=>?_,⟨by omega,fun x hx=>?_⟩⟩
 ·obtain ⟨_,k1,k2,k3⟩:=h4 x hx
  exact ⟨Int.le_trans (Int.le_trans (by decide) k1) k2,k3⟩
 ·have:=(h4 x hx).1.2
  omega
def makeG (c:CalT) (e a b:Int) (ns:List NeedT) (ws:List tWin.El):BestT:=bif rvalidF e a b ns ws then bestG c e a b ns ws [] else none
def makeV (o:BestT) (e a b:Int) (ws:List tWin.El):AV :=
 .tup [.agg [.int .i64 (sel o e 0),.int .i64 (sel o a 0),.int .i64 (sel o b 0),.sl tStage (bStg o),.sl tWin (sel o ws [])],.int .i64 (sel o 0 100)]
def makeS:Spec:=⟨true,fun args rows=>match args,rows with
 | [.nilptr,.agg [.int .i64 e,.int .i64 a,.int .i64 b,.sl (.pair (.slice (.int .i64)) (.pair (.int .i64) (.int .i64))) ns,.sl (.pair (.int .i64) (.pair (.int .i64) (.int .i64))) ws]],[] =>
   some ⟨True,.tup [.agg [.int .i64 0,.int .i64 0,.int .i64 0,.sl tStage [],.sl tWin []],.int .i64 1],[],true⟩
 | [.ptr 0 0,.agg [.int .i64 e,.int .i64 a,.int .i64 b,.sl (.pair (.slice (.int .i64)) (.pair (.int .i64) (.int .i64))) ns,.sl (.pair (.int .i64) (.pair (.int .i64) (.int .i64))) ws]],[.arr (.pair (.int .i64) (.pair (.int .i64) (.pair (.int .i64) (.int .i64)))) c none] =>
   some ⟨(CalG c∧lenF c≤800000)∧ns.length≤1000000∧ws.length≤1000000,makeV (makeG c e a b ns ws) e a b ws,[.arr Bk c none],true⟩
 | _,_=>none⟩
def sigMake:List (Nat × Spec):=[(9,rvalidS),(36,bestS)]
theorem sigMakeOk:SigOk Tryz.prog (look sigMake):=sigCons (sigCons sigNil
 Tryz.func36 (by kernel_rfl) (c:=body Tryz.f36) rfl bestOk)
 Tryz.func9 (by kernel_rfl) (c:=body Tryz.f9) rfl rvalidOk
theorem makeOk:SpecSound Tryz.prog 11 makeS:=by
 refine soundR (envOf sigMakeOk) Tryz.func11 (c:=body Tryz.f11) rfl (by kernel_rfl) rfl ?_
 intro args rows out hf hpre
 unfold makeS at hf
 split at hf <;> try (cases hf;done)
 ·rename_i e a b ns ws
  cases hf
  refine ⟨Nat.le_of_ble_eq_true rfl,initI (args:=[.nilptr,.agg [.int .i64 e,.int .i64 a,.int .i64 b,.sl tNeed ns,.sl tWin ws]]) (rows:=[]) rfl ?_⟩
  repeat' (first|refine zN ?_|refine zE ?_|refine zP ?_|refine pD ?_|refine zS ?_|refine zR ?_|refine zO ?_|refine zB ?_|refine zX ?_|refine zT ?_|refine skipI rfl ?_)
  refine condT rfl ?_
  repeat' (first|refine zN ?_|refine zE ?_|refine zP ?_|refine pD ?_|refine zS ?_|refine zR ?_|refine zO ?_|refine zB ?_|refine zX ?_|refine zT ?_|refine skipI rfl ?_)
  refine endR rfl ?_
  repeat' (first|exact trivial|exact rfl|refine ⟨rfl,?_⟩|refine And.intro ?_ ?_)
 ·rename_i e a b ns ws c
  cases hf
  refine ⟨Nat.le_of_ble_eq_true rfl,initI (args:=[.ptr 0 0,.agg [.int .i64 e,.int .i64 a,.int .i64 b,.sl tNeed ns,.sl tWin ws]]) (rows:=[.arr Bk c none]) rfl ?_⟩
  obtain ⟨⟨hg,hl⟩,hn,hw⟩:=hpre
  obtain ⟨o,ho⟩:∃ o,o=makeG c e a b ns ws:=⟨_,rfl⟩
  rw [← ho]
  unfold makeG at ho
  repeat' (first|refine zN ?_|refine zE ?_|refine zP ?_|refine pD ?_|refine zS ?_|refine zR ?_|refine zO ?_|refine zB ?_|refine zX ?_|refine zT ?_|refine skipI rfl ?_)
  refine condF rfl ?_
  repeat' (first|refine zN ?_|refine zE ?_|refine zP ?_|refine pD ?_|refine pC (by exact ⟨hn,hw⟩) ?_|refine zS ?_|refine zR ?_|refine zO ?_|refine zB ?_|refine zX ?_|refine zT ?_|refine skipI rfl ?_)
  refine condI rfl (fun c1=>?_) (fun c1=>?_)
  ·rw [c1,cond_true] at ho
   repeat' (first|refine zN ?_|refine zE ?_|refine zP ?_|refine zS ?_|refine zO ?_|refine zB ?_|refine zX ?_|refine zT ?_|refine skipI rfl ?_)
   refine zR ?_
   repeat' (first|with_reducible refine pN ?_|refine pD ?_|refine pC (by exact rvalid_best hg hl c1) ?_)
   repeat with_reducible refine cN ?_
   rw [← ho]
   repeat' (first|refine zN ?_|refine zE ?_|refine zP ?_|refine pD ?_|refine zS ?_|refine zR ?_|refine zO ?_|refine zB ?_|refine zX ?_|refine zT ?_|refine skipI rfl ?_)
   cases o with
   | none =>
     refine condF rfl ?_
     repeat' (first|refine zN ?_|refine zE ?_|refine zP ?_|refine pD ?_|refine zS ?_|refine zR ?_|refine zO ?_|refine zB ?_|refine zX ?_|refine zT ?_|refine skipI rfl ?_)
     refine endR rfl ?_
     repeat' (first|exact trivial|exact rfl|refine ⟨rfl,?_⟩|refine And.intro ?_ ?_)
   | some x =>
     refine condT rfl ?_
     repeat' (first|refine zN ?_|refine zE ?_|refine zP ?_|refine pD ?_|refine zS ?_|refine zR ?_|refine zO ?_|refine zB ?_|refine zX ?_|refine zT ?_|refine skipI rfl ?_)
     refine endR rfl ?_
     repeat' (first|exact trivial|exact rfl|refine ⟨rfl,?_⟩|refine And.intro ?_ ?_)
  ·rw [c1,cond_false] at ho
   rw [ho]
   repeat' (first|refine zN ?_|refine zE ?_|refine zP ?_|refine pD ?_|refine zS ?_|refine zR ?_|refine zO ?_|refine zB ?_|refine zX ?_|refine zT ?_|refine skipI rfl ?_)
   refine endR rfl ?_
   repeat' (first|exact trivial|exact rfl|refine ⟨rfl,?_⟩|refine And.intro ?_ ?_)
end Go.AM.YtmohhhbgcehnpaaGreat.Re
end
