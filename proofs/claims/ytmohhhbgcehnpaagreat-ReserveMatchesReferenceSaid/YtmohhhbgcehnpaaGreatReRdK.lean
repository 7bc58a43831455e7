/- The reference's requests and best plans: Ascending, Valid, none, best, Make. -/
import Derived.Test.YtmohhhbgcehnpaaGreatReRcK
import Derived.Test.YtmohhhbgcehnpaaGreatReEaK
import Derived.Test.YtmohhhbgcehnpaaGreatPm33
import Derived.Test.YtmohhhbgcehnpaaGreatPm29
set_option linter.all false
namespace Go.AM.YtmohhhbgcehnpaaGreat.Re
open Go.Proofs
set_option maxRecDepth 100000
set_option maxHeartbeats 8000000
def w4S:Spec:=plain fun
 | [.int .i64 n,.int .i64 lo,.int .i64 hi]=>outV True (.bool (inF n lo hi))
 | _=>none
theorem w4Ok:SpecSound Tryz.prog 62 w4S:=by
 refine soundP (envOf sigNil) Tryz.func62 (c:=body Tryz.f62) rfl (by kernel_rfl) rfl ?_
 intro args out hf hpre
 split at hf <;> try (cases hf;done)
 rename_i n lo hi
 cases hf
 refine ⟨Nat.le_of_ble_eq_true rfl,initI (args:=[.int .i64 n,.int .i64 lo,.int .i64 hi]) rfl ?_⟩
 repeat' (first|refine zN ?_|refine zE ?_|refine zP ?_|refine pD ?_|refine zS ?_|refine zR ?_|refine zO ?_|refine zB ?_|refine zX ?_|refine zT ?_|refine skipI rfl ?_)
 refine endR rfl ?_
 repeat' (first|exact trivial|exact rfl|refine ⟨rfl,?_⟩|refine And.intro ?_ ?_)
def sigAs:List (Nat × Spec):=[(62,w4S)]
theorem sigAsOk:SigOk Tryz.prog (look sigAs):=sigCons sigNil Tryz.func62 (by kernel_rfl) (c:=body Tryz.f62) rfl w4Ok
def ascF (ts:List Int):Bool:=!(List.range ts.length).any (toolBad ts)
def ascS:Spec:=plain fun
 | [.sl (.int .i64) ts,.int .i64 0,.int .i64 59]=>outV (List.length (α:=Int) ts≤1000000) (.bool (ascF ts))
 | _=>none
theorem ascOk:SpecSound Tryz.prog 35 ascS:=by
 refine soundP (envOf sigAsOk) Tryz.func35 (c:=body Tryz.f35) rfl (by kernel_rfl) rfl ?_
 intro args out hf hpre
 split at hf <;> try (cases hf;done)
 rename_i ts
 cases hf
 refine ⟨Nat.le_of_ble_eq_true rfl,initI (args:=[.sl tInt ts,.int .i64 0,.int .i64 59]) rfl ?_⟩
 have hl:List.length (α:=Int) ts≤1000000:=hpre
 repeat' (first|refine zN ?_|refine zE ?_|refine zP ?_|refine pD ?_|refine zS ?_|refine zR ?_|refine zO ?_|refine zB ?_|refine zX ?_|refine zT ?_|refine skipI rfl ?_)
 refine loopI (σ:=Nat) (fun j=>[(7,.int .i64 j)]) (fun j=>[]) (fun j=>j≤List.length (α:=Int) ts∧∀ k,k < j→toolBad ts k=false) (fun j=>List.length (α:=Int) ts - j) 0 rfl (fun _=>rfl) rfl ?_ ?_ ?_
 ·exact ⟨Nat.zero_le _,fun j hj=>by omega⟩
 ·repeat' (first|exact trivial|exact rfl|refine ⟨rfl,?_⟩|refine And.intro ?_ ?_)
 rintro j ⟨hj,hbj⟩
 repeat' (first|refine zN ?_|refine zE ?_|refine zP ?_|refine pD ?_|refine zS ?_|refine zR ?_|refine zO ?_|refine zB ?_|refine zX ?_|refine zT ?_|refine skipI rfl ?_)
 refine condI rfl (fun c4=>?_) (fun c4=>?_)
 ·simp only [decide_eq_true_eq] at c4
  have hjl:j < List.length (α:=Int) ts:=by omega
  have hjn:((j:Int)).toNat=j:=by omega
  have hjn1:((j:Int) - 1).toNat=j - 1:=by omega
  repeat' (first|refine zN ?_|refine zE ?_|refine zP ?_|refine pD ?_|refine pC (by (intros;simp only [decide_eq_true_eq] at *;omega)) ?_|refine zS ?_|refine zR ?_|refine zO ?_|refine zB ?_|refine zX ?_|refine zT ?_|refine skipI rfl ?_)
  refine condI rfl (fun c5=>?_) (fun c5=>?_)
  ·simp only [hjn,hjn1] at c5
   have h5:toolBad ts j=true:=c5
   have h6:ascF ts=false:=by unfold ascF;rw [any_range_yes hjl h5];rfl
   rw [h6]
   repeat' (first|refine zN ?_|refine zE ?_|refine zP ?_|refine pD ?_|refine zS ?_|refine zR ?_|refine zO ?_|refine zB ?_|refine zX ?_|refine zT ?_|refine skipI rfl ?_)
   refine endR rfl ?_
   repeat' (first|exact trivial|exact rfl|refine ⟨rfl,?_⟩|refine And.intro ?_ ?_)
  ·simp only [hjn,hjn1] at c5
   have h5:toolBad ts j=false:=c5
   repeat' (first|refine zN ?_|refine zE ?_|refine zP ?_|refine pD ?_|refine zS ?_|refine zR ?_|refine zO ?_|refine zB ?_|refine zX ?_|refine zT ?_|refine skipI rfl ?_)
   refine roundI (j+1) rfl ?_ ?_ ?_
   ·refine ⟨by show j+1≤List.length (α:=Int) ts;omega,fun k hk=>?_⟩
    by_cases hkj:k=j
    ·subst hkj;exact h5
    ·exact hbj k (by omega)
   ·show List.length (α:=Int) ts - (j+1) < List.length (α:=Int) ts - j
    omega
   ·repeat' (first|exact trivial|with_reducible exact rfl|refine And.intro ?_ ?_)
    all_goals rfl
 ·simp only [decide_eq_false_iff_not] at c4
  have h6:ascF ts=true:=by unfold ascF;rw [any_range_no (fun k hk=>hbj k (by omega))];rfl
  rw [h6]
  repeat' (first|refine zN ?_|refine zE ?_|refine zP ?_|refine pD ?_|refine zS ?_|refine zR ?_|refine zO ?_|refine zB ?_|refine zX ?_|refine zT ?_|refine skipI rfl ?_)
  refine endR rfl ?_
  repeat' (first|exact trivial|exact rfl|refine ⟨rfl,?_⟩|refine And.intro ?_ ?_)
def rqS:Spec:=plain fun
 | [.agg [.int .i64 e,.int .i64 a,.int .i64 b,.sl (.pair (.slice (.int .i64)) (.pair (.int .i64) (.int .i64))) ns,.sl (.pair (.int .i64) (.pair (.int .i64) (.int .i64))) ws]] =>
   outV (ns.length≤1000000∧ws.length≤1000000∧∀ x∈ns,List.length (α:=Int) x.1≤1000000) (.bool (rvalidF e a b ns ws))
 | _=>none
def sigRq:List (Nat × Spec):=[(35,ascS)]
theorem sigRqOk:SigOk Tryz.prog (look sigRq):=sigCons sigNil Tryz.func35 (by kernel_rfl) (c:=body Tryz.f35) rfl ascOk
def hdR (e a b n m:Int):Prop:=e < 0∨1000000 < e∨a < 0∨b < a∨10000 < b∨n < 1∨4 < n∨20 < m
theorem head_iff {e a b n m:Int}:headBad e a b n m=true↔hdR e a b n m:=by
 unfold headBad inF hdR
 simp only [Bool.or_eq_true,Bool.not_eq_true',Bool.and_eq_false_iff,decide_eq_false_iff_not,decide_eq_true_eq]
 omega
theorem need_iff {x:List Int × Int × Int}:needBad x=true↔(ascF x.1=false∨x.1.length < 2∨3 < x.1.length∨x.2.1 < 1∨x.2.2 < x.2.1∨10000 < x.2.2):=by
 unfold needBad needHd inF ascF
 simp only [Bool.or_eq_true,Bool.not_eq_true',Bool.not_eq_false',Bool.and_eq_false_iff,decide_eq_false_iff_not,decide_eq_true_eq]
 constructor
 ·rintro (h|h)
  ·omega
  ·exact .inl h
 ·rintro (h|h)
  ·exact .inr h
  ·exact .inl (by omega)
def wiR (n f t l:Int):Prop:=f < 0∨t≤f∨n≤t∨l < 0∨1000000 < l
def wjR (f0 t0 f t:Int):Prop:=f < f0∨(f0=f∧t≤t0)
theorem win_iff {n:Int} {ws:List tWin.El} {k:Nat}:winBad n ws k=true↔(wiR n (getI ws tWin.dflt k).1 (getI ws tWin.dflt k).2.1 (getI ws tWin.dflt k).2.2∨(0 < k∧wjR (getI ws tWin.dflt (k - 1)).1 (getI ws tWin.dflt (k - 1)).2.1 (getI ws tWin.dflt k).1 (getI ws tWin.dflt k).2.1)):=by
 have h1:winBad n ws k=true↔(!inF (getI ws tWin.dflt k).1 0 (n - 1)||!inF (getI ws tWin.dflt k).2.1 ((getI ws tWin.dflt k).1+1) (n - 1)||!inF (getI ws tWin.dflt k).2.2 0 1000000)=true∨(decide ((k:Int) > 0)&&!befF (getI ws tWin.dflt (k - 1)).1 (getI ws tWin.dflt (k - 1)).2.1 (getI ws tWin.dflt k).1 (getI ws tWin.dflt k).2.1)=true:=by
  unfold winBad
  rw [Bool.or_eq_true]
 rw [h1]
 obtain ⟨f,hf⟩:∃ f:Int,f=(getI ws tWin.dflt k).1:=⟨_,rfl⟩
 obtain ⟨t,ht⟩:∃ f:Int,f=(getI ws tWin.dflt k).2.1:=⟨_,rfl⟩
 obtain ⟨l,hl⟩:∃ f:Int,f=(getI ws tWin.dflt k).2.2:=⟨_,rfl⟩
 obtain ⟨f0,hf0⟩:∃ f:Int,f=(getI ws tWin.dflt (k - 1)).1:=⟨_,rfl⟩
 obtain ⟨t0,ht0⟩:∃ f:Int,f=(getI ws tWin.dflt (k - 1)).2.1:=⟨_,rfl⟩
 rw [← hf,← ht,← hl,← hf0,← ht0]
 unfold inF befF wiR wjR
 simp only [Bool.or_eq_true,Bool.and_eq_true,Bool.not_eq_true',Bool.or_eq_false_iff,Bool.and_eq_false_iff,decide_eq_false_iff_not,decide_eq_true_eq]
 omega
theorem rqOk:SpecSound Tryz.prog 10 rqS:=by
 refine soundP (envOf sigRqOk) Tryz.func10 (c:=body Tryz.f10) rfl (by kernel_rfl) rfl ?_
 intro args out hf hpre
 split at hf <;> try (cases hf;done)
 rename_i e a b ns ws
 cases hf
 refine ⟨Nat.le_of_ble_eq_true rfl,initI (args:=[.agg [.int .i64 e,.int .i64 a,.int .i64 b,.sl tNd ns,.sl tWin ws]]) rfl ?_⟩
 obtain ⟨hn,hw,htl⟩:=hpre
 obtain ⟨r,hr⟩:∃ r,r=rvalidF e a b ns ws:=⟨_,rfl⟩
 rw [← hr]
 unfold rvalidF at hr
 have hI:=head_iff (e:=e) (a:=a) (b:=b) (n:=(ns.length:Int)) (m:=(ws.length:Int))
 unfold hdR at hI
 repeat' (first|refine zN ?_|refine zE ?_|refine zP ?_|refine pD ?_|refine zS ?_|refine zR ?_|refine zO ?_|refine zB ?_|refine zX ?_|refine zT ?_|refine skipI rfl ?_)
 refine condI rfl (fun c1=>?_) (fun c1=>?_)
 ·have h1:headBad e a b ns.length ws.length=true:=by
   rw [hI]
   simp only [Bool.or_eq_true,decide_eq_true_eq] at c1
   omega
  rw [h1] at hr
  have hr:r=false:=hr
  repeat' (first|refine zN ?_|refine zE ?_|refine zP ?_|refine pD ?_|refine zS ?_|refine zR ?_|refine zO ?_|refine zB ?_|refine zX ?_|refine zT ?_|refine skipI rfl ?_)
  refine endR rfl ?_
  repeat' (first|exact trivial|exact rfl|refine ⟨rfl,?_⟩|refine And.intro ?_ ?_)
  exact hr
 have h1:headBad e a b ns.length ws.length=false:=by
  rw [← Bool.not_eq_true,hI]
  simp only [Bool.or_eq_false_iff,decide_eq_false_iff_not] at c1
  omega
 rw [h1] at hr
 repeat' (first|refine zN ?_|refine zE ?_|refine zP ?_|refine pD ?_|refine zS ?_|refine zR ?_|refine zO ?_|refine zB ?_|refine zX ?_|refine zT ?_|refine skipI rfl ?_)
 refine loopI (σ:=Nat) (fun i=>[(4,.int .i64 i)]) (fun i=>[]) (fun i=>i≤ns.length∧∀ j,j < i→needBad (getI ns tNd.dflt j)=false) (fun i=>ns.length - i) 0 rfl (fun _=>rfl) rfl ?_ ?_ ?_
 ·exact ⟨Nat.zero_le _,fun j hj=>by omega⟩
 ·repeat' (first|exact trivial|exact rfl|refine ⟨rfl,?_⟩|refine And.intro ?_ ?_)
 rintro i ⟨hi,hb⟩
 repeat' (first|refine zN ?_|refine zE ?_|refine zP ?_|refine pD ?_|refine zS ?_|refine zR ?_|refine zO ?_|refine zB ?_|refine zX ?_|refine zT ?_|refine skipI rfl ?_)
 refine condI rfl (fun c2=>?_) (fun c2=>?_)
 ·simp only [decide_eq_true_eq] at c2
  have hil:i < ns.length:=by omega
  have hin:((i:Int)).toNat=i:=by omega
  obtain ⟨x,hx⟩:∃ x:List Int × Int × Int,x=getI ns tNd.dflt i:=⟨_,rfl⟩
  have htx:List.length (α:=Int) x.1≤1000000:=by rw [hx];exact htl _ (Pl.getI_mem hil)
  have hIx:=need_iff (x:=x)
  repeat' (first|refine zN ?_|refine zE ?_|refine zP ?_|refine zS ?_|refine zO ?_|refine zB ?_|refine zX ?_|refine zT ?_|refine skipI rfl ?_)
  refine zR ?_
  repeat' (first|with_reducible refine pN ?_|refine pD ?_|refine pC (by omega) ?_)
  repeat with_reducible refine cN ?_
  simp only [hin,← hx]
  repeat' (first|refine zN ?_|refine zE ?_|refine zP ?_|refine pD ?_|refine pC (by (exact htx)) ?_|refine zS ?_|refine zR ?_|refine zO ?_|refine zB ?_|refine zX ?_|refine zT ?_|refine skipI rfl ?_)
  refine condI rfl (fun c3=>?_) (fun c3=>?_)
  ·have h3:needBad x=true:=by
    rw [hIx]
    simp only [Bool.or_eq_true,Bool.not_eq_true',decide_eq_true_eq] at c3
    rcases c3 with ((((c3|c3)|c3)|c3)|c3)|c3
    ·exact .inl c3
    all_goals exact .inr (by omega)
   rw [any_take_yes (d:=tNd.dflt) hil (by rw [← hx];exact h3)] at hr
   have hr:r=false:=by rw [hr];rfl
   repeat' (first|refine zN ?_|refine zE ?_|refine zP ?_|refine pD ?_|refine zS ?_|refine zR ?_|refine zO ?_|refine zB ?_|refine zX ?_|refine zT ?_|refine skipI rfl ?_)
   refine endR rfl ?_
   repeat' (first|exact trivial|exact rfl|refine ⟨rfl,?_⟩|refine And.intro ?_ ?_)
   exact hr
  have h3:needBad x=false:=by
   rw [← Bool.not_eq_true,hIx]
   simp only [Bool.or_eq_false_iff,Bool.not_eq_false',decide_eq_false_iff_not] at c3
   obtain ⟨⟨⟨⟨⟨k1,k2⟩,k3⟩,k4⟩,k5⟩,k6⟩:=c3
   rintro (h|h)
   ·rw [k1] at h;cases h
   ·omega
  repeat' (first|refine zN ?_|refine zE ?_|refine zP ?_|refine pD ?_|refine zS ?_|refine zR ?_|refine zO ?_|refine zB ?_|refine zX ?_|refine zT ?_|refine skipI rfl ?_)
  refine roundI (i+1) rfl ?_ ?_ ?_
  ·refine ⟨by show i+1≤ns.length;omega,fun k hk=>?_⟩
   by_cases hki:k=i
   ·subst hki;rw [← hx];exact h3
   ·exact hb k (by omega)
  ·show ns.length - (i+1) < ns.length - i
   omega
  ·repeat' (first|exact trivial|with_reducible exact rfl|refine And.intro ?_ ?_)
   all_goals rfl
 simp only [decide_eq_false_iff_not] at c2
 have h7:ns.any needBad=false:=any_take_no (d:=tNd.dflt) fun j hj=>hb j (by omega)
 rw [h7] at hr
 repeat' (first|refine zN ?_|refine zE ?_|refine zP ?_|refine pD ?_|refine zS ?_|refine zR ?_|refine zO ?_|refine zB ?_|refine zX ?_|refine zT ?_|refine skipI rfl ?_)
 refine loopI (σ:=Nat) (fun i=>[(7,.int .i64 i)]) (fun i=>[]) (fun i=>i≤ws.length∧∀ j,j < i→winBad ns.length ws j=false) (fun i=>ws.length - i) 0 rfl (fun _=>rfl) rfl ?_ ?_ ?_
 ·exact ⟨Nat.zero_le _,fun j hj=>by omega⟩
 ·repeat' (first|exact trivial|exact rfl|refine ⟨rfl,?_⟩|refine And.intro ?_ ?_)
 rintro k ⟨hk,hbk⟩
 repeat' (first|refine zN ?_|refine zE ?_|refine zP ?_|refine pD ?_|refine zS ?_|refine zR ?_|refine zO ?_|refine zB ?_|refine zX ?_|refine zT ?_|refine skipI rfl ?_)
 refine condI rfl (fun c8=>?_) (fun c8=>?_)
 ·simp only [decide_eq_true_eq] at c8
  have hkl:k < ws.length:=by omega
  have hkn:((k:Int)).toNat=k:=by omega
  have hkn1:((k:Int) - 1).toNat=k - 1:=by omega
  have hIw:=win_iff (n:=(ns.length:Int)) (ws:=ws) (k:=k)
  unfold wiR wjR at hIw
  repeat' (first|refine zN ?_|refine zE ?_|refine zP ?_|refine pD ?_|refine zS ?_|refine zR ?_|refine zO ?_|refine zB ?_|refine zX ?_|refine zT ?_|refine skipI rfl ?_)
  refine condI rfl (fun c9=>?_) (fun c9=>?_)
  ·simp only [hkn,Bool.or_eq_true,decide_eq_true_eq] at c9
   have h9:winBad ns.length ws k=true:=by rw [hIw];omega
   rw [any_range_yes hkl h9] at hr
   have hr:r=false:=by rw [hr];rfl
   repeat' (first|refine zN ?_|refine zE ?_|refine zP ?_|refine pD ?_|refine zS ?_|refine zR ?_|refine zO ?_|refine zB ?_|refine zX ?_|refine zT ?_|refine skipI rfl ?_)
   refine endR rfl ?_
   repeat' (first|exact trivial|exact rfl|refine ⟨rfl,?_⟩|refine And.intro ?_ ?_)
   exact hr
  simp only [hkn,Bool.or_eq_false_iff,decide_eq_false_iff_not] at c9
  repeat' (first|refine zN ?_|refine zE ?_|refine zP ?_|refine pD ?_|refine pC (by first|(first|(intros;simp only [decide_eq_true_eq] at *;omega)|(intros;unfold In64;omega))) ?_|refine zS ?_|refine zR ?_|refine zO ?_|refine zB ?_|refine zX ?_|refine zT ?_|refine skipI rfl ?_)
  refine condI rfl (fun c10=>?_) (fun c10=>?_)
  ·simp only [hkn,hkn1,Bool.or_eq_true,Bool.and_eq_true,decide_eq_true_eq] at c10
   have h9:winBad ns.length ws k=true:=by rw [hIw];omega
   rw [any_range_yes hkl h9] at hr
   have hr:r=false:=by rw [hr];rfl
   repeat' (first|refine zN ?_|refine zE ?_|refine zP ?_|refine pD ?_|refine zS ?_|refine zR ?_|refine zO ?_|refine zB ?_|refine zX ?_|refine zT ?_|refine skipI rfl ?_)
   refine endR rfl ?_
   repeat' (first|exact trivial|exact rfl|refine ⟨rfl,?_⟩|refine And.intro ?_ ?_)
   exact hr
  ·simp only [hkn,hkn1,Bool.or_eq_false_iff,Bool.and_eq_false_iff,decide_eq_false_iff_not] at c10
   have h9:winBad ns.length ws k=false:=by rw [← Bool.not_eq_true,hIw];omega
   repeat' (first|refine zN ?_|refine zE ?_|refine zP ?_|refine pD ?_|refine zS ?_|refine zR ?_|refine zO ?_|refine zB ?_|refine zX ?_|refine zT ?_|refine skipI rfl ?_)
   refine roundI (k+1) rfl ?_ ?_ ?_
   ·refine ⟨by show k+1≤ws.length;omega,fun j hj=>?_⟩
    by_cases hjk:j=k
    ·subst hjk;exact h9
    ·exact hbk j (by omega)
   ·show ws.length - (k+1) < ws.length - k
    omega
   ·repeat' (first|exact trivial|with_reducible exact rfl|refine And.intro ?_ ?_)
    all_goals rfl
 ·simp only [decide_eq_false_iff_not] at c8
  rw [any_range_no (fun j hj=>hbk j (by omega))] at hr
  have hr:r=true:=hr
  repeat' (first|refine zN ?_|refine zE ?_|refine zP ?_|refine pD ?_|refine zS ?_|refine zR ?_|refine zO ?_|refine zB ?_|refine zX ?_|refine zT ?_|refine skipI rfl ?_)
  refine endR rfl ?_
  repeat' (first|exact trivial|exact rfl|refine ⟨rfl,?_⟩|refine And.intro ?_ ?_)
  exact hr
def rNoneS:Spec:=⟨true,fun args rows=>match args,rows with
 | [.int .i64 n],[]=>some ⟨0≤n∧n≤1000000,.sl tInt (List.replicate n.toNat (-1)),[],true⟩
 | _,_=>none⟩
theorem rNoneOk:SpecSound Tryz.prog 38 rNoneS:=by
 refine soundR (envOf sigNil) Tryz.func38 (c:=body Tryz.f38) rfl (by kernel_rfl) rfl ?_
 intro args rows out hf hpre
 split at hf <;> try (cases hf;done)
 rename_i n
 cases hf
 refine ⟨Nat.le_of_ble_eq_true rfl,initI (args:=[.int .i64 n]) (rows:=[]) rfl ?_⟩
 obtain ⟨h0,h1⟩:=hpre
 repeat' (first|refine zN ?_|refine zE ?_|refine zP ?_|refine pD ?_|refine zS ?_|refine zR ?_|refine zO ?_|refine zB ?_|refine zX ?_|refine zT ?_|refine skipI rfl ?_)
 refine loopI (σ:=Nat) (fun i=>[(3,.own 3000),(4,.int .i64 i)]) (fun i=>[(3000,.seq tInt (List.replicate i (-1)))]) (fun i=>i≤n.toNat) (fun i=>n.toNat - i) 0 rfl (fun _=>rfl) rfl ?_ ?_ ?_
 ·exact Nat.zero_le _
 ·repeat' (first|exact trivial|with_reducible exact rfl|refine And.intro ?_ ?_)
  all_goals rfl
 intro i hi
 have hlr:(List.replicate i (-1:Int)).length=i:=List.length_replicate
 repeat' (first|refine zN ?_|refine zE ?_|refine zP ?_|refine pD ?_|refine zS ?_|refine zR ?_|refine zO ?_|refine zB ?_|refine zX ?_|refine zT ?_|refine skipI rfl ?_)
 refine condI rfl (fun c1=>?_) (fun c1=>?_)
 ·simp only [decide_eq_true_eq] at c1
  have hil:i < n.toNat:=by omega
  repeat' (first|refine zN ?_|refine zE ?_|refine zP ?_|refine pD ?_|refine pC (by first|(first|(simp only [hlr,List.length_cons,List.length_nil];omega)|omega)) ?_|refine zS ?_|refine zR ?_|refine zO ?_|refine zB ?_|refine zX ?_|refine zT ?_|refine skipI rfl ?_)
  refine roundI (i+1) rfl ?_ ?_ ?_
  ·show i+1≤n.toNat
   omega
  ·show n.toNat - (i+1) < n.toNat - i
   omega
  ·repeat' (first|exact trivial|with_reducible exact rfl|refine And.intro ?_ ?_)
   all_goals (first|rfl|(rw [List.replicate_succ'];done)|(rw [List.replicate_succ'];rfl))
 ·simp only [decide_eq_false_iff_not] at c1
  rw [show i=n.toNat by omega]
  refine freezeI 3000 rfl ?_
  repeat' (first|refine zN ?_|refine zE ?_|refine zP ?_|refine pD ?_|refine zS ?_|refine zR ?_|refine zO ?_|refine zB ?_|refine zX ?_|refine zT ?_|refine skipI rfl ?_)
  refine endR rfl ?_
  repeat' (first|exact trivial|exact rfl|refine ⟨rfl,?_⟩|refine And.intro ?_ ?_)
end Go.AM.YtmohhhbgcehnpaaGreat.Re
