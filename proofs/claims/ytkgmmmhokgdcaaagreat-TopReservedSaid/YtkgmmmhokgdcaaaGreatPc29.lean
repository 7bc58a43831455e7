/- FlA, GrA. -/
import Derived.Test.YtkgmmmhokgdcaaaGreatPc14

section
set_option linter.all false
namespace Go.AM.YtkgmmmhokgdcaaaGreat.Fl
open Go.Proofs
set_option maxRecDepth 100000
set_option maxHeartbeats 4000000
abbrev tInt:Ty:=.int .i64
abbrev tStep:Ty:=.pair (.int .i64) (.pair (.slice (.int .i64)) (.pair (.int .i64) (.pair (.int .i64) (.pair (.slice (.int .i64)) (.pair (.int .i64) (.int .i64))))))
abbrev tWin:Ty:=.pair (.int .i64) (.pair (.int .i64) (.int .i64))
abbrev StepT:=Int × List Int × Int × Int × List Int × Int × Int
abbrev WinT:=Int × Int × Int
def stRc (s:StepT):Int:=s.1
def stTl (s:StepT):List Int:=s.2.1
def stMn (s:StepT):Int:=s.2.2.1
def stMx (s:StepT):Int:=s.2.2.2.1
def stNx (s:StepT):List Int:=s.2.2.2.2.1
def stBk (s:StepT):Int:=s.2.2.2.2.2.1
def stLm (s:StepT):Int:=s.2.2.2.2.2.2
theorem fl_mem {α:Type} {l:List α} {d:α} {i:Nat} (h:i < l.length):getI l d i∈l:=by
 rw [show getI l d i=l[i] by simp [getI,List.getD,List.getElem?_eq_getElem h]]
 exact List.getElem_mem h
def inW (n lo hi:Int):Bool:=decide (n≥lo)&&decide (n≤hi)
def inWS:Spec:=plain fun
 | [.int .i64 n,.int .i64 lo,.int .i64 hi]=>outV True (.bool (inW n lo hi))
 | _=>none
theorem inWOk:SpecSound Tryz.prog 111 inWS:=by
 refine soundP (envOf sigNil) Tryz.func111 (c:=body Tryz.f111) rfl (by kernel_rfl) rfl ?_
 intro args out hf hpre
 split at hf <;> try (cases hf;done)
 rename_i n lo hi
 cases hf
 refine ⟨Nat.le_of_ble_eq_true rfl,initI (args:=[.int .i64 n,.int .i64 lo,.int .i64 hi]) rfl ?_⟩
 repeat' (first|refine zN ?_|refine zE ?_|refine zP ?_|refine pD ?_|refine zS ?_|refine zR ?_|refine zO ?_|refine zB ?_|refine zX ?_|refine zT ?_|refine skipI rfl ?_)
 refine endR rfl ?_
 repeat' (first|exact trivial|exact rfl|refine ⟨rfl,?_⟩|refine And.intro ?_ ?_)
def ascBad (lo hi:Int) (l:List Int) (i:Nat):Bool:=!inW (getI l 0 i) lo hi||(decide ((i:Int) > 0)&&decide (getI l 0 i≤getI l 0 ((i:Int) - 1).toNat))
def ascF (l:List Int) (lo hi:Int):Bool:=!(List.range l.length).any (ascBad lo hi l)
def ascS:Spec:=plain fun
 | [.sl (.int .i64) l,.int .i64 lo,.int .i64 hi]=>outV True (.bool (ascF l lo hi))
 | _=>none
theorem rng_yes {n:Nat} {p:Nat→Bool} {i:Nat} (hi:i < n) (h:p i=true):(List.range n).any p=true:=List.any_eq_true.2 ⟨i,List.mem_range.2 hi,h⟩
theorem rng_no {n:Nat} {p:Nat→Bool} (h:∀ j,j < n→p j=false):(List.range n).any p=false:=by
 rw [List.any_eq_false]
 intro j hj
 rw [h j (List.mem_range.1 hj)]
 simp
def sigIn:List (Nat × Spec):=[(111,inWS)]
theorem sigInOk:SigOk Tryz.prog (look sigIn):=sigCons sigNil Tryz.func111 (by kernel_rfl) (c:=body Tryz.f111) rfl inWOk
theorem ascOk:SpecSound Tryz.prog 150 ascS:=by
 refine soundP (envOf sigInOk) Tryz.func150 (c:=body Tryz.f150) rfl (by kernel_rfl) rfl ?_
 intro args out hf hpre
 split at hf <;> try (cases hf;done)
 rename_i l lo hi
 cases hf
 refine ⟨Nat.le_of_ble_eq_true rfl,initI (args:=[.sl tInt l,.int .i64 lo,.int .i64 hi]) rfl ?_⟩
 refine factSl (t:=0) (ty:=tInt) rfl (fun hxs=>?_)
 have hmx:List.length (α:=Int) l≤9223372036854775807:=by have:=hxs.1;unfold maxLen at this;exact this
 obtain ⟨r,hr⟩:∃ r,r=ascF l lo hi:=⟨_,rfl⟩
 rw [← hr]
 unfold ascF at hr
 repeat' (first|refine zN ?_|refine zE ?_|refine zP ?_|refine pD ?_|refine zS ?_|refine zR ?_|refine zO ?_|refine zB ?_|refine zX ?_|refine zT ?_|refine skipI rfl ?_)
 refine loopI (σ:=Nat) (fun i=>[(11,.int .i64 i)]) (fun i=>[]) (fun i=>i≤List.length (α:=Int) l∧∀ j,j < i→ascBad lo hi l j=false) (fun i=>List.length (α:=Int) l - i) 0 rfl (fun _=>rfl) rfl ?_ ?_ ?_
 ·exact ⟨Nat.zero_le _,fun j hj=>by omega⟩
 ·repeat' (first|exact trivial|exact rfl|refine ⟨rfl,?_⟩|refine And.intro ?_ ?_)
 rintro i ⟨hil0,hb⟩
 repeat' (first|refine zN ?_|refine zE ?_|refine zP ?_|refine pD ?_|refine zS ?_|refine zR ?_|refine zO ?_|refine zB ?_|refine zX ?_|refine zT ?_|refine skipI rfl ?_)
 refine condI rfl (fun c1=>?_) (fun c1=>?_)
 ·simp only [decide_eq_true_eq] at c1
  have hil:i < List.length (α:=Int) l:=by omega
  have hin:((i:Int)).toNat=i:=by omega
  repeat' (first|refine zN ?_|refine zE ?_|refine zP ?_|refine pD ?_|refine pC (by first|(intro _ h;simp only [decide_eq_true_eq] at h;omega)|(intro _;unfold In64;omega)|omega) ?_|refine zS ?_|refine zR ?_|refine zO ?_|refine zB ?_|refine zX ?_|refine zT ?_|refine skipI rfl ?_)
  refine condI rfl (fun c2=>?_) (fun c2=>?_)
  ·simp only [hin] at c2
   have h9:ascBad lo hi l i=true:=c2
   rw [rng_yes hil h9] at hr
   have hr:r=false:=by rw [hr];rfl
   repeat' (first|refine zN ?_|refine zE ?_|refine zP ?_|refine pD ?_|refine zS ?_|refine zR ?_|refine zO ?_|refine zB ?_|refine zX ?_|refine zT ?_|refine skipI rfl ?_)
   refine endR rfl ?_
   repeat' (first|exact trivial|exact rfl|refine ⟨rfl,?_⟩|refine And.intro ?_ ?_)
   exact hr
  ·simp only [hin] at c2
   have h9:ascBad lo hi l i=false:=c2
   repeat' (first|refine zN ?_|refine zE ?_|refine zP ?_|refine pD ?_|refine zS ?_|refine zR ?_|refine zO ?_|refine zB ?_|refine zX ?_|refine zT ?_|refine skipI rfl ?_)
   refine roundI (i+1) rfl ?_ ?_ ?_
   ·refine ⟨by show i+1≤List.length (α:=Int) l;omega,fun j hj=>?_⟩
    by_cases hji:j=i
    ·subst hji;exact h9
    ·exact hb j (by omega)
   ·show List.length (α:=Int) l - (i+1) < List.length (α:=Int) l - i
    omega
   ·repeat' (first|exact trivial|with_reducible exact rfl|refine And.intro ?_ ?_)
    all_goals rfl
 ·simp only [decide_eq_false_iff_not] at c1
  rw [rng_no (fun j hj=>hb j (by omega))] at hr
  have hr:r=true:=hr
  repeat' (first|refine zN ?_|refine zE ?_|refine zP ?_|refine pD ?_|refine zS ?_|refine zR ?_|refine zO ?_|refine zB ?_|refine zX ?_|refine zT ?_|refine skipI rfl ?_)
  refine endR rfl ?_
  repeat' (first|exact trivial|exact rfl|refine ⟨rfl,?_⟩|refine And.intro ?_ ?_)
  exact hr
def stepF (s:StepT) (n:Int):Bool :=
 (((((((((decide (stBk s=-1)&&decide (stLm s=0))||(inW (stBk s) 0 (n - 1)&&inW (stLm s) 1 9))&&(inW ((stTl s).length:Int) 1 8&&decide (((stNx s).length:Int)≤4)))&&inW (stRc s) 1 1000000)&&ascF (stTl s) 0 59)&&ascF (stNx s) 0 (n - 1))&&decide (1≤stMn s))&&decide (stMn s≤stMx s))&&decide (stMx s≤10000))
def stepS:Spec:=plain fun
 | [.agg [.int .i64 rc,.sl (.int .i64) tl,.int .i64 mn,.int .i64 mx,.sl (.int .i64) nx,.int .i64 bk,.int .i64 lm],.int .i64 n]=>outV (0≤n∧n≤9223372036854775807) (.bool (stepF (rc,tl,mn,mx,nx,bk,lm) n))
 | _=>none
def sigSt:List (Nat × Spec):=[(111,inWS),(150,ascS)]
theorem sigStOk:SigOk Tryz.prog (look sigSt):=sigCons (sigCons sigNil
 Tryz.func150 (by kernel_rfl) (c:=body Tryz.f150) rfl ascOk)
 Tryz.func111 (by kernel_rfl) (c:=body Tryz.f111) rfl inWOk
theorem stepOk:SpecSound Tryz.prog 114 stepS:=by
 refine soundP (envOf sigStOk) Tryz.func114 (c:=body Tryz.f114) rfl (by kernel_rfl) rfl ?_
 intro args out hf hpre
 split at hf <;> try (cases hf;done)
 rename_i rc tl mn mx nx bk lm n
 cases hf
 refine ⟨Nat.le_of_ble_eq_true rfl,initI (args:=[.agg [.int .i64 rc,.sl tInt tl,.int .i64 mn,.int .i64 mx,.sl tInt nx,.int .i64 bk,.int .i64 lm],.int .i64 n]) rfl ?_⟩
 obtain ⟨hn0,hn1⟩:=hpre
 repeat' (first|refine zN ?_|refine zE ?_|refine zP ?_|refine pD ?_|refine pC (by first|(intro _;unfold In64;omega)|(unfold In64;omega)) ?_|refine zS ?_|refine zR ?_|refine zO ?_|refine zB ?_|refine zX ?_|refine zT ?_|refine skipI rfl ?_)
 refine endR rfl ?_
 repeat' (first|exact trivial|exact rfl|refine ⟨rfl,?_⟩|refine And.intro ?_ ?_)
def rwF (w:WinT) (n:Int):Bool:=((inW w.1 0 (n - 1)&&inW w.2.1 0 (n - 1))&&!decide (w.1=w.2.1))&&inW w.2.2 0 1000000
def rwS:Spec:=plain fun
 | [.agg [.int .i64 f,.int .i64 t,.int .i64 l],.int .i64 n]=>outV (0≤n∧n≤9223372036854775807) (.bool (rwF (f,t,l) n))
 | _=>none
theorem rwOk:SpecSound Tryz.prog 115 rwS:=by
 refine soundP (envOf sigInOk) Tryz.func115 (c:=body Tryz.f115) rfl (by kernel_rfl) rfl ?_
 intro args out hf hpre
 split at hf <;> try (cases hf;done)
 rename_i f t l n
 cases hf
 refine ⟨Nat.le_of_ble_eq_true rfl,initI (args:=[.agg [.int .i64 f,.int .i64 t,.int .i64 l],.int .i64 n]) rfl ?_⟩
 obtain ⟨hn0,hn1⟩:=hpre
 repeat' (first|refine zN ?_|refine zE ?_|refine zP ?_|refine pD ?_|refine pC (by first|(intro _;unfold In64;omega)|(unfold In64;omega)) ?_|refine zS ?_|refine zR ?_|refine zO ?_|refine zB ?_|refine zX ?_|refine zT ?_|refine skipI rfl ?_)
 refine endR rfl ?_
 repeat' (first|exact trivial|exact rfl|refine ⟨rfl,?_⟩|refine And.intro ?_ ?_)
 all_goals simp [rwF]
def wLast (l:List WinT):WinT:=getI l tWin.dflt ((l.length:Int) - 1).toNat
def folF (l:List WinT) (w:WinT):Bool:=decide ((l.length:Int)=0)||(decide ((wLast l).1 < w.1)||(decide ((wLast l).1=w.1)&&decide ((wLast l).2.1 < w.2.1)))
def folS:Spec:=plain fun
 | [.sl (.pair (.int .i64) (.pair (.int .i64) (.int .i64))) l,.agg [.int .i64 f,.int .i64 t,.int .i64 m]]=>outV True (.bool (folF l (f,t,m)))
 | _=>none
theorem folOk:SpecSound Tryz.prog 116 folS:=by
 refine soundP (envOf sigNil) Tryz.func116 (c:=body Tryz.f116) rfl (by kernel_rfl) rfl ?_
 intro args out hf hpre
 split at hf <;> try (cases hf;done)
 rename_i l f t m
 cases hf
 refine ⟨Nat.le_of_ble_eq_true rfl,initI (args:=[.sl tWin l,.agg [.int .i64 f,.int .i64 t,.int .i64 m]]) rfl ?_⟩
 refine factSl (t:=0) (ty:=tWin) rfl (fun hxs=>?_)
 have hmx:l.length≤9223372036854775807:=by have:=hxs.1;unfold maxLen at this;exact this
 obtain ⟨r,hr⟩:∃ r,r=folF l (f,t,m):=⟨_,rfl⟩
 rw [← hr]
 unfold folF at hr
 repeat' (first|refine zN ?_|refine zE ?_|refine zP ?_|refine pD ?_|refine zS ?_|refine zR ?_|refine zO ?_|refine zB ?_|refine zX ?_|refine zT ?_|refine skipI rfl ?_)
 refine condI rfl (fun c1=>?_) (fun c1=>?_)
 ·rw [show decide ((l.length:Int)=0)=true from c1] at hr
  repeat' (first|refine zN ?_|refine zE ?_|refine zP ?_|refine pD ?_|refine zS ?_|refine zR ?_|refine zO ?_|refine zB ?_|refine zX ?_|refine zT ?_|refine skipI rfl ?_)
  refine endR rfl ?_
  repeat' (first|exact trivial|exact rfl|refine ⟨rfl,?_⟩|refine And.intro ?_ ?_)
  exact hr
 ·rw [show decide ((l.length:Int)=0)=false from c1] at hr
  simp only [decide_eq_false_iff_not] at c1
  repeat' (first|refine zN ?_|refine zE ?_|refine zP ?_|refine pD ?_|refine pC (by first|omega|(unfold In64;omega)) ?_|refine zS ?_|refine zR ?_|refine zO ?_|refine zB ?_|refine zX ?_|refine zT ?_|refine skipI rfl ?_)
  refine endR rfl ?_
  repeat' (first|exact trivial|exact rfl|refine ⟨rfl,?_⟩|refine And.intro ?_ ?_)
  exact hr
def movF (mn mx:Int):Bool:=(decide (0≤mn)&&decide (mn≤mx))&&decide (mx≤10000)
def movS:Spec:=plain fun
 | [.agg [.int .i64 mn,.int .i64 mx,.sl (.pair (.int .i64) (.pair (.slice (.int .i64)) (.pair (.int .i64) (.pair (.int .i64) (.pair (.slice (.int .i64)) (.pair (.int .i64) (.int .i64))))))) ss,.sl (.pair (.int .i64) (.pair (.int .i64) (.int .i64))) ws]]=>outV True (.bool (movF mn mx))
 | _=>none
theorem movOk:SpecSound Tryz.prog 110 movS:=by
 refine soundP (envOf sigNil) Tryz.func110 (c:=body Tryz.f110) rfl (by kernel_rfl) rfl ?_
 intro args out hf hpre
 split at hf <;> try (cases hf;done)
 rename_i mn mx ss ws
 cases hf
 refine ⟨Nat.le_of_ble_eq_true rfl,initI (args:=[.agg [.int .i64 mn,.int .i64 mx,.sl tStep ss,.sl tWin ws]]) rfl ?_⟩
 repeat' (first|refine zN ?_|refine zE ?_|refine zP ?_|refine pD ?_|refine zS ?_|refine zR ?_|refine zO ?_|refine zB ?_|refine zX ?_|refine zT ?_|refine skipI rfl ?_)
 refine endR rfl ?_
 repeat' (first|exact trivial|exact rfl|refine ⟨rfl,?_⟩|refine And.intro ?_ ?_)
def val1S:Spec:=⟨true,fun args rows=>match args,rows with
 | [.agg [.int .i64 rc,.sl (.int .i64) tl,.int .i64 mn,.int .i64 mx,.sl (.int .i64) nx,.int .i64 bk,.int .i64 lm],.ptr 0 0],[.box [.int .i64 n]]=>some ⟨0≤n∧n≤9223372036854775807,.bool (!stepF (rc,tl,mn,mx,nx,bk,lm) n),[.box [.int .i64 n]],true⟩
 | _,_=>none⟩
def sigV1:List (Nat × Spec):=[(114,stepS)]
theorem sigV1Ok:SigOk Tryz.prog (look sigV1):=sigCons sigNil Tryz.func114 (by kernel_rfl) (c:=body Tryz.f114) rfl stepOk
theorem val1Ok:SpecSound Tryz.prog 113 val1S:=by
 refine soundR (envOf sigV1Ok) Tryz.func113 (c:=body Tryz.f113) rfl (by kernel_rfl) rfl ?_
 intro args rows out hf hpre
 split at hf <;> try (cases hf;done)
 rename_i rc tl mn mx nx bk lm n
 cases hf
 refine ⟨Nat.le_of_ble_eq_true rfl,initI (args:=[.agg [.int .i64 rc,.sl tInt tl,.int .i64 mn,.int .i64 mx,.sl tInt nx,.int .i64 bk,.int .i64 lm],.ptr 0 0]) (rows:=[.box [.int .i64 n]]) rfl ?_⟩
 repeat' (first|refine zN ?_|refine zE ?_|refine zP ?_|refine pD ?_|refine pC (by exact hpre) ?_|refine zS ?_|refine zR ?_|refine zO ?_|refine zB ?_|refine zX ?_|refine zT ?_|refine skipI rfl ?_)
 refine endR rfl ?_
 repeat' (first|exact trivial|exact rfl|refine ⟨rfl,?_⟩|refine And.intro ?_ ?_)
def fidxS:Spec:=⟨true,fun args rows=>match args,rows with
 | [.sl (.pair (.int .i64) (.pair (.slice (.int .i64)) (.pair (.int .i64) (.pair (.int .i64) (.pair (.slice (.int .i64)) (.pair (.int .i64) (.int .i64))))))) xs,.fn 113 [] [.ptr 0 0]],[.box [.int .i64 n]] =>
   some ⟨0≤n∧n≤9223372036854775807,.int .i64 (idxF (fun s=>!stepF s n) xs),[.box [.int .i64 n]],true⟩
 | _,_=>none⟩
def sigFi:List (Nat × Spec):=[(113,val1S)]
theorem sigFiOk:SigOk Tryz.prog (look sigFi):=sigCons sigNil Tryz.func113 (by kernel_rfl) (c:=body Tryz.f113) rfl val1Ok
theorem fidxOk:SpecSound Tryz.prog 149 fidxS:=by
 refine soundR (envOf sigFiOk) Tryz.func149 (c:=body Tryz.f149) rfl (by kernel_rfl) rfl ?_
 intro args rows out hf hpre
 split at hf <;> try (cases hf;done)
 rename_i xs n
 cases hf
 refine ⟨Nat.le_of_ble_eq_true rfl,initI (args:=[.sl tStep xs,.fn 113 [] [.ptr 0 0]]) (rows:=[.box [.int .i64 n]]) rfl ?_⟩
 refine factSl (t:=0) (ty:=tStep) rfl (fun hxs=>?_)
 have hmx:xs.length≤9223372036854775807:=by have:=hxs.1;unfold maxLen at this;exact this
 repeat' (first|refine zN ?_|refine zE ?_|refine zP ?_|refine pD ?_|refine zS ?_|refine zR ?_|refine zO ?_|refine zB ?_|refine zX ?_|refine zT ?_|refine skipI rfl ?_)
 refine loopI (σ:=Nat) (fun i=>[(8,.int .i64 i)]) (fun i=>[]) (fun i=>i≤xs.length∧∀ j,j < i→(!stepF (getI xs tStep.dflt j) n)=false) (fun i=>xs.length - i) 0 rfl (fun _=>rfl) rfl ?_ ?_ ?_
 ·exact ⟨Nat.zero_le _,fun j hj=>by omega⟩
 ·repeat' (first|exact trivial|exact rfl|refine ⟨rfl,?_⟩|refine And.intro ?_ ?_)
 rintro i ⟨hi,hb⟩
 repeat' (first|refine zN ?_|refine zE ?_|refine zP ?_|refine pD ?_|refine zS ?_|refine zR ?_|refine zO ?_|refine zB ?_|refine zX ?_|refine zT ?_|refine skipI rfl ?_)
 refine condI rfl (fun c1=>?_) (fun c1=>?_)
 ·simp only [decide_eq_true_eq] at c1
  have hil:i < xs.length:=by omega
  have hin:((i:Int)).toNat=i:=by omega
  repeat' (first|refine zN ?_|refine zE ?_|refine zP ?_|refine pD ?_|refine pC (by exact hpre) ?_|refine zS ?_|refine zR ?_|refine zO ?_|refine zB ?_|refine zX ?_|refine zT ?_|refine skipI rfl ?_)
  refine condI rfl (fun c2=>?_) (fun c2=>?_)
  ·simp only [hin] at c2
   repeat' (first|refine zN ?_|refine zE ?_|refine zP ?_|refine pD ?_|refine zS ?_|refine zR ?_|refine zO ?_|refine zB ?_|refine zX ?_|refine zT ?_|refine skipI rfl ?_)
   refine endR rfl ?_
   repeat' (first|exact trivial|exact rfl|refine ⟨rfl,?_⟩|refine And.intro ?_ ?_)
   exact idxF_found (p:=fun s=>!stepF s n) (d:=tStep.dflt) hil hb c2
  ·simp only [hin] at c2
   repeat' (first|refine zN ?_|refine zE ?_|refine zP ?_|refine pD ?_|refine zS ?_|refine zR ?_|refine zO ?_|refine zB ?_|refine zX ?_|refine zT ?_|refine skipI rfl ?_)
   refine roundI (i+1) rfl ?_ ?_ ?_
   ·refine ⟨by show i+1≤xs.length;omega,fun j hj=>?_⟩
    by_cases hji:j=i
    ·subst hji;exact c2
    ·exact hb j (by omega)
   ·show xs.length - (i+1) < xs.length - i
    omega
   ·repeat' (first|exact trivial|with_reducible exact rfl|refine And.intro ?_ ?_)
    all_goals rfl
 ·simp only [decide_eq_false_iff_not] at c1
  repeat' (first|refine zN ?_|refine zE ?_|refine zP ?_|refine pD ?_|refine zS ?_|refine zR ?_|refine zO ?_|refine zB ?_|refine zX ?_|refine zT ?_|refine skipI rfl ?_)
  refine endR rfl ?_
  repeat' (first|exact trivial|exact rfl|refine ⟨rfl,?_⟩|refine And.intro ?_ ?_)
  exact idxF_none (p:=fun s=>!stepF s n) (d:=tStep.dflt) fun j hj=>hb j (by omega)
def fanyS:Spec:=⟨true,fun args rows=>match args,rows with
 | [.sl (.pair (.int .i64) (.pair (.slice (.int .i64)) (.pair (.int .i64) (.pair (.int .i64) (.pair (.slice (.int .i64)) (.pair (.int .i64) (.int .i64))))))) xs,.fn 113 [] [.ptr 0 0]],[.box [.int .i64 n]] =>
   some ⟨0≤n∧n≤9223372036854775807,.bool (xs.any fun s=>!stepF s n),[.box [.int .i64 n]],true⟩
 | _,_=>none⟩
def sigFa:List (Nat × Spec):=[(149,fidxS)]
theorem sigFaOk:SigOk Tryz.prog (look sigFa):=sigCons sigNil Tryz.func149 (by kernel_rfl) (c:=body Tryz.f149) rfl fidxOk
theorem idx_any {α:Type} {p:α→Bool}:∀ xs:List α,decide (idxF p xs≥0)=xs.any p
 | []=>by simp [idxF]
 | x::r=>by
   have ih:=idx_any (p:=p) r
   unfold idxF
   rw [List.any_cons]
   cases hp:p x
   ·rw [if_neg (by simp),Bool.false_or,← ih]
    split
    ·rename_i h
     rw [decide_eq_false (by omega),decide_eq_false (by omega)]
    ·rename_i h
     rw [decide_eq_true (by omega),decide_eq_true (by omega)]
   ·simp
theorem fanyOk:SpecSound Tryz.prog 112 fanyS:=by
 refine soundR (envOf sigFaOk) Tryz.func112 (c:=body Tryz.f112) rfl (by kernel_rfl) rfl ?_
 intro args rows out hf hpre
 split at hf <;> try (cases hf;done)
 rename_i xs n
 cases hf
 refine ⟨Nat.le_of_ble_eq_true rfl,initI (args:=[.sl tStep xs,.fn 113 [] [.ptr 0 0]]) (rows:=[.box [.int .i64 n]]) rfl ?_⟩
 repeat' (first|refine zN ?_|refine zE ?_|refine zP ?_|refine pD ?_|refine pC (by exact hpre) ?_|refine zS ?_|refine zR ?_|refine zO ?_|refine zB ?_|refine zX ?_|refine zT ?_|refine skipI rfl ?_)
 refine endR rfl ?_
 repeat' (first|exact trivial|exact rfl|refine ⟨rfl,?_⟩|refine And.intro ?_ ?_)
 all_goals exact (idx_any _).symm
def winsBad (n:Int) (ws:List WinT) (i:Nat):Bool:=!rwF (getI ws tWin.dflt i) n||!folF (ws.take i) (getI ws tWin.dflt i)
def validF (mn mx:Int) (ss:List StepT) (ws:List WinT):Bool :=
 (!((!movF mn mx||!inW (ss.length:Int) 1 40)||decide ((ws.length:Int) > 20))&&!ss.any (fun s=>!stepF s (ss.length:Int)))&&!(List.range ws.length).any (winsBad (ss.length:Int) ws)
def fvalidS:Spec:=plain fun
 | [.agg [.int .i64 mn,.int .i64 mx,.sl (.pair (.int .i64) (.pair (.slice (.int .i64)) (.pair (.int .i64) (.pair (.int .i64) (.pair (.slice (.int .i64)) (.pair (.int .i64) (.int .i64))))))) ss,.sl (.pair (.int .i64) (.pair (.int .i64) (.int .i64))) ws]]=>outV True (.bool (validF mn mx ss ws))
 | _=>none
def sigFv:List (Nat × Spec):=[(110,movS),(111,inWS),(112,fanyS),(115,rwS),(116,folS)]
theorem sigFvOk:SigOk Tryz.prog (look sigFv):=sigCons (sigCons (sigCons (sigCons (sigCons sigNil
 Tryz.func116 (by kernel_rfl) (c:=body Tryz.f116) rfl folOk)
 Tryz.func115 (by kernel_rfl) (c:=body Tryz.f115) rfl rwOk)
 Tryz.func112 (by kernel_rfl) (c:=body Tryz.f112) rfl fanyOk)
 Tryz.func111 (by kernel_rfl) (c:=body Tryz.f111) rfl inWOk)
 Tryz.func110 (by kernel_rfl) (c:=body Tryz.f110) rfl movOk
theorem fvalidOk:SpecSound Tryz.prog 62 fvalidS:=by
 refine soundP (envOf sigFvOk) Tryz.func62 (c:=body Tryz.f62) rfl (by kernel_rfl) rfl ?_
 intro args out hf hpre
 split at hf <;> try (cases hf;done)
 rename_i mn mx ss ws
 cases hf
 refine ⟨Nat.le_of_ble_eq_true rfl,initI (args:=[.agg [.int .i64 mn,.int .i64 mx,.sl tStep ss,.sl tWin ws]]) rfl ?_⟩
 obtain ⟨r,hr⟩:∃ r,r=validF mn mx ss ws:=⟨_,rfl⟩
 rw [← hr]
 unfold validF at hr
 repeat' (first|refine zN ?_|refine zE ?_|refine zP ?_|refine pD ?_|refine zS ?_|refine zR ?_|refine zO ?_|refine zB ?_|refine zX ?_|refine zT ?_|refine skipI rfl ?_)
 refine condI rfl (fun c1=>?_) (fun c1=>?_)
 ·have c1':((!movF mn mx||!inW (ss.length:Int) 1 40)||decide ((ws.length:Int) > 20))=true:=c1
  rw [c1'] at hr
  repeat' (first|refine zN ?_|refine zE ?_|refine zP ?_|refine pD ?_|refine zS ?_|refine zR ?_|refine zO ?_|refine zB ?_|refine zX ?_|refine zT ?_|refine skipI rfl ?_)
  refine endR rfl ?_
  repeat' (first|exact trivial|exact rfl|refine ⟨rfl,?_⟩|refine And.intro ?_ ?_)
  exact hr
 have c1':((!movF mn mx||!inW (ss.length:Int) 1 40)||decide ((ws.length:Int) > 20))=false:=c1
 rw [c1'] at hr
 rw [Bool.or_eq_false_iff,Bool.or_eq_false_iff,Bool.not_eq_false',Bool.not_eq_false',decide_eq_false_iff_not] at c1'
 obtain ⟨⟨hm,hn⟩,hw⟩:=c1'
 unfold inW at hn
 rw [Bool.and_eq_true,decide_eq_true_eq,decide_eq_true_eq] at hn
 obtain ⟨hn1,hn2⟩:=hn
 repeat' (first|refine zN ?_|refine zE ?_|refine zP ?_|refine pD ?_|refine pC (by omega) ?_|refine zS ?_|refine zR ?_|refine zO ?_|refine zB ?_|refine zX ?_|refine zT ?_|refine skipI rfl ?_)
 refine condI rfl (fun c2=>?_) (fun c2=>?_)
 ·rw [show (ss.any fun s=>!stepF s (ss.length:Int))=true from c2] at hr
  repeat' (first|refine zN ?_|refine zE ?_|refine zP ?_|refine pD ?_|refine zS ?_|refine zR ?_|refine zO ?_|refine zB ?_|refine zX ?_|refine zT ?_|refine skipI rfl ?_)
  refine endR rfl ?_
  repeat' (first|exact trivial|exact rfl|refine ⟨rfl,?_⟩|refine And.intro ?_ ?_)
  exact hr
 rw [show (ss.any fun s=>!stepF s (ss.length:Int))=false from c2] at hr
 repeat' (first|refine zN ?_|refine zE ?_|refine zP ?_|refine pD ?_|refine zS ?_|refine zR ?_|refine zO ?_|refine zB ?_|refine zX ?_|refine zT ?_|refine skipI rfl ?_)
 refine loopI (σ:=Nat) (fun i=>[(30,.int .i64 i)]) (fun i=>[]) (fun i=>i≤ws.length∧∀ j,j < i→winsBad (ss.length:Int) ws j=false) (fun i=>ws.length - i) 0 rfl (fun _=>rfl) rfl ?_ ?_ ?_
 ·exact ⟨Nat.zero_le _,fun j hj=>by omega⟩
 ·repeat' (first|exact trivial|exact rfl|refine ⟨rfl,?_⟩|refine And.intro ?_ ?_)
 rintro i ⟨hi,hb⟩
 repeat' (first|refine zN ?_|refine zE ?_|refine zP ?_|refine pD ?_|refine zS ?_|refine zR ?_|refine zO ?_|refine zB ?_|refine zX ?_|refine zT ?_|refine skipI rfl ?_)
 refine condI rfl (fun c3=>?_) (fun c3=>?_)
 ·simp only [decide_eq_true_eq] at c3
  have hil:i < ws.length:=by omega
  have hin:((i:Int)).toNat=i:=by omega
  repeat' (first|refine zN ?_|refine zE ?_|refine zP ?_|refine pD ?_|refine pC (by first|omega|(intro _;omega)) ?_|refine zS ?_|refine zR ?_|refine zO ?_|refine zB ?_|refine zX ?_|refine zT ?_|refine skipI rfl ?_)
  refine condI rfl (fun c4=>?_) (fun c4=>?_)
  ·have h9:winsBad (ss.length:Int) ws i=true:=by simp only [hin] at c4;exact c4
   rw [rng_yes hil h9] at hr
   have hr:r=false:=hr
   repeat' (first|refine zN ?_|refine zE ?_|refine zP ?_|refine pD ?_|refine zS ?_|refine zR ?_|refine zO ?_|refine zB ?_|refine zX ?_|refine zT ?_|refine skipI rfl ?_)
   refine endR rfl ?_
   repeat' (first|exact trivial|exact rfl|refine ⟨rfl,?_⟩|refine And.intro ?_ ?_)
   exact hr
  ·have h9:winsBad (ss.length:Int) ws i=false:=by simp only [hin] at c4;exact c4
   repeat' (first|refine zN ?_|refine zE ?_|refine zP ?_|refine pD ?_|refine zS ?_|refine zR ?_|refine zO ?_|refine zB ?_|refine zX ?_|refine zT ?_|refine skipI rfl ?_)
   refine roundI (i+1) rfl ?_ ?_ ?_
   ·refine ⟨by show i+1≤ws.length;omega,fun j hj=>?_⟩
    by_cases hji:j=i
    ·subst hji;exact h9
    ·exact hb j (by omega)
   ·show ws.length - (i+1) < ws.length - i
    omega
   ·repeat' (first|exact trivial|with_reducible exact rfl|refine And.intro ?_ ?_)
    all_goals rfl
 ·simp only [decide_eq_false_iff_not] at c3
  rw [rng_no (fun j hj=>hb j (by omega))] at hr
  have hr:r=true:=hr
  repeat' (first|refine zN ?_|refine zE ?_|refine zP ?_|refine pD ?_|refine zS ?_|refine zR ?_|refine zO ?_|refine zB ?_|refine zX ?_|refine zT ?_|refine skipI rfl ?_)
  refine endR rfl ?_
  repeat' (first|exact trivial|exact rfl|refine ⟨rfl,?_⟩|refine And.intro ?_ ?_)
  exact hr
end Go.AM.YtkgmmmhokgdcaaaGreat.Fl
end

section
set_option linter.all false
namespace Go.AM.YtkgmmmhokgdcaaaGreat.Fl
open Go.Proofs
set_option maxRecDepth 100000
set_option maxHeartbeats 4000000
abbrev tWay:Ty:=.pair (.int .i64) (.slice (.int .i64))
abbrev WayT:=Int × List Int
def orF (l:List Int):Int:=match l.find? (fun x=>!decide (x=0)) with
 | some x=>x
 | none=>0
def orS:Spec:=plain fun
 | [.sl (.int .i64) l]=>outV True (.int .i64 (orF l))
 | _=>none
theorem orF_step {l:List Int} {i:Nat} (hi:i < l.length):orF (l.drop i)=bif decide (getI l 0 i=0) then orF (l.drop (i+1)) else getI l 0 i:=by
 rw [show l.drop i=getI l 0 i::l.drop (i+1) by rw [List.drop_eq_getElem_cons hi];simp [getI,List.getD,List.getElem?_eq_getElem hi]]
 unfold orF
 rw [List.find?_cons]
 cases decide (getI l 0 i=0) <;> rfl
theorem orOk:SpecSound Tryz.prog 168 orS:=by
 refine soundP (envOf sigNil) Tryz.func168 (c:=body Tryz.f168) rfl (by kernel_rfl) rfl ?_
 intro args out hf hpre
 split at hf <;> try (cases hf;done)
 rename_i l
 cases hf
 refine ⟨Nat.le_of_ble_eq_true rfl,initI (args:=[.sl tInt l]) rfl ?_⟩
 refine factSl (t:=0) (ty:=tInt) rfl (fun hxs=>?_)
 have hmx:List.length (α:=Int) l≤9223372036854775807:=by have:=hxs.1;unfold maxLen at this;exact this
 obtain ⟨r,hr⟩:∃ r,r=orF l:=⟨_,rfl⟩
 rw [← hr]
 repeat' (first|refine zN ?_|refine zE ?_|refine zP ?_|refine pD ?_|refine zS ?_|refine zR ?_|refine zO ?_|refine zB ?_|refine zX ?_|refine zT ?_|refine skipI rfl ?_)
 refine loopI (σ:=Nat) (fun i=>[(8,.int .i64 i)]) (fun i=>[]) (fun i=>i≤List.length (α:=Int) l∧r=orF (List.drop (α:=Int) i l)) (fun i=>List.length (α:=Int) l - i) 0 rfl (fun _=>rfl) rfl ?_ ?_ ?_
 ·exact ⟨Nat.zero_le _,hr⟩
 ·repeat' (first|exact trivial|exact rfl|refine ⟨rfl,?_⟩|refine And.intro ?_ ?_)
 rintro i ⟨hi,hb⟩
 repeat' (first|refine zN ?_|refine zE ?_|refine zP ?_|refine pD ?_|refine zS ?_|refine zR ?_|refine zO ?_|refine zB ?_|refine zX ?_|refine zT ?_|refine skipI rfl ?_)
 refine condI rfl (fun c1=>?_) (fun c1=>?_)
 ·simp only [decide_eq_true_eq] at c1
  have hil:i < List.length (α:=Int) l:=by omega
  have hin:((i:Int)).toNat=i:=by omega
  rw [orF_step hil] at hb
  repeat' (first|refine zN ?_|refine zE ?_|refine zP ?_|refine pD ?_|refine zS ?_|refine zR ?_|refine zO ?_|refine zB ?_|refine zX ?_|refine zT ?_|refine skipI rfl ?_)
  refine condI rfl (fun c2=>?_) (fun c2=>?_)
  ·simp only [hin] at c2
   have h9:decide (getI l 0 i=0)=false:=decide_eq_false (of_decide_eq_true c2)
   rw [h9] at hb
   repeat' (first|refine zN ?_|refine zE ?_|refine zP ?_|refine pD ?_|refine zS ?_|refine zR ?_|refine zO ?_|refine zB ?_|refine zX ?_|refine zT ?_|refine skipI rfl ?_)
   refine endR rfl ?_
   repeat' (first|exact trivial|exact rfl|refine ⟨rfl,?_⟩|refine And.intro ?_ ?_)
   exact hb
  ·simp only [hin] at c2
   have h9:decide (getI l 0 i=0)=true:=decide_eq_true (Decidable.not_not.mp (of_decide_eq_false c2))
   rw [h9] at hb
   repeat' (first|refine zN ?_|refine zE ?_|refine zP ?_|refine pD ?_|refine zS ?_|refine zR ?_|refine zO ?_|refine zB ?_|refine zX ?_|refine zT ?_|refine skipI rfl ?_)
   refine roundI (i+1) rfl ?_ ?_ ?_
   ·exact ⟨by show i+1≤List.length (α:=Int) l;omega,hb⟩
   ·show List.length (α:=Int) l - (i+1) < List.length (α:=Int) l - i
    omega
   ·repeat' (first|exact trivial|with_reducible exact rfl|refine And.intro ?_ ?_)
    all_goals rfl
 ·simp only [decide_eq_false_iff_not] at c1
  rw [List.drop_eq_nil_of_le (by omega)] at hb
  repeat' (first|refine zN ?_|refine zE ?_|refine zP ?_|refine pD ?_|refine zS ?_|refine zR ?_|refine zO ?_|refine zB ?_|refine zX ?_|refine zT ?_|refine skipI rfl ?_)
  refine endR rfl ?_
  repeat' (first|exact trivial|exact rfl|refine ⟨rfl,?_⟩|refine And.intro ?_ ?_)
  exact hb
def lexI:List Int→List Int→Int
 | [],[]=>0
 | [],_::_=>-1
 | _::_,[]=>1
 | a::l,b::r=>bif decide (cmpI a b=0) then lexI l r else cmpI a b
def lexS:Spec:=plain fun
 | [.sl (.int .i64) l,.sl (.int .i64) r]=>outV True (.int .i64 (lexI l r))
 | _=>none
theorem drop_get {l:List Int} {i:Nat} (hi:i < l.length):l.drop i=getI l 0 i::l.drop (i+1):=by
 rw [List.drop_eq_getElem_cons hi];simp [getI,List.getD,List.getElem?_eq_getElem hi]
theorem lexOk:SpecSound Tryz.prog 169 lexS:=by
 refine soundP (envOf sigCmpOk) Tryz.func169 (c:=body Tryz.f169) rfl (by kernel_rfl) rfl ?_
 intro args out hf hpre
 split at hf <;> try (cases hf;done)
 rename_i l m
 cases hf
 refine ⟨Nat.le_of_ble_eq_true rfl,initI (args:=[.sl tInt l,.sl tInt m]) rfl ?_⟩
 refine factSl (t:=0) (ty:=tInt) rfl (fun hxs=>?_)
 have hmx:List.length (α:=Int) l≤9223372036854775807:=by have:=hxs.1;unfold maxLen at this;exact this
 refine factSl (t:=1) (ty:=tInt) rfl (fun hys=>?_)
 have hmy:List.length (α:=Int) m≤9223372036854775807:=by have:=hys.1;unfold maxLen at this;exact this
 obtain ⟨r,hr⟩:∃ r,r=lexI l m:=⟨_,rfl⟩
 rw [← hr]
 repeat' (first|refine zN ?_|refine zE ?_|refine zP ?_|refine pD ?_|refine zS ?_|refine zR ?_|refine zO ?_|refine zB ?_|refine zX ?_|refine zT ?_|refine skipI rfl ?_)
 refine loopI (σ:=Nat) (fun i=>[(11,.int .i64 i)]) (fun i=>[]) (fun i=>(i≤List.length (α:=Int) l∧i≤List.length (α:=Int) m)∧r=lexI (List.drop (α:=Int) i l) (List.drop (α:=Int) i m)) (fun i=>List.length (α:=Int) l - i) 0 rfl (fun _=>rfl) rfl ?_ ?_ ?_
 ·exact ⟨⟨Nat.zero_le _,Nat.zero_le _⟩,hr⟩
 ·repeat' (first|exact trivial|exact rfl|refine ⟨rfl,?_⟩|refine And.intro ?_ ?_)
 rintro i ⟨⟨hi,hi2⟩,hb⟩
 repeat' (first|refine zN ?_|refine zE ?_|refine zP ?_|refine pD ?_|refine zS ?_|refine zR ?_|refine zO ?_|refine zB ?_|refine zX ?_|refine zT ?_|refine skipI rfl ?_)
 refine condI rfl (fun c1=>?_) (fun c1=>?_)
 ·simp only [decide_eq_true_eq] at c1
  have hil:i < List.length (α:=Int) l:=by omega
  have hin:((i:Int)).toNat=i:=by omega
  rw [drop_get hil] at hb
  repeat' (first|refine zN ?_|refine zE ?_|refine zP ?_|refine pD ?_|refine zS ?_|refine zR ?_|refine zO ?_|refine zB ?_|refine zX ?_|refine zT ?_|refine skipI rfl ?_)
  refine condI rfl (fun c2=>?_) (fun c2=>?_)
  ·simp only [decide_eq_true_eq] at c2
   rw [List.drop_eq_nil_of_le (show List.length (α:=Int) m≤i by omega)] at hb
   repeat' (first|refine zN ?_|refine zE ?_|refine zP ?_|refine pD ?_|refine zS ?_|refine zR ?_|refine zO ?_|refine zB ?_|refine zX ?_|refine zT ?_|refine skipI rfl ?_)
   refine endR rfl ?_
   repeat' (first|exact trivial|exact rfl|refine ⟨rfl,?_⟩|refine And.intro ?_ ?_)
   exact hb
  ·simp only [decide_eq_false_iff_not] at c2
   have him:i < List.length (α:=Int) m:=by omega
   rw [drop_get him] at hb
   have hb:r=bif decide (cmpI (getI l 0 i) (getI m 0 i)=0) then lexI (l.drop (i+1)) (m.drop (i+1)) else cmpI (getI l 0 i) (getI m 0 i):=hb
   repeat' (first|refine zN ?_|refine zE ?_|refine zP ?_|refine pD ?_|refine zS ?_|refine zR ?_|refine zO ?_|refine zB ?_|refine zX ?_|refine zT ?_|refine skipI rfl ?_)
   refine condI rfl (fun c3=>?_) (fun c3=>?_)
   ·simp only [hin] at c3
    have h9:decide (cmpI (getI l 0 i) (getI m 0 i)=0)=false:=decide_eq_false (of_decide_eq_true c3)
    rw [h9] at hb
    repeat' (first|refine zN ?_|refine zE ?_|refine zP ?_|refine pD ?_|refine zS ?_|refine zR ?_|refine zO ?_|refine zB ?_|refine zX ?_|refine zT ?_|refine skipI rfl ?_)
    refine endR rfl ?_
    repeat' (first|exact trivial|exact rfl|refine ⟨rfl,?_⟩|refine And.intro ?_ ?_)
    exact hb
   ·simp only [hin] at c3
    have h9:decide (cmpI (getI l 0 i) (getI m 0 i)=0)=true:=decide_eq_true (Decidable.not_not.mp (of_decide_eq_false c3))
    rw [h9] at hb
    repeat' (first|refine zN ?_|refine zE ?_|refine zP ?_|refine pD ?_|refine zS ?_|refine zR ?_|refine zO ?_|refine zB ?_|refine zX ?_|refine zT ?_|refine skipI rfl ?_)
    refine roundI (i+1) rfl ?_ ?_ ?_
    ·exact ⟨⟨by show i+1≤List.length (α:=Int) l;omega,by show i+1≤List.length (α:=Int) m;omega⟩,hb⟩
    ·show List.length (α:=Int) l - (i+1) < List.length (α:=Int) l - i
     omega
    ·repeat' (first|exact trivial|with_reducible exact rfl|refine And.intro ?_ ?_)
     all_goals rfl
 ·simp only [decide_eq_false_iff_not] at c1
  rw [List.drop_eq_nil_of_le (show List.length (α:=Int) l≤i by omega)] at hb
  repeat' (first|refine zN ?_|refine zE ?_|refine zP ?_|refine pD ?_|refine zS ?_|refine zR ?_|refine zO ?_|refine zB ?_|refine zX ?_|refine zT ?_|refine skipI rfl ?_)
  refine condI rfl (fun c2=>?_) (fun c2=>?_)
  ·simp only [decide_eq_true_eq] at c2
   rw [drop_get (show i < List.length (α:=Int) m by omega)] at hb
   repeat' (first|refine zN ?_|refine zE ?_|refine zP ?_|refine pD ?_|refine zS ?_|refine zR ?_|refine zO ?_|refine zB ?_|refine zX ?_|refine zT ?_|refine skipI rfl ?_)
   refine endR rfl ?_
   repeat' (first|exact trivial|exact rfl|refine ⟨rfl,?_⟩|refine And.intro ?_ ?_)
   exact hb
  ·simp only [decide_eq_false_iff_not] at c2
   rw [List.drop_eq_nil_of_le (show List.length (α:=Int) m≤i by omega)] at hb
   repeat' (first|refine zN ?_|refine zE ?_|refine zP ?_|refine pD ?_|refine zS ?_|refine zR ?_|refine zO ?_|refine zB ?_|refine zX ?_|refine zT ?_|refine skipI rfl ?_)
   refine endR rfl ?_
   repeat' (first|exact trivial|exact rfl|refine ⟨rfl,?_⟩|refine And.intro ?_ ?_)
   exact hb
def ordF (v w:WayT):Int:=orF [cmpI v.1 w.1,cmpI v.2.length w.2.length,lexI v.2 w.2]
def ordS:Spec:=plain fun
 | [.agg [.int .i64 t,.sl (.int .i64) l],.agg [.int .i64 u,.sl (.int .i64) m]]=>outV True (.int .i64 (ordF (t,l) (u,m)))
 | _=>none
def sigOrd:List (Nat × Spec):=[(109,cmpS),(169,lexS),(168,orS)]
theorem sigOrdOk:SigOk Tryz.prog (look sigOrd):=sigCons (sigCons (sigCons sigNil
 Tryz.func168 (by kernel_rfl) (c:=body Tryz.f168) rfl orOk)
 Tryz.func169 (by kernel_rfl) (c:=body Tryz.f169) rfl lexOk)
 Tryz.func109 (by kernel_rfl) (c:=body Tryz.f109) rfl cmpOk
theorem ordOk:SpecSound Tryz.prog 161 ordS:=by
 refine soundP (envOf sigOrdOk) Tryz.func161 (c:=body Tryz.f161) rfl (by kernel_rfl) rfl ?_
 intro args out hf hpre
 split at hf <;> try (cases hf;done)
 rename_i t l u m
 cases hf
 refine ⟨Nat.le_of_ble_eq_true rfl,initI (args:=[.agg [.int .i64 t,.sl tInt l],.agg [.int .i64 u,.sl tInt m]]) rfl ?_⟩
 repeat' (first|refine zN ?_|refine zE ?_|refine zP ?_|refine pD ?_|refine zS ?_|refine zR ?_|refine zO ?_|refine zB ?_|refine zX ?_|refine zT ?_|refine skipI rfl ?_)
 refine endR rfl ?_
 repeat' (first|exact trivial|exact rfl|refine ⟨rfl,?_⟩|refine And.intro ?_ ?_)
end Go.AM.YtkgmmmhokgdcaaaGreat.Fl
end
