/- FlA, GrA, GrB, GrC, GrD, GrE, GrF, GrG, GrH, AmMapR. -/
import Derived.Test.YtmohhhbgcehnpaaGreatPw14
import Derived.Test.YtmohhhbgcehnpaaGreatPw25
import Derived.Test.YtmohhhbgcehnpaaGreatPw24
import Derived.Test.YtmohhhbgcehnpaaGreatPw28

section
set_option linter.all false
namespace Go.AM.YtmohhhbgcehnpaaGreat.Fl
open Go.Proofs
set_option maxRecDepth 100000
set_option maxHeartbeats 4000000
abbrev tInt:Ty:=.int .i64
abbrev tStep:Ty:=.pair (.int .i64) (.pair (.slice (.int .i64)) (.pair (.int .i64) (.pair (.int .i64) (.pair (.slice (.int .i64)) (.pair (.int .i64) (.int .i64))))))
abbrev tWin:Ty:=.pair (.int .i64) (.pair (.int .i64) (.int .i64))
abbrev StepT:=Int × List Int × Int × Int × List Int × Int × Int
abbrev WinT:=Int × Int × Int
def stRc (s:StepT):Int:=s.1
def stTl (s:StepT):List Int:=s.2.1
def stMn (s:StepT):Int:=s.2.2.1
def stMx (s:StepT):Int:=s.2.2.2.1
def stNx (s:StepT):List Int:=s.2.2.2.2.1
def stBk (s:StepT):Int:=s.2.2.2.2.2.1
def stLm (s:StepT):Int:=s.2.2.2.2.2.2
theorem fl_mem {α:Type} {l:List α} {d:α} {i:Nat} (h:i < l.length):getI l d i∈l:=by
 rw [show getI l d i=l[i] by simp [getI,List.getD,List.getElem?_eq_getElem h]]
 exact List.getElem_mem h
def inW (n lo hi:Int):Bool:=decide (n≥lo)&&decide (n≤hi)
def inWS:Spec:=plain fun
 | [.int .i64 n,.int .i64 lo,.int .i64 hi]=>outV True (.bool (inW n lo hi))
 | _=>none
theorem inWOk:SpecSound Tryz.prog 112 inWS:=by
 refine soundP (envOf sigNil) Tryz.func112 (c:=body Tryz.f112) rfl (by kernel_rfl) rfl ?_
 intro args out hf hpre
 split at hf <;> try (cases hf;done)
 rename_i n lo hi
 cases hf
 refine ⟨Nat.le_of_ble_eq_true rfl,initI (args:=[.int .i64 n,.int .i64 lo,.int .i64 hi]) rfl ?_⟩
 repeat' (first|refine zN ?_|refine zE ?_|refine zP ?_|refine pD ?_|refine zS ?_|refine zR ?_|refine zO ?_|refine zB ?_|refine zX ?_|refine zT ?_|refine skipI rfl ?_)
 refine endR rfl ?_
 repeat' (first|exact trivial|exact rfl|refine ⟨rfl,?_⟩|refine And.intro ?_ ?_)
def ascBad (lo hi:Int) (l:List Int) (i:Nat):Bool:=!inW (getI l 0 i) lo hi||(decide ((i:Int) > 0)&&decide (getI l 0 i≤getI l 0 ((i:Int) - 1).toNat))
def ascF (l:List Int) (lo hi:Int):Bool:=!(List.range l.length).any (ascBad lo hi l)
def ascS:Spec:=plain fun
 | [.sl (.int .i64) l,.int .i64 lo,.int .i64 hi]=>outV True (.bool (ascF l lo hi))
 | _=>none
theorem rng_yes {n:Nat} {p:Nat→Bool} {i:Nat} (hi:i < n) (h:p i=true):(List.range n).any p=true:=List.any_eq_true.2 ⟨i,List.mem_range.2 hi,h⟩
theorem rng_no {n:Nat} {p:Nat→Bool} (h:∀ j,j < n→p j=false):(List.range n).any p=false:=by
 rw [List.any_eq_false]
 intro j hj
 rw [h j (List.mem_range.1 hj)]
 simp
def sigIn:List (Nat × Spec):=[(112,inWS)]
theorem sigInOk:SigOk Tryz.prog (look sigIn):=sigCons sigNil Tryz.func112 (by kernel_rfl) (c:=body Tryz.f112) rfl inWOk
theorem ascOk:SpecSound Tryz.prog 139 ascS:=by
 refine soundP (envOf sigInOk) Tryz.func139 (c:=body Tryz.f139) rfl (by kernel_rfl) rfl ?_
 intro args out hf hpre
 split at hf <;> try (cases hf;done)
 rename_i l lo hi
 cases hf
 refine ⟨Nat.le_of_ble_eq_true rfl,initI (args:=[.sl tInt l,.int .i64 lo,.int .i64 hi]) rfl ?_⟩
 refine factSl (t:=0) (ty:=tInt) rfl (fun hxs=>?_)
 have hmx:List.length (α:=Int) l≤9223372036854775807:=by have:=hxs.1;unfold maxLen at this;exact this
 obtain ⟨r,hr⟩:∃ r,r=ascF l lo hi:=⟨_,rfl⟩
 rw [← hr]
 unfold ascF at hr
 repeat' (first|refine zN ?_|refine zE ?_|refine zP ?_|refine pD ?_|refine zS ?_|refine zR ?_|refine zO ?_|refine zB ?_|refine zX ?_|refine zT ?_|refine skipI rfl ?_)
 refine loopI (σ:=Nat) (fun i=>[(11,.int .i64 i)]) (fun i=>[]) (fun i=>i≤List.length (α:=Int) l∧∀ j,j < i→ascBad lo hi l j=false) (fun i=>List.length (α:=Int) l - i) 0 rfl (fun _=>rfl) rfl ?_ ?_ ?_
 ·exact ⟨Nat.zero_le _,fun j hj=>by omega⟩
 ·repeat' (first|exact trivial|exact rfl|refine ⟨rfl,?_⟩|refine And.intro ?_ ?_)
 rintro i ⟨hil0,hb⟩
 repeat' (first|refine zN ?_|refine zE ?_|refine zP ?_|refine pD ?_|refine zS ?_|refine zR ?_|refine zO ?_|refine zB ?_|refine zX ?_|refine zT ?_|refine skipI rfl ?_)
 refine condI rfl (fun c1=>?_) (fun c1=>?_)
 ·simp only [decide_eq_true_eq] at c1
  have hil:i < List.length (α:=Int) l:=by omega
  have hin:((i:Int)).toNat=i:=by omega
  repeat' (first|refine zN ?_|refine zE ?_|refine zP ?_|refine pD ?_|refine pC (by first|(intro _ h;simp only [decide_eq_true_eq] at h;omega)|(intro _;unfold In64;omega)|omega) ?_|refine zS ?_|refine zR ?_|refine zO ?_|refine zB ?_|refine zX ?_|refine zT ?_|refine skipI rfl ?_)
  refine condI rfl (fun c2=>?_) (fun c2=>?_)
  ·simp only [hin] at c2
   have h9:ascBad lo hi l i=true:=c2
   rw [rng_yes hil h9] at hr
   have hr:r=false:=by rw [hr];rfl
   repeat' (first|refine zN ?_|refine zE ?_|refine zP ?_|refine pD ?_|refine zS ?_|refine zR ?_|refine zO ?_|refine zB ?_|refine zX ?_|refine zT ?_|refine skipI rfl ?_)
   refine endR rfl ?_
   repeat' (first|exact trivial|exact rfl|refine ⟨rfl,?_⟩|refine And.intro ?_ ?_)
   exact hr
  ·simp only [hin] at c2
   have h9:ascBad lo hi l i=false:=c2
   repeat' (first|refine zN ?_|refine zE ?_|refine zP ?_|refine pD ?_|refine zS ?_|refine zR ?_|refine zO ?_|refine zB ?_|refine zX ?_|refine zT ?_|refine skipI rfl ?_)
   refine roundI (i+1) rfl ?_ ?_ ?_
   ·refine ⟨by show i+1≤List.length (α:=Int) l;omega,fun j hj=>?_⟩
    by_cases hji:j=i
    ·subst hji;exact h9
    ·exact hb j (by omega)
   ·show List.length (α:=Int) l - (i+1) < List.length (α:=Int) l - i
    omega
   ·repeat' (first|exact trivial|with_reducible exact rfl|refine And.intro ?_ ?_)
    all_goals rfl
 ·simp only [decide_eq_false_iff_not] at c1
  rw [rng_no (fun j hj=>hb j (by omega))] at hr
  have hr:r=true:=hr
  repeat' (first|refine zN ?_|refine zE ?_|refine zP ?_|refine pD ?_|refine zS ?_|refine zR ?_|refine zO ?_|refine zB ?_|refine zX ?_|refine zT ?_|refine skipI rfl ?_)
  refine endR rfl ?_
  repeat' (first|exact trivial|exact rfl|refine ⟨rfl,?_⟩|refine And.intro ?_ ?_)
  exact hr
def stepF (s:StepT) (n:Int):Bool :=
 (((((((((decide (stBk s=-1)&&decide (stLm s=0))||(inW (stBk s) 0 (n - 1)&&inW (stLm s) 1 9))&&(inW ((stTl s).length:Int) 1 8&&decide (((stNx s).length:Int)≤4)))&&inW (stRc s) 1 1000000)&&ascF (stTl s) 0 59)&&ascF (stNx s) 0 (n - 1))&&decide (1≤stMn s))&&decide (stMn s≤stMx s))&&decide (stMx s≤10000))
def stepS:Spec:=plain fun
 | [.agg [.int .i64 rc,.sl (.int .i64) tl,.int .i64 mn,.int .i64 mx,.sl (.int .i64) nx,.int .i64 bk,.int .i64 lm],.int .i64 n]=>outV (0≤n∧n≤9223372036854775807) (.bool (stepF (rc,tl,mn,mx,nx,bk,lm) n))
 | _=>none
def sigSt:List (Nat × Spec):=[(112,inWS),(139,ascS)]
theorem sigStOk:SigOk Tryz.prog (look sigSt):=sigCons (sigCons sigNil
 Tryz.func139 (by kernel_rfl) (c:=body Tryz.f139) rfl ascOk)
 Tryz.func112 (by kernel_rfl) (c:=body Tryz.f112) rfl inWOk
theorem stepOk:SpecSound Tryz.prog 115 stepS:=by
 refine soundP (envOf sigStOk) Tryz.func115 (c:=body Tryz.f115) rfl (by kernel_rfl) rfl ?_
 intro args out hf hpre
 split at hf <;> try (cases hf;done)
 rename_i rc tl mn mx nx bk lm n
 cases hf
 refine ⟨Nat.le_of_ble_eq_true rfl,initI (args:=[.agg [.int .i64 rc,.sl tInt tl,.int .i64 mn,.int .i64 mx,.sl tInt nx,.int .i64 bk,.int .i64 lm],.int .i64 n]) rfl ?_⟩
 obtain ⟨hn0,hn1⟩:=hpre
 repeat' (first|refine zN ?_|refine zE ?_|refine zP ?_|refine pD ?_|refine pC (by first|(intro _;unfold In64;omega)|(unfold In64;omega)) ?_|refine zS ?_|refine zR ?_|refine zO ?_|refine zB ?_|refine zX ?_|refine zT ?_|refine skipI rfl ?_)
 refine endR rfl ?_
 repeat' (first|exact trivial|exact rfl|refine ⟨rfl,?_⟩|refine And.intro ?_ ?_)
def rwF (w:WinT) (n:Int):Bool:=((inW w.1 0 (n - 1)&&inW w.2.1 0 (n - 1))&&!decide (w.1=w.2.1))&&inW w.2.2 0 1000000
def rwS:Spec:=plain fun
 | [.agg [.int .i64 f,.int .i64 t,.int .i64 l],.int .i64 n]=>outV (0≤n∧n≤9223372036854775807) (.bool (rwF (f,t,l) n))
 | _=>none
theorem rwOk:SpecSound Tryz.prog 116 rwS:=by
 refine soundP (envOf sigInOk) Tryz.func116 (c:=body Tryz.f116) rfl (by kernel_rfl) rfl ?_
 intro args out hf hpre
 split at hf <;> try (cases hf;done)
 rename_i f t l n
 cases hf
 refine ⟨Nat.le_of_ble_eq_true rfl,initI (args:=[.agg [.int .i64 f,.int .i64 t,.int .i64 l],.int .i64 n]) rfl ?_⟩
 obtain ⟨hn0,hn1⟩:=hpre
 repeat' (first|refine zN ?_|refine zE ?_|refine zP ?_|refine pD ?_|refine pC (by first|(intro _;unfold In64;omega)|(unfold In64;omega)) ?_|refine zS ?_|refine zR ?_|refine zO ?_|refine zB ?_|refine zX ?_|refine zT ?_|refine skipI rfl ?_)
 refine endR rfl ?_
 repeat' (first|exact trivial|exact rfl|refine ⟨rfl,?_⟩|refine And.intro ?_ ?_)
 all_goals simp [rwF]
def wLast (l:List WinT):WinT:=getI l tWin.dflt ((l.length:Int) - 1).toNat
def folF (l:List WinT) (w:WinT):Bool:=decide ((l.length:Int)=0)||(decide ((wLast l).1 < w.1)||(decide ((wLast l).1=w.1)&&decide ((wLast l).2.1 < w.2.1)))
def folS:Spec:=plain fun
 | [.sl (.pair (.int .i64) (.pair (.int .i64) (.int .i64))) l,.agg [.int .i64 f,.int .i64 t,.int .i64 m]]=>outV True (.bool (folF l (f,t,m)))
 | _=>none
theorem folOk:SpecSound Tryz.prog 117 folS:=by
 refine soundP (envOf sigNil) Tryz.func117 (c:=body Tryz.f117) rfl (by kernel_rfl) rfl ?_
 intro args out hf hpre
 split at hf <;> try (cases hf;done)
 rename_i l f t m
 cases hf
 refine ⟨Nat.le_of_ble_eq_true rfl,initI (args:=[.sl tWin l,.agg [.int .i64 f,.int .i64 t,.int .i64 m]]) rfl ?_⟩
 refine factSl (t:=0) (ty:=tWin) rfl (fun hxs=>?_)
 have hmx:l.length≤9223372036854775807:=by have:=hxs.1;unfold maxLen at this;exact this
 obtain ⟨r,hr⟩:∃ r,r=folF l (f,t,m):=⟨_,rfl⟩
 rw [← hr]
 unfold folF at hr
 repeat' (first|refine zN ?_|refine zE ?_|refine zP ?_|refine pD ?_|refine zS ?_|refine zR ?_|refine zO ?_|refine zB ?_|refine zX ?_|refine zT ?_|refine skipI rfl ?_)
 refine condI rfl (fun c1=>?_) (fun c1=>?_)
 ·rw [show decide ((l.length:Int)=0)=true from c1] at hr
  repeat' (first|refine zN ?_|refine zE ?_|refine zP ?_|refine pD ?_|refine zS ?_|refine zR ?_|refine zO ?_|refine zB ?_|refine zX ?_|refine zT ?_|refine skipI rfl ?_)
  refine endR rfl ?_
  repeat' (first|exact trivial|exact rfl|refine ⟨rfl,?_⟩|refine And.intro ?_ ?_)
  exact hr
 ·rw [show decide ((l.length:Int)=0)=false from c1] at hr
  simp only [decide_eq_false_iff_not] at c1
  repeat' (first|refine zN ?_|refine zE ?_|refine zP ?_|refine pD ?_|refine pC (by first|omega|(unfold In64;omega)) ?_|refine zS ?_|refine zR ?_|refine zO ?_|refine zB ?_|refine zX ?_|refine zT ?_|refine skipI rfl ?_)
  refine endR rfl ?_
  repeat' (first|exact trivial|exact rfl|refine ⟨rfl,?_⟩|refine And.intro ?_ ?_)
  exact hr
def movF (mn mx:Int):Bool:=(decide (0≤mn)&&decide (mn≤mx))&&decide (mx≤10000)
def movS:Spec:=plain fun
 | [.agg [.int .i64 mn,.int .i64 mx,.sl (.pair (.int .i64) (.pair (.slice (.int .i64)) (.pair (.int .i64) (.pair (.int .i64) (.pair (.slice (.int .i64)) (.pair (.int .i64) (.int .i64))))))) ss,.sl (.pair (.int .i64) (.pair (.int .i64) (.int .i64))) ws]]=>outV True (.bool (movF mn mx))
 | _=>none
theorem movOk:SpecSound Tryz.prog 111 movS:=by
 refine soundP (envOf sigNil) Tryz.func111 (c:=body Tryz.f111) rfl (by kernel_rfl) rfl ?_
 intro args out hf hpre
 split at hf <;> try (cases hf;done)
 rename_i mn mx ss ws
 cases hf
 refine ⟨Nat.le_of_ble_eq_true rfl,initI (args:=[.agg [.int .i64 mn,.int .i64 mx,.sl tStep ss,.sl tWin ws]]) rfl ?_⟩
 repeat' (first|refine zN ?_|refine zE ?_|refine zP ?_|refine pD ?_|refine zS ?_|refine zR ?_|refine zO ?_|refine zB ?_|refine zX ?_|refine zT ?_|refine skipI rfl ?_)
 refine endR rfl ?_
 repeat' (first|exact trivial|exact rfl|refine ⟨rfl,?_⟩|refine And.intro ?_ ?_)
def val1S:Spec:=⟨true,fun args rows=>match args,rows with
 | [.agg [.int .i64 rc,.sl (.int .i64) tl,.int .i64 mn,.int .i64 mx,.sl (.int .i64) nx,.int .i64 bk,.int .i64 lm],.ptr 0 0],[.box [.int .i64 n]]=>some ⟨0≤n∧n≤9223372036854775807,.bool (!stepF (rc,tl,mn,mx,nx,bk,lm) n),[.box [.int .i64 n]],true⟩
 | _,_=>none⟩
def sigV1:List (Nat × Spec):=[(115,stepS)]
theorem sigV1Ok:SigOk Tryz.prog (look sigV1):=sigCons sigNil Tryz.func115 (by kernel_rfl) (c:=body Tryz.f115) rfl stepOk
theorem val1Ok:SpecSound Tryz.prog 114 val1S:=by
 refine soundR (envOf sigV1Ok) Tryz.func114 (c:=body Tryz.f114) rfl (by kernel_rfl) rfl ?_
 intro args rows out hf hpre
 split at hf <;> try (cases hf;done)
 rename_i rc tl mn mx nx bk lm n
 cases hf
 refine ⟨Nat.le_of_ble_eq_true rfl,initI (args:=[.agg [.int .i64 rc,.sl tInt tl,.int .i64 mn,.int .i64 mx,.sl tInt nx,.int .i64 bk,.int .i64 lm],.ptr 0 0]) (rows:=[.box [.int .i64 n]]) rfl ?_⟩
 repeat' (first|refine zN ?_|refine zE ?_|refine zP ?_|refine pD ?_|refine pC (by exact hpre) ?_|refine zS ?_|refine zR ?_|refine zO ?_|refine zB ?_|refine zX ?_|refine zT ?_|refine skipI rfl ?_)
 refine endR rfl ?_
 repeat' (first|exact trivial|exact rfl|refine ⟨rfl,?_⟩|refine And.intro ?_ ?_)
def fidxS:Spec:=⟨true,fun args rows=>match args,rows with
 | [.sl (.pair (.int .i64) (.pair (.slice (.int .i64)) (.pair (.int .i64) (.pair (.int .i64) (.pair (.slice (.int .i64)) (.pair (.int .i64) (.int .i64))))))) xs,.fn 114 [] [.ptr 0 0]],[.box [.int .i64 n]] =>
   some ⟨0≤n∧n≤9223372036854775807,.int .i64 (idxF (fun s=>!stepF s n) xs),[.box [.int .i64 n]],true⟩
 | _,_=>none⟩
def sigFi:List (Nat × Spec):=[(114,val1S)]
theorem sigFiOk:SigOk Tryz.prog (look sigFi):=sigCons sigNil Tryz.func114 (by kernel_rfl) (c:=body Tryz.f114) rfl val1Ok
theorem fidxOk:SpecSound Tryz.prog 138 fidxS:=by
 refine soundR (envOf sigFiOk) Tryz.func138 (c:=body Tryz.f138) rfl (by kernel_rfl) rfl ?_
 intro args rows out hf hpre
 split at hf <;> try (cases hf;done)
 rename_i xs n
 cases hf
 refine ⟨Nat.le_of_ble_eq_true rfl,initI (args:=[.sl tStep xs,.fn 114 [] [.ptr 0 0]]) (rows:=[.box [.int .i64 n]]) rfl ?_⟩
 refine factSl (t:=0) (ty:=tStep) rfl (fun hxs=>?_)
 have hmx:xs.length≤9223372036854775807:=by have:=hxs.1;unfold maxLen at this;exact this
 repeat' (first|refine zN ?_|refine zE ?_|refine zP ?_|refine pD ?_|refine zS ?_|refine zR ?_|refine zO ?_|refine zB ?_|refine zX ?_|refine zT ?_|refine skipI rfl ?_)
 refine loopI (σ:=Nat) (fun i=>[(8,.int .i64 i)]) (fun i=>[]) (fun i=>i≤xs.length∧∀ j,j < i→(!stepF (getI xs tStep.dflt j) n)=false) (fun i=>xs.length - i) 0 rfl (fun _=>rfl) rfl ?_ ?_ ?_
 ·exact ⟨Nat.zero_le _,fun j hj=>by omega⟩
 ·repeat' (first|exact trivial|exact rfl|refine ⟨rfl,?_⟩|refine And.intro ?_ ?_)
 rintro i ⟨hi,hb⟩
 repeat' (first|refine zN ?_|refine zE ?_|refine zP ?_|refine pD ?_|refine zS ?_|refine zR ?_|refine zO ?_|refine zB ?_|refine zX ?_|refine zT ?_|refine skipI rfl ?_)
 refine condI rfl (fun c1=>?_) (fun c1=>?_)
 ·simp only [decide_eq_true_eq] at c1
  have hil:i < xs.length:=by omega
  have hin:((i:Int)).toNat=i:=by omega
  repeat' (first|refine zN ?_|refine zE ?_|refine zP ?_|refine pD ?_|refine pC (by exact hpre) ?_|refine zS ?_|refine zR ?_|refine zO ?_|refine zB ?_|refine zX ?_|refine zT ?_|refine skipI rfl ?_)
  refine condI rfl (fun c2=>?_) (fun c2=>?_)
  ·simp only [hin] at c2
   repeat' (first|refine zN ?_|refine zE ?_|refine zP ?_|refine pD ?_|refine zS ?_|refine zR ?_|refine zO ?_|refine zB ?_|refine zX ?_|refine zT ?_|refine skipI rfl ?_)
   refine endR rfl ?_
   repeat' (first|exact trivial|exact rfl|refine ⟨rfl,?_⟩|refine And.intro ?_ ?_)
   exact idxF_found (p:=fun s=>!stepF s n) (d:=tStep.dflt) hil hb c2
  ·simp only [hin] at c2
   repeat' (first|refine zN ?_|refine zE ?_|refine zP ?_|refine pD ?_|refine zS ?_|refine zR ?_|refine zO ?_|refine zB ?_|refine zX ?_|refine zT ?_|refine skipI rfl ?_)
   refine roundI (i+1) rfl ?_ ?_ ?_
   ·refine ⟨by show i+1≤xs.length;omega,fun j hj=>?_⟩
    by_cases hji:j=i
    ·subst hji;exact c2
    ·exact hb j (by omega)
   ·show xs.length - (i+1) < xs.length - i
    omega
   ·repeat' (first|exact trivial|with_reducible exact rfl|refine And.intro ?_ ?_)
    all_goals rfl
 ·simp only [decide_eq_false_iff_not] at c1
  repeat' (first|refine zN ?_|refine zE ?_|refine zP ?_|refine pD ?_|refine zS ?_|refine zR ?_|refine zO ?_|refine zB ?_|refine zX ?_|refine zT ?_|refine skipI rfl ?_)
  refine endR rfl ?_
  repeat' (first|exact trivial|exact rfl|refine ⟨rfl,?_⟩|refine And.intro ?_ ?_)
  exact idxF_none (p:=fun s=>!stepF s n) (d:=tStep.dflt) fun j hj=>hb j (by omega)
def fanyS:Spec:=⟨true,fun args rows=>match args,rows with
 | [.sl (.pair (.int .i64) (.pair (.slice (.int .i64)) (.pair (.int .i64) (.pair (.int .i64) (.pair (.slice (.int .i64)) (.pair (.int .i64) (.int .i64))))))) xs,.fn 114 [] [.ptr 0 0]],[.box [.int .i64 n]] =>
   some ⟨0≤n∧n≤9223372036854775807,.bool (xs.any fun s=>!stepF s n),[.box [.int .i64 n]],true⟩
 | _,_=>none⟩
def sigFa:List (Nat × Spec):=[(138,fidxS)]
theorem sigFaOk:SigOk Tryz.prog (look sigFa):=sigCons sigNil Tryz.func138 (by kernel_rfl) (c:=body Tryz.f138) rfl fidxOk
theorem idx_any {α:Type} {p:α→Bool}:∀ xs:List α,decide (idxF p xs≥0)=xs.any p
 | []=>by simp [idxF]
 | x::r=>by
   have ih:=idx_any (p:=p) r
   unfold idxF
   rw [List.any_cons]
   cases hp:p x
   ·rw [if_neg (by simp),Bool.false_or,← ih]
    split
    ·rename_i h
     rw [decide_eq_false (by omega),decide_eq_false (by omega)]
    ·rename_i h
     rw [decide_eq_true (by omega),decide_eq_true (by omega)]
   ·simp
theorem fanyOk:SpecSound Tryz.prog 113 fanyS:=by
 refine soundR (envOf sigFaOk) Tryz.func113 (c:=body Tryz.f113) rfl (by kernel_rfl) rfl ?_
 intro args rows out hf hpre
 split at hf <;> try (cases hf;done)
 rename_i xs n
 cases hf
 refine ⟨Nat.le_of_ble_eq_true rfl,initI (args:=[.sl tStep xs,.fn 114 [] [.ptr 0 0]]) (rows:=[.box [.int .i64 n]]) rfl ?_⟩
 repeat' (first|refine zN ?_|refine zE ?_|refine zP ?_|refine pD ?_|refine pC (by exact hpre) ?_|refine zS ?_|refine zR ?_|refine zO ?_|refine zB ?_|refine zX ?_|refine zT ?_|refine skipI rfl ?_)
 refine endR rfl ?_
 repeat' (first|exact trivial|exact rfl|refine ⟨rfl,?_⟩|refine And.intro ?_ ?_)
 all_goals exact (idx_any _).symm
def winsBad (n:Int) (ws:List WinT) (i:Nat):Bool:=!rwF (getI ws tWin.dflt i) n||!folF (ws.take i) (getI ws tWin.dflt i)
def validF (mn mx:Int) (ss:List StepT) (ws:List WinT):Bool :=
 (!((!movF mn mx||!inW (ss.length:Int) 1 40)||decide ((ws.length:Int) > 20))&&!ss.any (fun s=>!stepF s (ss.length:Int)))&&!(List.range ws.length).any (winsBad (ss.length:Int) ws)
def fvalidS:Spec:=plain fun
 | [.agg [.int .i64 mn,.int .i64 mx,.sl (.pair (.int .i64) (.pair (.slice (.int .i64)) (.pair (.int .i64) (.pair (.int .i64) (.pair (.slice (.int .i64)) (.pair (.int .i64) (.int .i64))))))) ss,.sl (.pair (.int .i64) (.pair (.int .i64) (.int .i64))) ws]]=>outV True (.bool (validF mn mx ss ws))
 | _=>none
def sigFv:List (Nat × Spec):=[(111,movS),(112,inWS),(113,fanyS),(116,rwS),(117,folS)]
theorem sigFvOk:SigOk Tryz.prog (look sigFv):=sigCons (sigCons (sigCons (sigCons (sigCons sigNil
 Tryz.func117 (by kernel_rfl) (c:=body Tryz.f117) rfl folOk)
 Tryz.func116 (by kernel_rfl) (c:=body Tryz.f116) rfl rwOk)
 Tryz.func113 (by kernel_rfl) (c:=body Tryz.f113) rfl fanyOk)
 Tryz.func112 (by kernel_rfl) (c:=body Tryz.f112) rfl inWOk)
 Tryz.func111 (by kernel_rfl) (c:=body Tryz.f111) rfl movOk
theorem fvalidOk:SpecSound Tryz.prog 74 fvalidS:=by
 refine soundP (envOf sigFvOk) Tryz.func74 (c:=body Tryz.f74) rfl (by kernel_rfl) rfl ?_
 intro args out hf hpre
 split at hf <;> try (cases hf;done)
 rename_i mn mx ss ws
 cases hf
 refine ⟨Nat.le_of_ble_eq_true rfl,initI (args:=[.agg [.int .i64 mn,.int .i64 mx,.sl tStep ss,.sl tWin ws]]) rfl ?_⟩
 obtain ⟨r,hr⟩:∃ r,r=validF mn mx ss ws:=⟨_,rfl⟩
 rw [← hr]
 unfold validF at hr
 repeat' (first|refine zN ?_|refine zE ?_|refine zP ?_|refine pD ?_|refine zS ?_|refine zR ?_|refine zO ?_|refine zB ?_|refine zX ?_|refine zT ?_|refine skipI rfl ?_)
 refine condI rfl (fun c1=>?_) (fun c1=>?_)
 ·have c1':((!movF mn mx||!inW (ss.length:Int) 1 40)||decide ((ws.length:Int) > 20))=true:=c1
  rw [c1'] at hr
  repeat' (first|refine zN ?_|refine zE ?_|refine zP ?_|refine pD ?_|refine zS ?_|refine zR ?_|refine zO ?_|refine zB ?_|refine zX ?_|refine zT ?_|refine skipI rfl ?_)
  refine endR rfl ?_
  repeat' (first|exact trivial|exact rfl|refine ⟨rfl,?_⟩|refine And.intro ?_ ?_)
  exact hr
 have c1':((!movF mn mx||!inW (ss.length:Int) 1 40)||decide ((ws.length:Int) > 20))=false:=c1
 rw [c1'] at hr
 rw [Bool.or_eq_false_iff,Bool.or_eq_false_iff,Bool.not_eq_false',Bool.not_eq_false',decide_eq_false_iff_not] at c1'
 obtain ⟨⟨hm,hn⟩,hw⟩:=c1'
 unfold inW at hn
 rw [Bool.and_eq_true,decide_eq_true_eq,decide_eq_true_eq] at hn
 obtain ⟨hn1,hn2⟩:=hn
 repeat' (first|refine zN ?_|refine zE ?_|refine zP ?_|refine pD ?_|refine pC (by omega) ?_|refine zS ?_|refine zR ?_|refine zO ?_|refine zB ?_|refine zX ?_|refine zT ?_|refine skipI rfl ?_)
 refine condI rfl (fun c2=>?_) (fun c2=>?_)
 ·rw [show (ss.any fun s=>!stepF s (ss.length:Int))=true from c2] at hr
  repeat' (first|refine zN ?_|refine zE ?_|refine zP ?_|refine pD ?_|refine zS ?_|refine zR ?_|refine zO ?_|refine zB ?_|refine zX ?_|refine zT ?_|refine skipI rfl ?_)
  refine endR rfl ?_
  repeat' (first|exact trivial|exact rfl|refine ⟨rfl,?_⟩|refine And.intro ?_ ?_)
  exact hr
 rw [show (ss.any fun s=>!stepF s (ss.length:Int))=false from c2] at hr
 repeat' (first|refine zN ?_|refine zE ?_|refine zP ?_|refine pD ?_|refine zS ?_|refine zR ?_|refine zO ?_|refine zB ?_|refine zX ?_|refine zT ?_|refine skipI rfl ?_)
 refine loopI (σ:=Nat) (fun i=>[(30,.int .i64 i)]) (fun i=>[]) (fun i=>i≤ws.length∧∀ j,j < i→winsBad (ss.length:Int) ws j=false) (fun i=>ws.length - i) 0 rfl (fun _=>rfl) rfl ?_ ?_ ?_
 ·exact ⟨Nat.zero_le _,fun j hj=>by omega⟩
 ·repeat' (first|exact trivial|exact rfl|refine ⟨rfl,?_⟩|refine And.intro ?_ ?_)
 rintro i ⟨hi,hb⟩
 repeat' (first|refine zN ?_|refine zE ?_|refine zP ?_|refine pD ?_|refine zS ?_|refine zR ?_|refine zO ?_|refine zB ?_|refine zX ?_|refine zT ?_|refine skipI rfl ?_)
 refine condI rfl (fun c3=>?_) (fun c3=>?_)
 ·simp only [decide_eq_true_eq] at c3
  have hil:i < ws.length:=by omega
  have hin:((i:Int)).toNat=i:=by omega
  repeat' (first|refine zN ?_|refine zE ?_|refine zP ?_|refine pD ?_|refine pC (by first|omega|(intro _;omega)) ?_|refine zS ?_|refine zR ?_|refine zO ?_|refine zB ?_|refine zX ?_|refine zT ?_|refine skipI rfl ?_)
  refine condI rfl (fun c4=>?_) (fun c4=>?_)
  ·have h9:winsBad (ss.length:Int) ws i=true:=by simp only [hin] at c4;exact c4
   rw [rng_yes hil h9] at hr
   have hr:r=false:=hr
   repeat' (first|refine zN ?_|refine zE ?_|refine zP ?_|refine pD ?_|refine zS ?_|refine zR ?_|refine zO ?_|refine zB ?_|refine zX ?_|refine zT ?_|refine skipI rfl ?_)
   refine endR rfl ?_
   repeat' (first|exact trivial|exact rfl|refine ⟨rfl,?_⟩|refine And.intro ?_ ?_)
   exact hr
  ·have h9:winsBad (ss.length:Int) ws i=false:=by simp only [hin] at c4;exact c4
   repeat' (first|refine zN ?_|refine zE ?_|refine zP ?_|refine pD ?_|refine zS ?_|refine zR ?_|refine zO ?_|refine zB ?_|refine zX ?_|refine zT ?_|refine skipI rfl ?_)
   refine roundI (i+1) rfl ?_ ?_ ?_
   ·refine ⟨by show i+1≤ws.length;omega,fun j hj=>?_⟩
    by_cases hji:j=i
    ·subst hji;exact h9
    ·exact hb j (by omega)
   ·show ws.length - (i+1) < ws.length - i
    omega
   ·repeat' (first|exact trivial|with_reducible exact rfl|refine And.intro ?_ ?_)
    all_goals rfl
 ·simp only [decide_eq_false_iff_not] at c3
  rw [rng_no (fun j hj=>hb j (by omega))] at hr
  have hr:r=true:=hr
  repeat' (first|refine zN ?_|refine zE ?_|refine zP ?_|refine pD ?_|refine zS ?_|refine zR ?_|refine zO ?_|refine zB ?_|refine zX ?_|refine zT ?_|refine skipI rfl ?_)
  refine endR rfl ?_
  repeat' (first|exact trivial|exact rfl|refine ⟨rfl,?_⟩|refine And.intro ?_ ?_)
  exact hr
end Go.AM.YtmohhhbgcehnpaaGreat.Fl
end

section
set_option linter.all false
namespace Go.AM.YtmohhhbgcehnpaaGreat.Fl
open Go.Proofs
set_option maxRecDepth 100000
set_option maxHeartbeats 4000000
abbrev tWay:Ty:=.pair (.int .i64) (.slice (.int .i64))
abbrev WayT:=Int × List Int
theorem drop_get {l:List Int} {i:Nat} (hi:i < l.length):l.drop i=getI l 0 i::l.drop (i+1):=by
 rw [List.drop_eq_getElem_cons hi];simp [getI,List.getD,List.getElem?_eq_getElem hi]
end Go.AM.YtmohhhbgcehnpaaGreat.Fl
end

section
set_option linter.all false
namespace Go.AM.YtmohhhbgcehnpaaGreat.Fl
open Go.Proofs
set_option maxRecDepth 100000
set_option maxHeartbeats 4000000
def badN (k:Nat) (n:Int):Bool:=decide (n < 0)||decide (n≥(k:Int))
end Go.AM.YtmohhhbgcehnpaaGreat.Fl
end

section
set_option linter.all false
namespace Go.AM.YtmohhhbgcehnpaaGreat.Fl
open Go.Proofs
set_option maxRecDepth 100000
set_option maxHeartbeats 4000000
end Go.AM.YtmohhhbgcehnpaaGreat.Fl
end

section
set_option linter.all false
namespace Go.AM.YtmohhhbgcehnpaaGreat.Fl
open Go.Proofs
set_option maxRecDepth 100000
set_option maxHeartbeats 4000000
def w0:WayT:=tWay.dflt
theorem cut_none {α:Type} {L:List α}:(cut (contOf (fun _:List α=>(none:Option AExit))) [] L).1=L:=by
 rw [cut_all (fun _ _ _ _=>rfl)];rfl
end Go.AM.YtmohhhbgcehnpaaGreat.Fl
end

section
set_option linter.all false
namespace Go.AM.YtmohhhbgcehnpaaGreat.Fl
open Go.Proofs
set_option maxRecDepth 100000
set_option maxHeartbeats 4000000
theorem inW_iff {n lo hi:Int}:inW n lo hi=true↔lo≤n∧n≤hi:=by
 unfold inW;rw [Bool.and_eq_true,decide_eq_true_eq,decide_eq_true_eq]
theorem ascF_in {l:List Int} {lo hi:Int} (h:ascF l lo hi=true):∀ n∈l,lo≤n∧n≤hi:=by
 intro n hn
 unfold ascF at h
 rw [Bool.not_eq_true',List.any_eq_false] at h
 obtain ⟨i,hi,rfl⟩:=List.getElem_of_mem hn
 have h1:=h i (List.mem_range.2 hi)
 unfold ascBad at h1
 rw [Bool.or_eq_true,not_or,Bool.not_eq_true',Bool.not_eq_false] at h1
 have h2:=inW_iff.1 h1.1
 have h3:getI l 0 i=l[i]:=by simp [getI,List.getD,List.getElem?_eq_getElem hi]
 rw [h3] at h2
 exact h2
structure StepSm (n:Nat) (s:StepT):Prop where
 mn:1≤stMn s
 mm:stMn s≤stMx s
 mx:stMx s≤10000
 nx:∀ m∈stNx s,0≤m∧m < n
 nl:(stNx s).length≤4
 tl:1≤(stTl s).length∧(stTl s).length≤8
 bk:(stBk s=-1∧stLm s=0)∨(0≤stBk s∧stBk s < n∧1≤stLm s∧stLm s≤9)
 rc:1≤stRc s∧stRc s≤1000000
 ts:∀ m∈stTl s,0≤m∧m≤59
theorem step_sm {n:Nat} {s:StepT} (h:stepF s n=true):StepSm n s:=by
 unfold stepF at h
 simp only [Bool.and_eq_true,Bool.or_eq_true,decide_eq_true_eq,inW_iff] at h
 obtain ⟨⟨⟨⟨⟨⟨⟨h1,h2⟩,h3⟩,h4⟩,h5⟩,h6⟩,h7⟩,h8⟩:=h
 refine ⟨h6,h7,h8,fun m hm=>?_,by omega,by omega,?_,h3,ascF_in h4⟩
 ·have:=ascF_in h5 m hm
  omega
 ·rcases h1 with h1|h1
  ·exact .inl h1
  ·exact .inr (by omega)
structure FlowSm (mn mx:Int) (ss:List StepT) (ws:List WinT):Prop where
 mn0:0≤mn
 mm:mn≤mx
 mx1:mx≤10000
 n1:1≤ss.length
 n2:ss.length≤40
 wl:ws.length≤20
 st:∀ s∈ss,StepSm ss.length s
 wn:∀ i,i < ws.length→rwF (getI ws tWin.dflt i) ss.length=true
theorem flow_sm {mn mx:Int} {ss:List StepT} {ws:List WinT} (h:validF mn mx ss ws=true):FlowSm mn mx ss ws:=by
 unfold validF movF at h
 simp only [Bool.and_eq_true,Bool.not_eq_true',Bool.or_eq_false_iff,Bool.not_eq_false',decide_eq_true_eq,decide_eq_false_iff_not,inW_iff,List.any_eq_false] at h
 obtain ⟨⟨⟨⟨h1,h2⟩,h3⟩,h4⟩,h5⟩:=h
 refine ⟨h1.1.1,h1.1.2,h1.2,by omega,by omega,by omega,fun s hs=>step_sm ?_,fun i hi=>?_⟩
 ·have:=h4 s hs
  simpa using this
 ·have:=h5 i (List.mem_range.2 hi)
  unfold winsBad at this
  simp only [Bool.not_eq_true,Bool.or_eq_false_iff,Bool.not_eq_false'] at this
  exact this.1
end Go.AM.YtmohhhbgcehnpaaGreat.Fl
end

section
set_option linter.all false
namespace Go.AM.YtmohhhbgcehnpaaGreat.Fl
open Go.Proofs
set_option maxRecDepth 100000
set_option maxHeartbeats 4000000
end Go.AM.YtmohhhbgcehnpaaGreat.Fl
end

section
set_option linter.all false
namespace Go.AM.YtmohhhbgcehnpaaGreat.Fl
open Go.Proofs
set_option maxRecDepth 100000
set_option maxHeartbeats 4000000
end Go.AM.YtmohhhbgcehnpaaGreat.Fl
end

section
set_option linter.all false
namespace Go.AM.YtmohhhbgcehnpaaGreat.Fl
open Go.Proofs
set_option maxRecDepth 100000
set_option maxHeartbeats 4000000
def growS:Spec:=⟨true,fun args rows=>match args,rows with
 | [.nilsl,.int .i64 n],[]=>some ⟨0 < n∧n≤1000,.own 0,[.seq tInt []],true⟩
 | _,_=>none⟩
end Go.AM.YtmohhhbgcehnpaaGreat.Fl
end

section
set_option linter.all false
namespace Go.AM
open Go.ChangeMaps (setBlock)
section
variable {tt:TT} {S:Nat→Option Spec} {E:Env PG tt S} {K:List Nat} {c:Code} {st:St} {Q:AExit→St→Prop}
def MitG.was (D:MitG) (j:Nat):Bool:=match D.es[j]? with
 | some e=>D.seen.contains e.born
 | none=>false
def MitG.left (D:MitG):Nat:=(leftOf D.es D.seen).size
end
end Go.AM
end
