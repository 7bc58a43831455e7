/- CaBase, CaA, FlA. -/
import Derived.Test.YtbepaplaahcnkaaGreatPc15
import Derived.Test.YtbepaplaahcnkaaGreatPc16

set_option linter.all false
section
namespace Go.AM.YtbepaplaahcnkaaGreat
open Go.Proofs
def body (f:Func):Code:=match f.body with
 | some c=>c
 | none=>.skip
theorem bI {b:Bool} {x y:Prop} (h:b=true→x) (k:b=false→y):branch b x y:=⟨h,k⟩
theorem aI {p q:Prop} (h:p) (k:q):p∧q:=⟨h,k⟩
theorem wrapId {n:Int} (h:-9223372036854775808≤n) (k:n < 9223372036854775808):IntKind.wrap .i64 n=n:=by
 simp [IntKind.wrap,IntKind.signed,IntKind.bits];omega
theorem wrapEq {n m:Int} (e:n=m) (h:-9223372036854775808≤m) (k:m < 9223372036854775808):IntKind.wrap .i64 n=m:=by
 rw [e];exact wrapId h k
theorem eInt {k:IntKind} {n m:Int} (h:n=m):AV.int k n=AV.int k m:=by rw [h]
theorem eBool {b c:Bool} (h:b=c):AV.bool b=AV.bool c:=by rw [h]
theorem slotInt {l:List (Nat × Ent)} {t:Nat} {k:IntKind} {n m:Int} (h:look l t=some ⟨[],.int k m⟩) (e:m=n):look l t=some ⟨[],.int k n⟩:=by rw [h,e]
theorem sigNil:SigOk Tryz.prog (look []):=fun _ _ h=>by simp [look] at h
theorem sigCons {l : List (Nat × Spec)} {f : Nat} {fn : Func} {c : Code} {s : Spec} (h : SigOk Tryz.prog (look l)) (hf : Tryz.prog.funcs[f]? = some fn) (hname : (fn.name == "runtime.NumGoroutine") = false) (hb : fn.body = some c) (hs : SpecSound Tryz.prog f s) :
 SigOk Tryz.prog (look ((f,s)::l)):=fun g t hg=>by
 simp only [look] at hg
 split at hg
 ·rename_i he
  obtain rfl:f=g:=Nat.eq_of_beq_eq_true he
  cases hg
  have h1 : fn.name ≠ "runtime.NumGoroutine" := by simpa using hname
  exact ⟨hs,fun args w=>by simp [callFunc,hf,h1,hb]⟩
 ·exact h g t hg
def plain (F:List AV→Option Out):Spec:=⟨false,fun args _=>F args⟩
def outV (pre:Prop) (v:AV):Option Out:=some ⟨pre,v,[],false⟩
theorem sound0 {S:Nat→Option Spec} (hS:SigOk Tryz.prog S) {f:Nat} {fn:Func} {c:Code} {F:List AV→Option Out} (hf:Tryz.prog.funcs[f]?=some fn) (hb:fn.body=some c) (hc:codeOk c=true)
 (h:∀ args out,F args=some out→out.pre→args.length≤fn.ntmps∧wp tt S c (St.init fn.ntmps args []) (endOf tt fn.results.toList 0 out)):SpecSound Tryz.prog f (plain F) :=
 spec_of_body ttOk hS mixed hf hb hc fun args rows out hout hpre hr=>by
  have:=hr rfl
  subst this
  exact h args out hout hpre
theorem sound1 {S:Nat→Option Spec} (hS:SigOk Tryz.prog S) {f:Nat} {fn:Func} {c:Code} {F:List AV→List AObj→Option Out} (hf:Tryz.prog.funcs[f]?=some fn) (hb:fn.body=some c) (hc:codeOk c=true)
 (h:∀ args rows out,F args rows=some out→out.pre→args.length≤fn.ntmps∧wp tt S c (St.init fn.ntmps args rows) (endOf tt fn.results.toList rows.length out)):SpecSound Tryz.prog f ⟨true,F⟩ :=
 spec_of_body ttOk hS mixed hf hb hc fun args rows out hout hpre hr=>h args rows out hout hpre
def Sm (n:Int):Prop:=-1000000000000≤n∧n≤1000000000000
def idxF {α:Type} (p:α→Bool):List α→Int
 | []=>-1
 | x::r=>if p x then 0 else if idxF p r < 0 then -1 else idxF p r+1
theorem idxF_none {α:Type} {p:α→Bool} {d:α}:∀ {xs:List α},(∀ j,j < xs.length→p (getI xs d j)=false)→idxF p xs=-1
 | [],_=>rfl
 | x::r,h=>by
   have h0:p x=false:=h 0 (by simp)
   have h1:=idxF_none (p:=p) (d:=d) (xs:=r) fun j hj=>h (j+1) (by simpa using hj)
   simp [idxF,h0,h1]
theorem idxF_found {α:Type} {p:α→Bool} {d:α}:∀ {xs:List α} {i:Nat},i < xs.length→(∀ j,j < i→p (getI xs d j)=false)→p (getI xs d i)=true→idxF p xs=i
 | [],i,h,_,_=>by simp at h
 | x::r,0,_,_,h=>by
   have:p x=true:=h
   simp [idxF,this]
 | x::r,i+1,hi,h,hp=>by
   have h0:p x=false:=h 0 (by omega)
   have h1:=idxF_found (p:=p) (d:=d) (xs:=r) (i:=i) (by simpa using hi) (fun j hj=>h (j+1) (by omega)) hp
   simp only [idxF,h0,h1]
   simp
   omega
theorem idxF_any {α:Type} {p:α→Bool}:∀ {xs:List α},decide (0≤idxF p xs)=xs.any p
 | []=>by simp [idxF]
 | x::r=>by
   have h1:=idxF_any (p:=p) (xs:=r)
   by_cases hp:p x=true
   ·simp [idxF,hp]
   ·simp only [idxF,hp,List.any_cons,Bool.false_or,← h1]
    by_cases h2:idxF p r < 0
    ·simp [h2] <;> omega
    ·simp [h2] <;> omega
abbrev Bk:Ty:=.pair (.int .i64) (.pair (.int .i64) (.pair (.int .i64) (.int .i64)))
abbrev tInt:Ty:=.int .i64
abbrev t3:Ty:=.pair (.int .i64) (.pair (.int .i64) (.int .i64))
abbrev t4:Ty:=.pair (.int .i64) (.pair (.int .i64) (.pair (.int .i64) (.int .i64)))
def envOf {S:Nat→Option Spec} (h:SigOk Tryz.prog S):Env Tryz.prog ts S:=⟨tsOk,h,mixed,none⟩
theorem soundP {S:Nat→Option Spec} (E:Env Tryz.prog ts S) {K:List Nat} {f:Nat} {fn:Func} {c:Code} {F:List AV→Option Out} (hf:Tryz.prog.funcs[f]?=some fn) (hb:fn.body=some c) (hc:codeOk c=true) (hk:forceL (keepOf fn c) some=some K)
 (h:∀ args out,F args=some out→out.pre→args.length≤fn.ntmps∧WP E K c (St.init fn.ntmps args []) (endOf ts fn.results.toList 0 out)) (hro:E.ro=none:=by rfl):SpecSound Tryz.prog f (plain F) :=
 spec_of_WP E K hf hb hc (fun args rows out hout hpre hr=>by
  have:=hr rfl
  subst this
  exact h args out hout hpre) hro
theorem soundR {S:Nat→Option Spec} (E:Env Tryz.prog ts S) {K:List Nat} {f:Nat} {fn:Func} {c:Code} {F:List AV→List AObj→Option Out} (hf:Tryz.prog.funcs[f]?=some fn) (hb:fn.body=some c) (hc:codeOk c=true) (hk:forceL (keepOf fn c) some=some K)
 (h:∀ args rows out,F args rows=some out→out.pre→args.length≤fn.ntmps∧WP E K c (St.init fn.ntmps args rows) (endOf ts fn.results.toList rows.length out)) (hro:E.ro=none:=by rfl):SpecSound Tryz.prog f ⟨true,F⟩ :=
 spec_of_WP E K hf hb hc (fun args rows out hout hpre hr=>h args rows out hout hpre) hro
end Go.AM.YtbepaplaahcnkaaGreat
end

section
namespace Go.AM.YtbepaplaahcnkaaGreat
open Go.Proofs
set_option maxRecDepth 100000
set_option maxHeartbeats 4000000
def toolB (n:Int):Bool:=decide (0≤n)&&decide (n < 60)
def validB (tl s e o:Int):Bool:=((decide (0≤s)&&decide (s < e)&&decide (e≤1000000))&&toolB tl&&decide (1≤o))&&decide (o≤1000000)
def validS:Spec:=plain fun
 | [.agg [.int .i64 tl,.int .i64 s,.int .i64 e,.int .i64 o]]=>outV True (.bool (validB tl s e o))
 | _=>none
def nanS:Spec:=plain fun
 | [.int .i64 n]=>outV True (.bool false)
 | _=>none
theorem nanOk:SpecSound Tryz.prog 142 nanS:=by
 refine soundP (envOf sigNil) Tryz.func142 (c:=body Tryz.f142) rfl (by kernel_rfl) rfl ?_
 intro args out hf hpre
 split at hf <;> try (cases hf;done)
 rename_i n
 cases hf
 refine ⟨Nat.le_of_ble_eq_true rfl,initI rfl ?_⟩
 repeat' (first|refine zN ?_|refine zE ?_|refine zP ?_|refine pD ?_|refine zQ ?_|refine zR ?_|refine zW ?_)
 refine endR rfl ?_
 repeat' (first|exact trivial|exact rfl|refine ⟨rfl,?_⟩|refine And.intro ?_ ?_)
 simp
def sigNan:List (Nat × Spec):=[(142,nanS)]
theorem sigNanOk:SigOk Tryz.prog (look sigNan):=sigCons sigNil Tryz.func142 (by kernel_rfl) (c:=body Tryz.f142) rfl nanOk
def cmpI (a b:Int):Int:=if a < b then -1 else if b < a then 1 else 0
def cmpS:Spec:=plain fun
 | [.int .i64 a,.int .i64 b]=>outV True (.int .i64 (cmpI a b))
 | _=>none
theorem cmpOk:SpecSound Tryz.prog 72 cmpS:=by
 refine soundP (envOf sigNanOk) Tryz.func72 (c:=body Tryz.f72) rfl (by kernel_rfl) rfl ?_
 intro args out hf hpre
 split at hf <;> try (cases hf;done)
 rename_i a b
 cases hf
 refine ⟨Nat.le_of_ble_eq_true rfl,initI rfl ?_⟩
 repeat' (first|refine zN ?_|refine zE ?_|refine zP ?_|refine pD ?_|refine zQ ?_|refine zR ?_|refine zW ?_)
 refine condF rfl ?_
 repeat' (first|refine zN ?_|refine zE ?_|refine zP ?_|refine pD ?_|refine zQ ?_|refine zR ?_|refine zW ?_)
 refine condF rfl ?_
 repeat' (first|refine zN ?_|refine zE ?_|refine zP ?_|refine pD ?_|refine zQ ?_|refine zR ?_|refine zW ?_)
 refine condI rfl (fun c1=>?_) (fun c1=>?_)
 ·simp only [decide_eq_true_eq] at c1
  repeat' (first|refine zN ?_|refine zE ?_|refine zP ?_|refine pD ?_|refine zQ ?_|refine zR ?_|refine zW ?_)
  refine endR rfl ?_
  repeat' (first|exact trivial|exact rfl|refine ⟨rfl,?_⟩|refine And.intro ?_ ?_)
  simp [cmpI,c1]
 ·simp only [decide_eq_false_iff_not] at c1
  repeat' (first|refine zN ?_|refine zE ?_|refine zP ?_|refine pD ?_|refine zQ ?_|refine zR ?_|refine zW ?_)
  refine condI rfl (fun c2=>?_) (fun c2=>?_)
  ·simp only [decide_eq_true_eq] at c2
   repeat' (first|refine zN ?_|refine zE ?_|refine zP ?_|refine pD ?_|refine zQ ?_|refine zR ?_|refine zW ?_)
   refine endR rfl ?_
   repeat' (first|exact trivial|exact rfl|refine ⟨rfl,?_⟩|refine And.intro ?_ ?_)
   simp [cmpI,c1,c2]
  ·simp only [decide_eq_false_iff_not] at c2
   repeat' (first|refine zN ?_|refine zE ?_|refine zP ?_|refine pD ?_|refine zQ ?_|refine zR ?_|refine zW ?_)
   refine endR rfl ?_
   repeat' (first|exact trivial|exact rfl|refine ⟨rfl,?_⟩|refine And.intro ?_ ?_)
   simp [cmpI,c1,c2]
def sigCmp:List (Nat × Spec):=[(72,cmpS)]
theorem sigCmpOk:SigOk Tryz.prog (look sigCmp):=sigCons sigNil Tryz.func72 (by kernel_rfl) (c:=body Tryz.f72) rfl cmpOk
end Go.AM.YtbepaplaahcnkaaGreat
end

section
namespace Go.AM.YtbepaplaahcnkaaGreat.Fl
open Go.Proofs
set_option maxRecDepth 100000
set_option maxHeartbeats 4000000
abbrev tInt:Ty:=.int .i64
abbrev tStep:Ty:=.pair (.int .i64) (.pair (.slice (.int .i64)) (.pair (.int .i64) (.pair (.int .i64) (.pair (.slice (.int .i64)) (.pair (.int .i64) (.int .i64))))))
abbrev tWin:Ty:=.pair (.int .i64) (.pair (.int .i64) (.int .i64))
abbrev StepT:=Int × List Int × Int × Int × List Int × Int × Int
abbrev WinT:=Int × Int × Int
def stRc (s:StepT):Int:=s.1
def stTl (s:StepT):List Int:=s.2.1
def stMn (s:StepT):Int:=s.2.2.1
def stMx (s:StepT):Int:=s.2.2.2.1
def stNx (s:StepT):List Int:=s.2.2.2.2.1
def stBk (s:StepT):Int:=s.2.2.2.2.2.1
def stLm (s:StepT):Int:=s.2.2.2.2.2.2
theorem fl_mem {α:Type} {l:List α} {d:α} {i:Nat} (h:i < l.length):getI l d i∈l:=by
 rw [show getI l d i=l[i] by simp [getI,List.getD,List.getElem?_eq_getElem h]]
 exact List.getElem_mem h
def inW (n lo hi:Int):Bool:=decide (n≥lo)&&decide (n≤hi)
def inWS:Spec:=plain fun
 | [.int .i64 n,.int .i64 lo,.int .i64 hi]=>outV True (.bool (inW n lo hi))
 | _=>none
theorem inWOk:SpecSound Tryz.prog 74 inWS:=by
 refine soundP (envOf sigNil) Tryz.func74 (c:=body Tryz.f74) rfl (by kernel_rfl) rfl ?_
 intro args out hf hpre
 split at hf <;> try (cases hf;done)
 rename_i n lo hi
 cases hf
 refine ⟨Nat.le_of_ble_eq_true rfl,initI (args:=[.int .i64 n,.int .i64 lo,.int .i64 hi]) rfl ?_⟩
 repeat' (first|refine zN ?_|refine zE ?_|refine zP ?_|refine pD ?_|refine zQ ?_|refine zR ?_|refine zW ?_)
 refine endR rfl ?_
 repeat' (first|exact trivial|exact rfl|refine ⟨rfl,?_⟩|refine And.intro ?_ ?_)
def ascBad (lo hi:Int) (l:List Int) (i:Nat):Bool:=!inW (getI l 0 i) lo hi||(decide ((i:Int) > 0)&&decide (getI l 0 i≤getI l 0 ((i:Int) - 1).toNat))
def ascF (l:List Int) (lo hi:Int):Bool:=!(List.range l.length).any (ascBad lo hi l)
def ascS:Spec:=plain fun
 | [.sl (.int .i64) l,.int .i64 lo,.int .i64 hi]=>outV True (.bool (ascF l lo hi))
 | _=>none
theorem rng_yes {n:Nat} {p:Nat→Bool} {i:Nat} (hi:i < n) (h:p i=true):(List.range n).any p=true:=List.any_eq_true.2 ⟨i,List.mem_range.2 hi,h⟩
theorem rng_no {n:Nat} {p:Nat→Bool} (h:∀ j,j < n→p j=false):(List.range n).any p=false:=by
 rw [List.any_eq_false]
 intro j hj
 rw [h j (List.mem_range.1 hj)]
 simp
def sigIn:List (Nat × Spec):=[(74,inWS)]
theorem sigInOk:SigOk Tryz.prog (look sigIn):=sigCons sigNil Tryz.func74 (by kernel_rfl) (c:=body Tryz.f74) rfl inWOk
theorem ascOk:SpecSound Tryz.prog 144 ascS:=by
 refine soundP (envOf sigInOk) Tryz.func144 (c:=body Tryz.f144) rfl (by kernel_rfl) rfl ?_
 intro args out hf hpre
 split at hf <;> try (cases hf;done)
 rename_i l lo hi
 cases hf
 refine ⟨Nat.le_of_ble_eq_true rfl,initI (args:=[.sl tInt l,.int .i64 lo,.int .i64 hi]) rfl ?_⟩
 refine factSl (t:=0) (ty:=tInt) rfl (fun hxs=>?_)
 have hmx:List.length (α:=Int) l≤9223372036854775807:=by have:=hxs.1;unfold maxLen at this;exact this
 obtain ⟨r,hr⟩:∃ r,r=ascF l lo hi:=⟨_,rfl⟩
 rw [← hr]
 unfold ascF at hr
 repeat' (first|refine zN ?_|refine zE ?_|refine zP ?_|refine pD ?_|refine zQ ?_|refine zR ?_|refine zW ?_)
 refine loopI (σ:=Nat) (fun i=>[(11,.int .i64 i)]) (fun i=>[]) (fun i=>i≤List.length (α:=Int) l∧∀ j,j < i→ascBad lo hi l j=false) (fun i=>List.length (α:=Int) l - i) 0 rfl (fun _=>rfl) rfl ?_ ?_ ?_
 ·exact ⟨Nat.zero_le _,fun j hj=>by omega⟩
 ·repeat' (first|exact trivial|exact rfl|refine ⟨rfl,?_⟩|refine And.intro ?_ ?_)
 rintro i ⟨hil0,hb⟩
 repeat' (first|refine zN ?_|refine zE ?_|refine zP ?_|refine pD ?_|refine zQ ?_|refine zR ?_|refine zW ?_)
 refine condI rfl (fun c1=>?_) (fun c1=>?_)
 ·simp only [decide_eq_true_eq] at c1
  have hil:i < List.length (α:=Int) l:=by omega
  have hin:((i:Int)).toNat=i:=by omega
  repeat' (first|refine zN ?_|refine zE ?_|refine zP ?_|refine pD ?_|refine pC (by first|(intro _ h;simp only [decide_eq_true_eq] at h;omega)|(intro _;unfold In64;omega)|omega) ?_|refine zQ ?_|refine zR ?_|refine zW ?_)
  refine condI rfl (fun c2=>?_) (fun c2=>?_)
  ·simp only [hin] at c2
   have h9:ascBad lo hi l i=true:=c2
   rw [rng_yes hil h9] at hr
   have hr:r=false:=by rw [hr];rfl
   repeat' (first|refine zN ?_|refine zE ?_|refine zP ?_|refine pD ?_|refine zQ ?_|refine zR ?_|refine zW ?_)
   refine endR rfl ?_
   repeat' (first|exact trivial|exact rfl|refine ⟨rfl,?_⟩|refine And.intro ?_ ?_)
   exact hr
  ·simp only [hin] at c2
   have h9:ascBad lo hi l i=false:=c2
   repeat' (first|refine zN ?_|refine zE ?_|refine zP ?_|refine pD ?_|refine zQ ?_|refine zR ?_|refine zW ?_)
   refine roundI (i+1) rfl ?_ ?_ ?_
   ·refine ⟨by show i+1≤List.length (α:=Int) l;omega,fun j hj=>?_⟩
    by_cases hji:j=i
    ·subst hji;exact h9
    ·exact hb j (by omega)
   ·show List.length (α:=Int) l - (i+1) < List.length (α:=Int) l - i
    omega
   ·repeat' (first|exact trivial|with_reducible exact rfl|refine And.intro ?_ ?_)
    all_goals rfl
 ·simp only [decide_eq_false_iff_not] at c1
  rw [rng_no (fun j hj=>hb j (by omega))] at hr
  have hr:r=true:=hr
  repeat' (first|refine zN ?_|refine zE ?_|refine zP ?_|refine pD ?_|refine zQ ?_|refine zR ?_|refine zW ?_)
  refine endR rfl ?_
  repeat' (first|exact trivial|exact rfl|refine ⟨rfl,?_⟩|refine And.intro ?_ ?_)
  exact hr
def stepF (s:StepT) (n:Int):Bool :=
 (((((((((decide (stBk s=-1)&&decide (stLm s=0))||(inW (stBk s) 0 (n - 1)&&inW (stLm s) 1 9))&&(inW ((stTl s).length:Int) 1 8&&decide (((stNx s).length:Int)≤4)))&&inW (stRc s) 1 1000000)&&ascF (stTl s) 0 59)&&ascF (stNx s) 0 (n - 1))&&decide (1≤stMn s))&&decide (stMn s≤stMx s))&&decide (stMx s≤10000))
def stepS:Spec:=plain fun
 | [.agg [.int .i64 rc,.sl (.int .i64) tl,.int .i64 mn,.int .i64 mx,.sl (.int .i64) nx,.int .i64 bk,.int .i64 lm],.int .i64 n]=>outV (0≤n∧n≤9223372036854775807) (.bool (stepF (rc,tl,mn,mx,nx,bk,lm) n))
 | _=>none
def sigSt:List (Nat × Spec):=[(74,inWS),(144,ascS)]
theorem sigStOk:SigOk Tryz.prog (look sigSt):=sigCons (sigCons sigNil
 Tryz.func144 (by kernel_rfl) (c:=body Tryz.f144) rfl ascOk)
 Tryz.func74 (by kernel_rfl) (c:=body Tryz.f74) rfl inWOk
theorem stepOk:SpecSound Tryz.prog 77 stepS:=by
 refine soundP (envOf sigStOk) Tryz.func77 (c:=body Tryz.f77) rfl (by kernel_rfl) rfl ?_
 intro args out hf hpre
 split at hf <;> try (cases hf;done)
 rename_i rc tl mn mx nx bk lm n
 cases hf
 refine ⟨Nat.le_of_ble_eq_true rfl,initI (args:=[.agg [.int .i64 rc,.sl tInt tl,.int .i64 mn,.int .i64 mx,.sl tInt nx,.int .i64 bk,.int .i64 lm],.int .i64 n]) rfl ?_⟩
 obtain ⟨hn0,hn1⟩:=hpre
 repeat' (first|refine zN ?_|refine zE ?_|refine zP ?_|refine pD ?_|refine pC (by first|(intro _;unfold In64;omega)|(unfold In64;omega)) ?_|refine zQ ?_|refine zR ?_|refine zW ?_)
 refine endR rfl ?_
 repeat' (first|exact trivial|exact rfl|refine ⟨rfl,?_⟩|refine And.intro ?_ ?_)
def rwF (w:WinT) (n:Int):Bool:=((inW w.1 0 (n - 1)&&inW w.2.1 0 (n - 1))&&!decide (w.1=w.2.1))&&inW w.2.2 0 1000000
def rwS:Spec:=plain fun
 | [.agg [.int .i64 f,.int .i64 t,.int .i64 l],.int .i64 n]=>outV (0≤n∧n≤9223372036854775807) (.bool (rwF (f,t,l) n))
 | _=>none
theorem rwOk:SpecSound Tryz.prog 78 rwS:=by
 refine soundP (envOf sigInOk) Tryz.func78 (c:=body Tryz.f78) rfl (by kernel_rfl) rfl ?_
 intro args out hf hpre
 split at hf <;> try (cases hf;done)
 rename_i f t l n
 cases hf
 refine ⟨Nat.le_of_ble_eq_true rfl,initI (args:=[.agg [.int .i64 f,.int .i64 t,.int .i64 l],.int .i64 n]) rfl ?_⟩
 obtain ⟨hn0,hn1⟩:=hpre
 repeat' (first|refine zN ?_|refine zE ?_|refine zP ?_|refine pD ?_|refine pC (by first|(intro _;unfold In64;omega)|(unfold In64;omega)) ?_|refine zQ ?_|refine zR ?_|refine zW ?_)
 refine endR rfl ?_
 repeat' (first|exact trivial|exact rfl|refine ⟨rfl,?_⟩|refine And.intro ?_ ?_)
 all_goals simp [rwF]
def wLast (l:List WinT):WinT:=getI l tWin.dflt ((l.length:Int) - 1).toNat
def folF (l:List WinT) (w:WinT):Bool:=decide ((l.length:Int)=0)||(decide ((wLast l).1 < w.1)||(decide ((wLast l).1=w.1)&&decide ((wLast l).2.1 < w.2.1)))
def folS:Spec:=plain fun
 | [.sl (.pair (.int .i64) (.pair (.int .i64) (.int .i64))) l,.agg [.int .i64 f,.int .i64 t,.int .i64 m]]=>outV True (.bool (folF l (f,t,m)))
 | _=>none
theorem folOk:SpecSound Tryz.prog 79 folS:=by
 refine soundP (envOf sigNil) Tryz.func79 (c:=body Tryz.f79) rfl (by kernel_rfl) rfl ?_
 intro args out hf hpre
 split at hf <;> try (cases hf;done)
 rename_i l f t m
 cases hf
 refine ⟨Nat.le_of_ble_eq_true rfl,initI (args:=[.sl tWin l,.agg [.int .i64 f,.int .i64 t,.int .i64 m]]) rfl ?_⟩
 refine factSl (t:=0) (ty:=tWin) rfl (fun hxs=>?_)
 have hmx:l.length≤9223372036854775807:=by have:=hxs.1;unfold maxLen at this;exact this
 obtain ⟨r,hr⟩:∃ r,r=folF l (f,t,m):=⟨_,rfl⟩
 rw [← hr]
 unfold folF at hr
 repeat' (first|refine zN ?_|refine zE ?_|refine zP ?_|refine pD ?_|refine zQ ?_|refine zR ?_|refine zW ?_)
 refine condI rfl (fun c1=>?_) (fun c1=>?_)
 ·rw [show decide ((l.length:Int)=0)=true from c1] at hr
  repeat' (first|refine zN ?_|refine zE ?_|refine zP ?_|refine pD ?_|refine zQ ?_|refine zR ?_|refine zW ?_)
  refine endR rfl ?_
  repeat' (first|exact trivial|exact rfl|refine ⟨rfl,?_⟩|refine And.intro ?_ ?_)
  exact hr
 ·rw [show decide ((l.length:Int)=0)=false from c1] at hr
  simp only [decide_eq_false_iff_not] at c1
  repeat' (first|refine zN ?_|refine zE ?_|refine zP ?_|refine pD ?_|refine pC (by first|omega|(unfold In64;omega)) ?_|refine zQ ?_|refine zR ?_|refine zW ?_)
  refine endR rfl ?_
  repeat' (first|exact trivial|exact rfl|refine ⟨rfl,?_⟩|refine And.intro ?_ ?_)
  exact hr
def movF (mn mx:Int):Bool:=(decide (0≤mn)&&decide (mn≤mx))&&decide (mx≤10000)
def movS:Spec:=plain fun
 | [.agg [.int .i64 mn,.int .i64 mx,.sl (.pair (.int .i64) (.pair (.slice (.int .i64)) (.pair (.int .i64) (.pair (.int .i64) (.pair (.slice (.int .i64)) (.pair (.int .i64) (.int .i64))))))) ss,.sl (.pair (.int .i64) (.pair (.int .i64) (.int .i64))) ws]]=>outV True (.bool (movF mn mx))
 | _=>none
theorem movOk:SpecSound Tryz.prog 73 movS:=by
 refine soundP (envOf sigNil) Tryz.func73 (c:=body Tryz.f73) rfl (by kernel_rfl) rfl ?_
 intro args out hf hpre
 split at hf <;> try (cases hf;done)
 rename_i mn mx ss ws
 cases hf
 refine ⟨Nat.le_of_ble_eq_true rfl,initI (args:=[.agg [.int .i64 mn,.int .i64 mx,.sl tStep ss,.sl tWin ws]]) rfl ?_⟩
 repeat' (first|refine zN ?_|refine zE ?_|refine zP ?_|refine pD ?_|refine zQ ?_|refine zR ?_|refine zW ?_)
 refine endR rfl ?_
 repeat' (first|exact trivial|exact rfl|refine ⟨rfl,?_⟩|refine And.intro ?_ ?_)
def val1S:Spec:=⟨true,fun args rows=>match args,rows with
 | [.agg [.int .i64 rc,.sl (.int .i64) tl,.int .i64 mn,.int .i64 mx,.sl (.int .i64) nx,.int .i64 bk,.int .i64 lm],.ptr 0 0],[.box [.int .i64 n]]=>some ⟨0≤n∧n≤9223372036854775807,.bool (!stepF (rc,tl,mn,mx,nx,bk,lm) n),[.box [.int .i64 n]],true⟩
 | _,_=>none⟩
def sigV1:List (Nat × Spec):=[(77,stepS)]
theorem sigV1Ok:SigOk Tryz.prog (look sigV1):=sigCons sigNil Tryz.func77 (by kernel_rfl) (c:=body Tryz.f77) rfl stepOk
theorem val1Ok:SpecSound Tryz.prog 76 val1S:=by
 refine soundR (envOf sigV1Ok) Tryz.func76 (c:=body Tryz.f76) rfl (by kernel_rfl) rfl ?_
 intro args rows out hf hpre
 split at hf <;> try (cases hf;done)
 rename_i rc tl mn mx nx bk lm n
 cases hf
 refine ⟨Nat.le_of_ble_eq_true rfl,initI (args:=[.agg [.int .i64 rc,.sl tInt tl,.int .i64 mn,.int .i64 mx,.sl tInt nx,.int .i64 bk,.int .i64 lm],.ptr 0 0]) (rows:=[.box [.int .i64 n]]) rfl ?_⟩
 repeat' (first|refine zN ?_|refine zE ?_|refine zP ?_|refine pD ?_|refine pC (by exact hpre) ?_|refine zQ ?_|refine zR ?_|refine zW ?_)
 refine endR rfl ?_
 repeat' (first|exact trivial|exact rfl|refine ⟨rfl,?_⟩|refine And.intro ?_ ?_)
def fidxS:Spec:=⟨true,fun args rows=>match args,rows with
 | [.sl (.pair (.int .i64) (.pair (.slice (.int .i64)) (.pair (.int .i64) (.pair (.int .i64) (.pair (.slice (.int .i64)) (.pair (.int .i64) (.int .i64))))))) xs,.fn 76 [] [.ptr 0 0]],[.box [.int .i64 n]] =>
   some ⟨0≤n∧n≤9223372036854775807,.int .i64 (idxF (fun s=>!stepF s n) xs),[.box [.int .i64 n]],true⟩
 | _,_=>none⟩
def sigFi:List (Nat × Spec):=[(76,val1S)]
theorem sigFiOk:SigOk Tryz.prog (look sigFi):=sigCons sigNil Tryz.func76 (by kernel_rfl) (c:=body Tryz.f76) rfl val1Ok
theorem fidxOk:SpecSound Tryz.prog 143 fidxS:=by
 refine soundR (envOf sigFiOk) Tryz.func143 (c:=body Tryz.f143) rfl (by kernel_rfl) rfl ?_
 intro args rows out hf hpre
 split at hf <;> try (cases hf;done)
 rename_i xs n
 cases hf
 refine ⟨Nat.le_of_ble_eq_true rfl,initI (args:=[.sl tStep xs,.fn 76 [] [.ptr 0 0]]) (rows:=[.box [.int .i64 n]]) rfl ?_⟩
 refine factSl (t:=0) (ty:=tStep) rfl (fun hxs=>?_)
 have hmx:xs.length≤9223372036854775807:=by have:=hxs.1;unfold maxLen at this;exact this
 repeat' (first|refine zN ?_|refine zE ?_|refine zP ?_|refine pD ?_|refine zQ ?_|refine zR ?_|refine zW ?_)
 refine loopI (σ:=Nat) (fun i=>[(8,.int .i64 i)]) (fun i=>[]) (fun i=>i≤xs.length∧∀ j,j < i→(!stepF (getI xs tStep.dflt j) n)=false) (fun i=>xs.length - i) 0 rfl (fun _=>rfl) rfl ?_ ?_ ?_
 ·exact ⟨Nat.zero_le _,fun j hj=>by omega⟩
 ·repeat' (first|exact trivial|exact rfl|refine ⟨rfl,?_⟩|refine And.intro ?_ ?_)
 rintro i ⟨hi,hb⟩
 repeat' (first|refine zN ?_|refine zE ?_|refine zP ?_|refine pD ?_|refine zQ ?_|refine zR ?_|refine zW ?_)
 refine condI rfl (fun c1=>?_) (fun c1=>?_)
 ·simp only [decide_eq_true_eq] at c1
  have hil:i < xs.length:=by omega
  have hin:((i:Int)).toNat=i:=by omega
  repeat' (first|refine zN ?_|refine zE ?_|refine zP ?_|refine pD ?_|refine pC (by exact hpre) ?_|refine zQ ?_|refine zR ?_|refine zW ?_)
  refine condI rfl (fun c2=>?_) (fun c2=>?_)
  ·simp only [hin] at c2
   repeat' (first|refine zN ?_|refine zE ?_|refine zP ?_|refine pD ?_|refine zQ ?_|refine zR ?_|refine zW ?_)
   refine endR rfl ?_
   repeat' (first|exact trivial|exact rfl|refine ⟨rfl,?_⟩|refine And.intro ?_ ?_)
   exact idxF_found (p:=fun s=>!stepF s n) (d:=tStep.dflt) hil hb c2
  ·simp only [hin] at c2
   repeat' (first|refine zN ?_|refine zE ?_|refine zP ?_|refine pD ?_|refine zQ ?_|refine zR ?_|refine zW ?_)
   refine roundI (i+1) rfl ?_ ?_ ?_
   ·refine ⟨by show i+1≤xs.length;omega,fun j hj=>?_⟩
    by_cases hji:j=i
    ·subst hji;exact c2
    ·exact hb j (by omega)
   ·show xs.length - (i+1) < xs.length - i
    omega
   ·repeat' (first|exact trivial|with_reducible exact rfl|refine And.intro ?_ ?_)
    all_goals rfl
 ·simp only [decide_eq_false_iff_not] at c1
  repeat' (first|refine zN ?_|refine zE ?_|refine zP ?_|refine pD ?_|refine zQ ?_|refine zR ?_|refine zW ?_)
  refine endR rfl ?_
  repeat' (first|exact trivial|exact rfl|refine ⟨rfl,?_⟩|refine And.intro ?_ ?_)
  exact idxF_none (p:=fun s=>!stepF s n) (d:=tStep.dflt) fun j hj=>hb j (by omega)
def fanyS:Spec:=⟨true,fun args rows=>match args,rows with
 | [.sl (.pair (.int .i64) (.pair (.slice (.int .i64)) (.pair (.int .i64) (.pair (.int .i64) (.pair (.slice (.int .i64)) (.pair (.int .i64) (.int .i64))))))) xs,.fn 76 [] [.ptr 0 0]],[.box [.int .i64 n]] =>
   some ⟨0≤n∧n≤9223372036854775807,.bool (xs.any fun s=>!stepF s n),[.box [.int .i64 n]],true⟩
 | _,_=>none⟩
def sigFa:List (Nat × Spec):=[(143,fidxS)]
theorem sigFaOk:SigOk Tryz.prog (look sigFa):=sigCons sigNil Tryz.func143 (by kernel_rfl) (c:=body Tryz.f143) rfl fidxOk
theorem idx_any {α:Type} {p:α→Bool}:∀ xs:List α,decide (idxF p xs≥0)=xs.any p
 | []=>by simp [idxF]
 | x::r=>by
   have ih:=idx_any (p:=p) r
   unfold idxF
   rw [List.any_cons]
   cases hp:p x
   ·rw [if_neg (by simp),Bool.false_or,← ih]
    split
    ·rename_i h
     rw [decide_eq_false (by omega),decide_eq_false (by omega)]
    ·rename_i h
     rw [decide_eq_true (by omega),decide_eq_true (by omega)]
   ·simp
theorem fanyOk:SpecSound Tryz.prog 75 fanyS:=by
 refine soundR (envOf sigFaOk) Tryz.func75 (c:=body Tryz.f75) rfl (by kernel_rfl) rfl ?_
 intro args rows out hf hpre
 split at hf <;> try (cases hf;done)
 rename_i xs n
 cases hf
 refine ⟨Nat.le_of_ble_eq_true rfl,initI (args:=[.sl tStep xs,.fn 76 [] [.ptr 0 0]]) (rows:=[.box [.int .i64 n]]) rfl ?_⟩
 repeat' (first|refine zN ?_|refine zE ?_|refine zP ?_|refine pD ?_|refine pC (by exact hpre) ?_|refine zQ ?_|refine zR ?_|refine zW ?_)
 refine endR rfl ?_
 repeat' (first|exact trivial|exact rfl|refine ⟨rfl,?_⟩|refine And.intro ?_ ?_)
 all_goals exact (idx_any _).symm
def winsBad (n:Int) (ws:List WinT) (i:Nat):Bool:=!rwF (getI ws tWin.dflt i) n||!folF (ws.take i) (getI ws tWin.dflt i)
def validF (mn mx:Int) (ss:List StepT) (ws:List WinT):Bool :=
 (!((!movF mn mx||!inW (ss.length:Int) 1 40)||decide ((ws.length:Int) > 20))&&!ss.any (fun s=>!stepF s (ss.length:Int)))&&!(List.range ws.length).any (winsBad (ss.length:Int) ws)
def fvalidS:Spec:=plain fun
 | [.agg [.int .i64 mn,.int .i64 mx,.sl (.pair (.int .i64) (.pair (.slice (.int .i64)) (.pair (.int .i64) (.pair (.int .i64) (.pair (.slice (.int .i64)) (.pair (.int .i64) (.int .i64))))))) ss,.sl (.pair (.int .i64) (.pair (.int .i64) (.int .i64))) ws]]=>outV True (.bool (validF mn mx ss ws))
 | _=>none
def sigFv:List (Nat × Spec):=[(73,movS),(74,inWS),(75,fanyS),(78,rwS),(79,folS)]
theorem sigFvOk:SigOk Tryz.prog (look sigFv):=sigCons (sigCons (sigCons (sigCons (sigCons sigNil
 Tryz.func79 (by kernel_rfl) (c:=body Tryz.f79) rfl folOk)
 Tryz.func78 (by kernel_rfl) (c:=body Tryz.f78) rfl rwOk)
 Tryz.func75 (by kernel_rfl) (c:=body Tryz.f75) rfl fanyOk)
 Tryz.func74 (by kernel_rfl) (c:=body Tryz.f74) rfl inWOk)
 Tryz.func73 (by kernel_rfl) (c:=body Tryz.f73) rfl movOk
theorem fvalidOk:SpecSound Tryz.prog 25 fvalidS:=by
 refine soundP (envOf sigFvOk) Tryz.func25 (c:=body Tryz.f25) rfl (by kernel_rfl) rfl ?_
 intro args out hf hpre
 split at hf <;> try (cases hf;done)
 rename_i mn mx ss ws
 cases hf
 refine ⟨Nat.le_of_ble_eq_true rfl,initI (args:=[.agg [.int .i64 mn,.int .i64 mx,.sl tStep ss,.sl tWin ws]]) rfl ?_⟩
 obtain ⟨r,hr⟩:∃ r,r=validF mn mx ss ws:=⟨_,rfl⟩
 rw [← hr]
 unfold validF at hr
 repeat' (first|refine zN ?_|refine zE ?_|refine zP ?_|refine pD ?_|refine zQ ?_|refine zR ?_|refine zW ?_)
 refine condI rfl (fun c1=>?_) (fun c1=>?_)
 ·have c1':((!movF mn mx||!inW (ss.length:Int) 1 40)||decide ((ws.length:Int) > 20))=true:=c1
  rw [c1'] at hr
  repeat' (first|refine zN ?_|refine zE ?_|refine zP ?_|refine pD ?_|refine zQ ?_|refine zR ?_|refine zW ?_)
  refine endR rfl ?_
  repeat' (first|exact trivial|exact rfl|refine ⟨rfl,?_⟩|refine And.intro ?_ ?_)
  exact hr
 have c1':((!movF mn mx||!inW (ss.length:Int) 1 40)||decide ((ws.length:Int) > 20))=false:=c1
 rw [c1'] at hr
 rw [Bool.or_eq_false_iff,Bool.or_eq_false_iff,Bool.not_eq_false',Bool.not_eq_false',decide_eq_false_iff_not] at c1'
 obtain ⟨⟨hm,hn⟩,hw⟩:=c1'
 unfold inW at hn
 rw [Bool.and_eq_true,decide_eq_true_eq,decide_eq_true_eq] at hn
 obtain ⟨hn1,hn2⟩:=hn
 repeat' (first|refine zN ?_|refine zE ?_|refine zP ?_|refine pD ?_|refine pC (by omega) ?_|refine zQ ?_|refine zR ?_|refine zW ?_)
 refine condI rfl (fun c2=>?_) (fun c2=>?_)
 ·rw [show (ss.any fun s=>!stepF s (ss.length:Int))=true from c2] at hr
  repeat' (first|refine zN ?_|refine zE ?_|refine zP ?_|refine pD ?_|refine zQ ?_|refine zR ?_|refine zW ?_)
  refine endR rfl ?_
  repeat' (first|exact trivial|exact rfl|refine ⟨rfl,?_⟩|refine And.intro ?_ ?_)
  exact hr
 rw [show (ss.any fun s=>!stepF s (ss.length:Int))=false from c2] at hr
 repeat' (first|refine zN ?_|refine zE ?_|refine zP ?_|refine pD ?_|refine zQ ?_|refine zR ?_|refine zW ?_)
 refine loopI (σ:=Nat) (fun i=>[(30,.int .i64 i)]) (fun i=>[]) (fun i=>i≤ws.length∧∀ j,j < i→winsBad (ss.length:Int) ws j=false) (fun i=>ws.length - i) 0 rfl (fun _=>rfl) rfl ?_ ?_ ?_
 ·exact ⟨Nat.zero_le _,fun j hj=>by omega⟩
 ·repeat' (first|exact trivial|exact rfl|refine ⟨rfl,?_⟩|refine And.intro ?_ ?_)
 rintro i ⟨hi,hb⟩
 repeat' (first|refine zN ?_|refine zE ?_|refine zP ?_|refine pD ?_|refine zQ ?_|refine zR ?_|refine zW ?_)
 refine condI rfl (fun c3=>?_) (fun c3=>?_)
 ·simp only [decide_eq_true_eq] at c3
  have hil:i < ws.length:=by omega
  have hin:((i:Int)).toNat=i:=by omega
  repeat' (first|refine zN ?_|refine zE ?_|refine zP ?_|refine pD ?_|refine pC (by first|omega|(intro _;omega)) ?_|refine zQ ?_|refine zR ?_|refine zW ?_)
  refine condI rfl (fun c4=>?_) (fun c4=>?_)
  ·have h9:winsBad (ss.length:Int) ws i=true:=by simp only [hin] at c4;exact c4
   rw [rng_yes hil h9] at hr
   have hr:r=false:=hr
   repeat' (first|refine zN ?_|refine zE ?_|refine zP ?_|refine pD ?_|refine zQ ?_|refine zR ?_|refine zW ?_)
   refine endR rfl ?_
   repeat' (first|exact trivial|exact rfl|refine ⟨rfl,?_⟩|refine And.intro ?_ ?_)
   exact hr
  ·have h9:winsBad (ss.length:Int) ws i=false:=by simp only [hin] at c4;exact c4
   repeat' (first|refine zN ?_|refine zE ?_|refine zP ?_|refine pD ?_|refine zQ ?_|refine zR ?_|refine zW ?_)
   refine roundI (i+1) rfl ?_ ?_ ?_
   ·refine ⟨by show i+1≤ws.length;omega,fun j hj=>?_⟩
    by_cases hji:j=i
    ·subst hji;exact h9
    ·exact hb j (by omega)
   ·show ws.length - (i+1) < ws.length - i
    omega
   ·repeat' (first|exact trivial|with_reducible exact rfl|refine And.intro ?_ ?_)
    all_goals rfl
 ·simp only [decide_eq_false_iff_not] at c3
  rw [rng_no (fun j hj=>hb j (by omega))] at hr
  have hr:r=true:=hr
  repeat' (first|refine zN ?_|refine zE ?_|refine zP ?_|refine pD ?_|refine zQ ?_|refine zR ?_|refine zW ?_)
  refine endR rfl ?_
  repeat' (first|exact trivial|exact rfl|refine ⟨rfl,?_⟩|refine And.intro ?_ ?_)
  exact hr
end Go.AM.YtbepaplaahcnkaaGreat.Fl
end
