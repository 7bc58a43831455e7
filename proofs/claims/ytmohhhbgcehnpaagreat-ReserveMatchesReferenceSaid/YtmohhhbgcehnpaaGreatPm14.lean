/- CaBase, CaA, CaB, CaC. -/
import Derived.Test.YtmohhhbgcehnpaaGreatPm12
import Derived.Test.YtmohhhbgcehnpaaGreatPm13

section
set_option linter.all false
namespace Go.AM.YtmohhhbgcehnpaaGreat
open Go.Proofs
def body (f:Func):Code:=match f.body with
 | some c=>c
 | none=>.skip
theorem bI {b:Bool} {x y:Prop} (h:b=true→x) (k:b=false→y):branch b x y:=⟨h,k⟩
theorem aI {p q:Prop} (h:p) (k:q):p∧q:=⟨h,k⟩
theorem wrapId {n:Int} (h:-9223372036854775808≤n) (k:n < 9223372036854775808):IntKind.wrap .i64 n=n:=by
 simp [IntKind.wrap,IntKind.signed,IntKind.bits];omega
theorem wrapEq {n m:Int} (e:n=m) (h:-9223372036854775808≤m) (k:m < 9223372036854775808):IntKind.wrap .i64 n=m:=by
 rw [e];exact wrapId h k
theorem eInt {k:IntKind} {n m:Int} (h:n=m):AV.int k n=AV.int k m:=by rw [h]
theorem eBool {b c:Bool} (h:b=c):AV.bool b=AV.bool c:=by rw [h]
theorem slotInt {l:List (Nat × Ent)} {t:Nat} {k:IntKind} {n m:Int} (h:look l t=some ⟨[],.int k m⟩) (e:m=n):look l t=some ⟨[],.int k n⟩:=by rw [h,e]
theorem sigNil:SigOk Tryz.prog (look []):=fun _ _ h=>by simp [look] at h
theorem sigCons {l : List (Nat × Spec)} {f : Nat} {fn : Func} {c : Code} {s : Spec} (h : SigOk Tryz.prog (look l)) (hf : Tryz.prog.funcs[f]? = some fn) (hname : (fn.name == "runtime.NumGoroutine") = false) (hb : fn.body = some c) (hs : SpecSound Tryz.prog f s) :
 SigOk Tryz.prog (look ((f,s)::l)):=fun g t hg=>by
 simp only [look] at hg
 split at hg
 ·rename_i he
  obtain rfl:f=g:=Nat.eq_of_beq_eq_true he
  cases hg
  have h1 : fn.name ≠ "runtime.NumGoroutine" := by simpa using hname
  exact ⟨hs,fun args w=>by simp [callFunc,hf,h1,hb]⟩
 ·exact h g t hg
def plain (F:List AV→Option Out):Spec:=⟨false,fun args _=>F args⟩
def outV (pre:Prop) (v:AV):Option Out:=some ⟨pre,v,[],false⟩
theorem sound0 {S:Nat→Option Spec} (hS:SigOk Tryz.prog S) {f:Nat} {fn:Func} {c:Code} {F:List AV→Option Out} (hf:Tryz.prog.funcs[f]?=some fn) (hb:fn.body=some c) (hc:codeOk c=true)
 (h:∀ args out,F args=some out→out.pre→args.length≤fn.ntmps∧wp tt S c (St.init fn.ntmps args []) (endOf tt fn.results.toList 0 out)):SpecSound Tryz.prog f (plain F) :=
 spec_of_body ttOk hS mixed hf hb hc fun args rows out hout hpre hr=>by
  have:=hr rfl
  subst this
  exact h args out hout hpre
theorem sound1 {S:Nat→Option Spec} (hS:SigOk Tryz.prog S) {f:Nat} {fn:Func} {c:Code} {F:List AV→List AObj→Option Out} (hf:Tryz.prog.funcs[f]?=some fn) (hb:fn.body=some c) (hc:codeOk c=true)
 (h:∀ args rows out,F args rows=some out→out.pre→args.length≤fn.ntmps∧wp tt S c (St.init fn.ntmps args rows) (endOf tt fn.results.toList rows.length out)):SpecSound Tryz.prog f ⟨true,F⟩ :=
 spec_of_body ttOk hS mixed hf hb hc fun args rows out hout hpre hr=>h args rows out hout hpre
def Sm (n:Int):Prop:=-1000000000000≤n∧n≤1000000000000
def idxF {α:Type} (p:α→Bool):List α→Int
 | []=>-1
 | x::r=>if p x then 0 else if idxF p r < 0 then -1 else idxF p r+1
theorem idxF_none {α:Type} {p:α→Bool} {d:α}:∀ {xs:List α},(∀ j,j < xs.length→p (getI xs d j)=false)→idxF p xs=-1
 | [],_=>rfl
 | x::r,h=>by
   have h0:p x=false:=h 0 (by simp)
   have h1:=idxF_none (p:=p) (d:=d) (xs:=r) fun j hj=>h (j+1) (by simpa using hj)
   simp [idxF,h0,h1]
theorem idxF_found {α:Type} {p:α→Bool} {d:α}:∀ {xs:List α} {i:Nat},i < xs.length→(∀ j,j < i→p (getI xs d j)=false)→p (getI xs d i)=true→idxF p xs=i
 | [],i,h,_,_=>by simp at h
 | x::r,0,_,_,h=>by
   have:p x=true:=h
   simp [idxF,this]
 | x::r,i+1,hi,h,hp=>by
   have h0:p x=false:=h 0 (by omega)
   have h1:=idxF_found (p:=p) (d:=d) (xs:=r) (i:=i) (by simpa using hi) (fun j hj=>h (j+1) (by omega)) hp
   simp only [idxF,h0,h1]
   simp
   omega
theorem idxF_any {α:Type} {p:α→Bool}:∀ {xs:List α},decide (0≤idxF p xs)=xs.any p
 | []=>by simp [idxF]
 | x::r=>by
   have h1:=idxF_any (p:=p) (xs:=r)
   by_cases hp:p x=true
   ·simp [idxF,hp]
   ·simp only [idxF,hp,List.any_cons,Bool.false_or,← h1]
    by_cases h2:idxF p r < 0
    ·simp [h2] <;> omega
    ·simp [h2] <;> omega
abbrev Bk:Ty:=.pair (.int .i64) (.pair (.int .i64) (.pair (.int .i64) (.int .i64)))
abbrev tInt:Ty:=.int .i64
abbrev t3:Ty:=.pair (.int .i64) (.pair (.int .i64) (.int .i64))
abbrev t4:Ty:=.pair (.int .i64) (.pair (.int .i64) (.pair (.int .i64) (.int .i64)))
def envOf {S:Nat→Option Spec} (h:SigOk Tryz.prog S):Env Tryz.prog ts S:=⟨tsOk,h,mixed,none⟩
theorem soundP {S:Nat→Option Spec} (E:Env Tryz.prog ts S) {K:List Nat} {f:Nat} {fn:Func} {c:Code} {F:List AV→Option Out} (hf:Tryz.prog.funcs[f]?=some fn) (hb:fn.body=some c) (hc:codeOk c=true) (hk:forceL (keepOf fn c) some=some K)
 (h:∀ args out,F args=some out→out.pre→args.length≤fn.ntmps∧WP E K c (St.init fn.ntmps args []) (endOf ts fn.results.toList 0 out)) (hro:E.ro=none:=by rfl):SpecSound Tryz.prog f (plain F) :=
 spec_of_WP E K hf hb hc (fun args rows out hout hpre hr=>by
  have:=hr rfl
  subst this
  exact h args out hout hpre) hro
theorem soundR {S:Nat→Option Spec} (E:Env Tryz.prog ts S) {K:List Nat} {f:Nat} {fn:Func} {c:Code} {F:List AV→List AObj→Option Out} (hf:Tryz.prog.funcs[f]?=some fn) (hb:fn.body=some c) (hc:codeOk c=true) (hk:forceL (keepOf fn c) some=some K)
 (h:∀ args rows out,F args rows=some out→out.pre→args.length≤fn.ntmps∧WP E K c (St.init fn.ntmps args rows) (endOf ts fn.results.toList rows.length out)) (hro:E.ro=none:=by rfl):SpecSound Tryz.prog f ⟨true,F⟩ :=
 spec_of_WP E K hf hb hc (fun args rows out hout hpre hr=>h args rows out hout hpre) hro
end Go.AM.YtmohhhbgcehnpaaGreat
end

section
set_option linter.all false
namespace Go.AM.YtmohhhbgcehnpaaGreat
open Go.Proofs
set_option maxRecDepth 100000
set_option maxHeartbeats 4000000
def toolB (n:Int):Bool:=decide (0≤n)&&decide (n < 60)
def isToolS:Spec:=plain fun
 | [.int .i64 n]=>outV True (.bool (toolB n))
 | _=>none
theorem isToolOk:SpecSound Tryz.prog 71 isToolS:=by
 refine soundP (envOf sigNil) Tryz.func71 (c:=body Tryz.f71) rfl (by kernel_rfl) rfl ?_
 intro args out hf hpre
 split at hf <;> try (cases hf;done)
 rename_i n
 cases hf
 refine ⟨Nat.le_of_ble_eq_true rfl,initI rfl ?_⟩
 repeat' (first|refine zN ?_|refine zE ?_|refine zP ?_|refine pD ?_|refine zS ?_|refine zR ?_|refine zO ?_|refine zB ?_|refine zX ?_|refine zT ?_|refine skipI rfl ?_)
 refine endR rfl ?_
 repeat' (first|exact trivial|exact rfl|refine ⟨rfl,?_⟩|refine And.intro ?_ ?_)
def sigTool:List (Nat × Spec):=[(71,isToolS)]
theorem sigToolOk:SigOk Tryz.prog (look sigTool):=sigCons sigNil Tryz.func71 (by kernel_rfl) (c:=body Tryz.f71) rfl isToolOk
def validB (tl s e o:Int):Bool:=((decide (0≤s)&&decide (s < e)&&decide (e≤1000000))&&toolB tl&&decide (1≤o))&&decide (o≤1000000)
def validS:Spec:=plain fun
 | [.agg [.int .i64 tl,.int .i64 s,.int .i64 e,.int .i64 o]]=>outV True (.bool (validB tl s e o))
 | _=>none
theorem validOk:SpecSound Tryz.prog 56 validS:=by
 refine soundP (envOf sigToolOk) Tryz.func56 (c:=body Tryz.f56) rfl (by kernel_rfl) rfl ?_
 intro args out hf hpre
 split at hf <;> try (cases hf;done)
 rename_i tl s e o
 cases hf
 refine ⟨Nat.le_of_ble_eq_true rfl,initI rfl ?_⟩
 repeat' (first|refine zN ?_|refine zE ?_|refine zP ?_|refine pD ?_|refine zS ?_|refine zR ?_|refine zO ?_|refine zB ?_|refine zX ?_|refine zT ?_|refine skipI rfl ?_)
 refine endR rfl ?_
 repeat' (first|exact trivial|exact rfl|refine ⟨rfl,?_⟩|refine And.intro ?_ ?_)
def validR (tl s e o:Int):Bool:=decide (0≤tl)&&decide (tl < 60)&&decide (0≤s)&&decide (s < e)&&decide (e≤1000000)&&decide (1≤o)&&decide (o≤1000000)
theorem validR_eq (tl s e o:Int):validR tl s e o=validB tl s e o:=by
 unfold validR validB toolB
 cases decide (0≤tl) <;> cases decide (tl < 60) <;> cases decide (0≤s) <;> cases decide (s < e) <;> cases decide (e≤1000000) <;> cases decide (1≤o) <;> cases decide (o≤1000000) <;> rfl
theorem validRefOk:SpecSound Tryz.prog 60 validS:=by
 refine soundP (envOf sigNil) Tryz.func60 (c:=body Tryz.f60) rfl (by kernel_rfl) rfl ?_
 intro args out hf hpre
 split at hf <;> try (cases hf;done)
 rename_i tl s e o
 cases hf
 refine ⟨Nat.le_of_ble_eq_true rfl,initI rfl ?_⟩
 repeat' (first|refine zN ?_|refine zE ?_|refine zP ?_|refine pD ?_|refine zS ?_|refine zR ?_|refine zO ?_|refine zB ?_|refine zX ?_|refine zT ?_|refine skipI rfl ?_)
 refine endR rfl ?_
 repeat' (first|exact trivial|exact rfl|refine ⟨rfl,?_⟩|refine And.intro ?_ ?_)
 exact (validR_eq tl s e o).symm
def meetB (s e bs be:Int):Bool:=decide (bs < e)&&decide (s < be)
def meetS:Spec:=plain fun
 | [.agg [.int .i64 s,.int .i64 e],.agg [.int .i64 tl,.int .i64 bs,.int .i64 be,.int .i64 o]]=>outV True (.bool (meetB s e bs be))
 | _=>none
theorem meetOk:SpecSound Tryz.prog 94 meetS:=by
 refine soundP (envOf sigNil) Tryz.func94 (c:=body Tryz.f94) rfl (by kernel_rfl) rfl ?_
 intro args out hf hpre
 split at hf <;> try (cases hf;done)
 rename_i s e tl bs be o
 cases hf
 refine ⟨Nat.le_of_ble_eq_true rfl,initI rfl ?_⟩
 repeat' (first|refine zN ?_|refine zE ?_|refine zP ?_|refine pD ?_|refine zS ?_|refine zR ?_|refine zO ?_|refine zB ?_|refine zX ?_|refine zT ?_|refine skipI rfl ?_)
 refine endR rfl ?_
 repeat' (first|exact trivial|exact rfl|refine ⟨rfl,?_⟩|refine And.intro ?_ ?_)
def nanS:Spec:=plain fun
 | [.int .i64 n]=>outV True (.bool false)
 | _=>none
theorem nanOk:SpecSound Tryz.prog 126 nanS:=by
 refine soundP (envOf sigNil) Tryz.func126 (c:=body Tryz.f126) rfl (by kernel_rfl) rfl ?_
 intro args out hf hpre
 split at hf <;> try (cases hf;done)
 rename_i n
 cases hf
 refine ⟨Nat.le_of_ble_eq_true rfl,initI rfl ?_⟩
 repeat' (first|refine zN ?_|refine zE ?_|refine zP ?_|refine pD ?_|refine zS ?_|refine zR ?_|refine zO ?_|refine zB ?_|refine zX ?_|refine zT ?_|refine skipI rfl ?_)
 refine endR rfl ?_
 repeat' (first|exact trivial|exact rfl|refine ⟨rfl,?_⟩|refine And.intro ?_ ?_)
 simp
def sigNan:List (Nat × Spec):=[(126,nanS)]
theorem sigNanOk:SigOk Tryz.prog (look sigNan):=sigCons sigNil Tryz.func126 (by kernel_rfl) (c:=body Tryz.f126) rfl nanOk
def cmpI (a b:Int):Int:=if a < b then -1 else if b < a then 1 else 0
def cmpS:Spec:=plain fun
 | [.int .i64 a,.int .i64 b]=>outV True (.int .i64 (cmpI a b))
 | _=>none
theorem cmpOk:SpecSound Tryz.prog 97 cmpS:=by
 refine soundP (envOf sigNanOk) Tryz.func97 (c:=body Tryz.f97) rfl (by kernel_rfl) rfl ?_
 intro args out hf hpre
 split at hf <;> try (cases hf;done)
 rename_i a b
 cases hf
 refine ⟨Nat.le_of_ble_eq_true rfl,initI rfl ?_⟩
 repeat' (first|refine zN ?_|refine zE ?_|refine zP ?_|refine pD ?_|refine zS ?_|refine zR ?_|refine zO ?_|refine zB ?_|refine zX ?_|refine zT ?_|refine skipI rfl ?_)
 refine condF rfl ?_
 repeat' (first|refine zN ?_|refine zE ?_|refine zP ?_|refine pD ?_|refine zS ?_|refine zR ?_|refine zO ?_|refine zB ?_|refine zX ?_|refine zT ?_|refine skipI rfl ?_)
 refine condF rfl ?_
 repeat' (first|refine zN ?_|refine zE ?_|refine zP ?_|refine pD ?_|refine zS ?_|refine zR ?_|refine zO ?_|refine zB ?_|refine zX ?_|refine zT ?_|refine skipI rfl ?_)
 refine condI rfl (fun c1=>?_) (fun c1=>?_)
 ·simp only [decide_eq_true_eq] at c1
  repeat' (first|refine zN ?_|refine zE ?_|refine zP ?_|refine pD ?_|refine zS ?_|refine zR ?_|refine zO ?_|refine zB ?_|refine zX ?_|refine zT ?_|refine skipI rfl ?_)
  refine endR rfl ?_
  repeat' (first|exact trivial|exact rfl|refine ⟨rfl,?_⟩|refine And.intro ?_ ?_)
  simp [cmpI,c1]
 ·simp only [decide_eq_false_iff_not] at c1
  repeat' (first|refine zN ?_|refine zE ?_|refine zP ?_|refine pD ?_|refine zS ?_|refine zR ?_|refine zO ?_|refine zB ?_|refine zX ?_|refine zT ?_|refine skipI rfl ?_)
  refine condI rfl (fun c2=>?_) (fun c2=>?_)
  ·simp only [decide_eq_true_eq] at c2
   repeat' (first|refine zN ?_|refine zE ?_|refine zP ?_|refine pD ?_|refine zS ?_|refine zR ?_|refine zO ?_|refine zB ?_|refine zX ?_|refine zT ?_|refine skipI rfl ?_)
   refine endR rfl ?_
   repeat' (first|exact trivial|exact rfl|refine ⟨rfl,?_⟩|refine And.intro ?_ ?_)
   simp [cmpI,c1,c2]
  ·simp only [decide_eq_false_iff_not] at c2
   repeat' (first|refine zN ?_|refine zE ?_|refine zP ?_|refine pD ?_|refine zS ?_|refine zR ?_|refine zO ?_|refine zB ?_|refine zX ?_|refine zT ?_|refine skipI rfl ?_)
   refine endR rfl ?_
   repeat' (first|exact trivial|exact rfl|refine ⟨rfl,?_⟩|refine And.intro ?_ ?_)
   simp [cmpI,c1,c2]
def sigCmp:List (Nat × Spec):=[(97,cmpS)]
theorem sigCmpOk:SigOk Tryz.prog (look sigCmp):=sigCons sigNil Tryz.func97 (by kernel_rfl) (c:=body Tryz.f97) rfl cmpOk
def byS:Spec:=plain fun
 | [.agg [.int .i64 a,.int .i64 b,.int .i64 c,.int .i64 d],.agg [.int .i64 a',.int .i64 b',.int .i64 c',.int .i64 d']]=>outV True (.int .i64 (cmpI b b'))
 | _=>none
theorem byOk:SpecSound Tryz.prog 59 byS:=by
 refine soundP (envOf sigCmpOk) Tryz.func59 (c:=body Tryz.f59) rfl (by kernel_rfl) rfl ?_
 intro args out hf hpre
 split at hf <;> try (cases hf;done)
 rename_i a b c d a' b' c' d'
 cases hf
 refine ⟨Nat.le_of_ble_eq_true rfl,initI rfl ?_⟩
 repeat' (first|refine zN ?_|refine zE ?_|refine zP ?_|refine pD ?_|refine zS ?_|refine zR ?_|refine zO ?_|refine zB ?_|refine zX ?_|refine zT ?_|refine skipI rfl ?_)
 refine endR rfl ?_
 repeat' (first|exact trivial|exact rfl|refine ⟨rfl,?_⟩|refine And.intro ?_ ?_)
def ownsB (o:Int) (b:Bk.El):Bool:=decide (b.2.2.2=o)
def free1S:Spec:=⟨true,fun args rows=>match args,rows with
 | [.agg [.int .i64 a,.int .i64 b,.int .i64 c,.int .i64 d],.ptr 0 0],[.box [.int .i64 o]]=>some ⟨True,.bool (decide (d=o)),[.box [.int .i64 o]],true⟩
 | _,_=>none⟩
theorem free1Ok:SpecSound Tryz.prog 92 free1S:=by
 refine soundR (envOf sigNil) Tryz.func92 (c:=body Tryz.f92) rfl (by kernel_rfl) rfl ?_
 intro args rows out hf hpre
 split at hf <;> try (cases hf;done)
 rename_i a b c d o
 cases hf
 refine ⟨Nat.le_of_ble_eq_true rfl,initI rfl ?_⟩
 repeat' (first|refine zN ?_|refine zE ?_|refine zP ?_|refine pD ?_|refine zS ?_|refine zR ?_|refine zO ?_|refine zB ?_|refine zX ?_|refine zT ?_|refine skipI rfl ?_)
 refine endR rfl ?_
 repeat' (first|exact trivial|exact rfl|refine ⟨rfl,?_⟩|refine And.intro ?_ ?_)
def sigIdx:List (Nat × Spec):=[(94,meetS),(92,free1S)]
theorem sigIdxOk:SigOk Tryz.prog (look sigIdx):=sigCons (sigCons sigNil Tryz.func92 (by kernel_rfl) (c:=body Tryz.f92) rfl free1Ok)
 Tryz.func94 (by kernel_rfl) (c:=body Tryz.f94) rfl meetOk
def meetE (s e:Int) (b:Bk.El):Bool:=meetB s e b.2.1 b.2.2.1
def idxS:Spec:=⟨true,fun args rows=>match args,rows with
 | [.sl (.pair (.int .i64) (.pair (.int .i64) (.pair (.int .i64) (.int .i64)))) xs,.fn 94 [.agg [.int .i64 s,.int .i64 e]] []],[]=>some ⟨True,.int .i64 (idxF (meetE s e) xs),[],true⟩
 | [.own 0,.fn 92 [] [.ptr 1 0]],[.seq (.pair (.int .i64) (.pair (.int .i64) (.pair (.int .i64) (.int .i64)))) xs,.box [.int .i64 o]]=>some ⟨True,.int .i64 (idxF (ownsB o) xs),[.seq Bk xs,.box [.int .i64 o]],true⟩
 | _,_=>none⟩
theorem idxOk:SpecSound Tryz.prog 123 idxS:=by
 refine soundR (envOf sigIdxOk) Tryz.func123 (c:=body Tryz.f123) rfl (by kernel_rfl) rfl ?_
 intro args rows out hf hpre
 split at hf <;> try (cases hf;done)
 ·rename_i xs s e
  cases hf
  refine ⟨Nat.le_of_ble_eq_true rfl,initI (args:=[.sl Bk xs,.fn 94 [.agg [.int .i64 s,.int .i64 e]] []]) (rows:=[]) rfl ?_⟩
  refine factSl (t:=0) (ty:=Bk) rfl (fun hxs=>?_)
  have hmx:xs.length≤9223372036854775807:=by have:=hxs.1;unfold maxLen at this;omega
  repeat' (first|refine zN ?_|refine zE ?_|refine zP ?_|refine pD ?_|refine zS ?_|refine zR ?_|refine zO ?_|refine zB ?_|refine zX ?_|refine zT ?_|refine skipI rfl ?_)
  refine loopI (σ:=Nat) (fun i=>[(8,.int .i64 i)]) (fun i=>[]) (fun i=>i≤xs.length∧∀ j,j < i→meetE s e (getI xs Bk.dflt j)=false) (fun i=>xs.length - i) 0 rfl (fun _=>rfl) rfl ?_ ?_ ?_
  ·exact ⟨Nat.zero_le _,fun j hj=>by omega⟩
  ·repeat' (first|exact trivial|exact rfl|refine ⟨rfl,?_⟩|refine And.intro ?_ ?_)
  ·intro i ⟨hi,hb⟩
   repeat' (first|refine zN ?_|refine zE ?_|refine zP ?_|refine pD ?_|refine zS ?_|refine zR ?_|refine zO ?_|refine zB ?_|refine zX ?_|refine zT ?_|refine skipI rfl ?_)
   refine condI rfl (fun c1=>?_) (fun c1=>?_)
   ·simp only [decide_eq_true_eq] at c1
    repeat' (first|refine zN ?_|refine zE ?_|refine zP ?_|refine pD ?_|refine zS ?_|refine zR ?_|refine zO ?_|refine zB ?_|refine zX ?_|refine zT ?_|refine skipI rfl ?_)
    refine condI rfl (fun c2=>?_) (fun c2=>?_)
    ·repeat' (first|refine zN ?_|refine zE ?_|refine zP ?_|refine pD ?_|refine zS ?_|refine zR ?_|refine zO ?_|refine zB ?_|refine zX ?_|refine zT ?_|refine skipI rfl ?_)
     refine endR rfl ?_
     repeat' (first|exact trivial|exact rfl|refine ⟨rfl,?_⟩|refine And.intro ?_ ?_)
     exact idxF_found (d:=Bk.dflt) (by omega) hb c2
    ·repeat' (first|refine zN ?_|refine zE ?_|refine zP ?_|refine pD ?_|refine zS ?_|refine zR ?_|refine zO ?_|refine zB ?_|refine zX ?_|refine zT ?_|refine skipI rfl ?_)
     refine roundI (i+1) rfl ?_ ?_ ?_
     ·refine ⟨by omega,fun j hj=>?_⟩
      by_cases hji:j=i
      ·subst hji;exact c2
      ·exact hb j (by omega)
     ·show xs.length - (i+1) < xs.length - i
      omega
     ·repeat' (first|exact trivial|exact rfl|refine ⟨rfl,?_⟩|refine And.intro ?_ ?_)
   ·simp only [decide_eq_false_iff_not] at c1
    repeat' (first|refine zN ?_|refine zE ?_|refine zP ?_|refine pD ?_|refine zS ?_|refine zR ?_|refine zO ?_|refine zB ?_|refine zX ?_|refine zT ?_|refine skipI rfl ?_)
    refine endR rfl ?_
    repeat' (first|exact trivial|exact rfl|refine ⟨rfl,?_⟩|refine And.intro ?_ ?_)
    exact idxF_none (d:=Bk.dflt) fun j hj=>hb j (by omega)
 ·rename_i xs o
  cases hf
  refine ⟨Nat.le_of_ble_eq_true rfl,initI (args:=[.own 0,.fn 92 [] [.ptr 1 0]]) (rows:=[.seq Bk xs,.box [.int .i64 o]]) rfl ?_⟩
  refine factRow (r:=100000) (ty:=Bk) rfl (fun hmx _=>?_)
  have hmx:xs.length * 32≤140737488355328:=hmx
  repeat' (first|refine zN ?_|refine zE ?_|refine zP ?_|refine pD ?_|refine zS ?_|refine zR ?_|refine zO ?_|refine zB ?_|refine zX ?_|refine zT ?_|refine skipI rfl ?_)
  refine loopI (σ:=Nat) (fun i=>[(8,.int .i64 i)]) (fun i=>[]) (fun i=>i≤xs.length∧∀ j,j < i→ownsB o (getI xs Bk.dflt j)=false) (fun i=>xs.length - i) 0 rfl (fun _=>rfl) rfl ?_ ?_ ?_
  ·exact ⟨Nat.zero_le _,fun j hj=>by omega⟩
  ·repeat' (first|exact trivial|exact rfl|refine ⟨rfl,?_⟩|refine And.intro ?_ ?_)
  ·intro i ⟨hi,hb⟩
   repeat' (first|refine zN ?_|refine zE ?_|refine zP ?_|refine pD ?_|refine zS ?_|refine zR ?_|refine zO ?_|refine zB ?_|refine zX ?_|refine zT ?_|refine skipI rfl ?_)
   refine condI rfl (fun c1=>?_) (fun c1=>?_)
   ·simp only [decide_eq_true_eq] at c1
    repeat' (first|refine zN ?_|refine zE ?_|refine zP ?_|refine pD ?_|refine zS ?_|refine zR ?_|refine zO ?_|refine zB ?_|refine zX ?_|refine zT ?_|refine skipI rfl ?_)
    refine condI rfl (fun c2=>?_) (fun c2=>?_)
    ·repeat' (first|refine zN ?_|refine zE ?_|refine zP ?_|refine pD ?_|refine zS ?_|refine zR ?_|refine zO ?_|refine zB ?_|refine zX ?_|refine zT ?_|refine skipI rfl ?_)
     refine endR rfl ?_
     repeat' (first|exact trivial|exact rfl|refine ⟨rfl,?_⟩|refine And.intro ?_ ?_)
     exact idxF_found (d:=Bk.dflt) (by omega) hb c2
    ·repeat' (first|refine zN ?_|refine zE ?_|refine zP ?_|refine pD ?_|refine zS ?_|refine zR ?_|refine zO ?_|refine zB ?_|refine zX ?_|refine zT ?_|refine skipI rfl ?_)
     refine roundI (i+1) rfl ?_ ?_ ?_
     ·refine ⟨by omega,fun j hj=>?_⟩
      by_cases hji:j=i
      ·subst hji;exact c2
      ·exact hb j (by omega)
     ·show xs.length - (i+1) < xs.length - i
      omega
     ·repeat' (first|exact trivial|exact rfl|refine ⟨rfl,?_⟩|refine And.intro ?_ ?_)
   ·simp only [decide_eq_false_iff_not] at c1
    repeat' (first|refine zN ?_|refine zE ?_|refine zP ?_|refine pD ?_|refine zS ?_|refine zR ?_|refine zO ?_|refine zB ?_|refine zX ?_|refine zT ?_|refine skipI rfl ?_)
    refine endR rfl ?_
    repeat' (first|exact trivial|exact rfl|refine ⟨rfl,?_⟩|refine And.intro ?_ ?_)
    exact idxF_none (d:=Bk.dflt) fun j hj=>hb j (by omega)
def sigIdxM:List (Nat × Spec):=[(94,meetS)]
theorem sigIdxMOk:SigOk Tryz.prog (look sigIdxM):=sigCons sigNil Tryz.func94 (by kernel_rfl) (c:=body Tryz.f94) rfl meetOk
def idxMS:Spec:=⟨true,fun args rows=>match args,rows with
 | [.sl (.pair (.int .i64) (.pair (.int .i64) (.pair (.int .i64) (.int .i64)))) xs,.fn 94 [.agg [.int .i64 s,.int .i64 e]] []],[]=>some ⟨True,.int .i64 (idxF (meetE s e) xs),[],true⟩
 | _,_=>none⟩
theorem idxMOk:SpecSound Tryz.prog 123 idxMS:=by
 refine soundR (envOf sigIdxMOk) Tryz.func123 (c:=body Tryz.f123) rfl (by kernel_rfl) rfl ?_
 intro args rows out hf hpre
 split at hf <;> try (cases hf;done)
 rename_i xs s e
 cases hf
 refine ⟨Nat.le_of_ble_eq_true rfl,initI (args:=[.sl Bk xs,.fn 94 [.agg [.int .i64 s,.int .i64 e]] []]) (rows:=[]) rfl ?_⟩
 refine factSl (t:=0) (ty:=Bk) rfl (fun hxs=>?_)
 have hmx:xs.length≤9223372036854775807:=by have:=hxs.1;unfold maxLen at this;omega
 repeat' (first|refine zN ?_|refine zE ?_|refine zP ?_|refine pD ?_|refine zS ?_|refine zR ?_|refine zO ?_|refine zB ?_|refine zX ?_|refine zT ?_|refine skipI rfl ?_)
 refine loopI (σ:=Nat) (fun i=>[(8,.int .i64 i)]) (fun i=>[]) (fun i=>i≤xs.length∧∀ j,j < i→meetE s e (getI xs Bk.dflt j)=false) (fun i=>xs.length - i) 0 rfl (fun _=>rfl) rfl ?_ ?_ ?_
 ·exact ⟨Nat.zero_le _,fun j hj=>by omega⟩
 ·repeat' (first|exact trivial|exact rfl|refine ⟨rfl,?_⟩|refine And.intro ?_ ?_)
 ·intro i ⟨hi,hb⟩
  repeat' (first|refine zN ?_|refine zE ?_|refine zP ?_|refine pD ?_|refine zS ?_|refine zR ?_|refine zO ?_|refine zB ?_|refine zX ?_|refine zT ?_|refine skipI rfl ?_)
  refine condI rfl (fun c1=>?_) (fun c1=>?_)
  ·simp only [decide_eq_true_eq] at c1
   repeat' (first|refine zN ?_|refine zE ?_|refine zP ?_|refine pD ?_|refine zS ?_|refine zR ?_|refine zO ?_|refine zB ?_|refine zX ?_|refine zT ?_|refine skipI rfl ?_)
   refine condI rfl (fun c2=>?_) (fun c2=>?_)
   ·repeat' (first|refine zN ?_|refine zE ?_|refine zP ?_|refine pD ?_|refine zS ?_|refine zR ?_|refine zO ?_|refine zB ?_|refine zX ?_|refine zT ?_|refine skipI rfl ?_)
    refine endR rfl ?_
    repeat' (first|exact trivial|exact rfl|refine ⟨rfl,?_⟩|refine And.intro ?_ ?_)
    exact idxF_found (d:=Bk.dflt) (by omega) hb c2
   ·repeat' (first|refine zN ?_|refine zE ?_|refine zP ?_|refine pD ?_|refine zS ?_|refine zR ?_|refine zO ?_|refine zB ?_|refine zX ?_|refine zT ?_|refine skipI rfl ?_)
    refine roundI (i+1) rfl ?_ ?_ ?_
    ·refine ⟨by omega,fun j hj=>?_⟩
     by_cases hji:j=i
     ·subst hji;exact c2
     ·exact hb j (by omega)
    ·show xs.length - (i+1) < xs.length - i
     omega
    ·repeat' (first|exact trivial|exact rfl|refine ⟨rfl,?_⟩|refine And.intro ?_ ?_)
  ·simp only [decide_eq_false_iff_not] at c1
   repeat' (first|refine zN ?_|refine zE ?_|refine zP ?_|refine pD ?_|refine zS ?_|refine zR ?_|refine zO ?_|refine zB ?_|refine zX ?_|refine zT ?_|refine skipI rfl ?_)
   refine endR rfl ?_
   repeat' (first|exact trivial|exact rfl|refine ⟨rfl,?_⟩|refine And.intro ?_ ?_)
   exact idxF_none (d:=Bk.dflt) fun j hj=>hb j (by omega)
def sigAny:List (Nat × Spec):=[(123,idxMS)]
theorem sigAnyOk:SigOk Tryz.prog (look sigAny):=sigCons sigNil Tryz.func123 (by kernel_rfl) (c:=body Tryz.f123) rfl idxMOk
def anyS:Spec:=plain fun
 | [.sl (.pair (.int .i64) (.pair (.int .i64) (.pair (.int .i64) (.int .i64)))) xs,.fn 94 [.agg [.int .i64 s,.int .i64 e]] []]=>outV True (.bool (xs.any (meetE s e)))
 | _=>none
theorem anyOk:SpecSound Tryz.prog 93 anyS:=by
 refine soundP (envOf sigAnyOk) Tryz.func93 (c:=body Tryz.f93) rfl (by kernel_rfl) rfl ?_
 intro args out hf hpre
 split at hf <;> try (cases hf;done)
 rename_i xs s e
 cases hf
 refine ⟨Nat.le_of_ble_eq_true rfl,initI (args:=[.sl Bk xs,.fn 94 [.agg [.int .i64 s,.int .i64 e]] []]) rfl ?_⟩
 repeat' (first|refine zN ?_|refine zE ?_|refine zP ?_|refine pD ?_|refine zS ?_|refine zR ?_|refine zO ?_|refine zB ?_|refine zX ?_|refine zT ?_|refine skipI rfl ?_)
 refine endR rfl ?_
 repeat' (first|exact trivial|exact rfl|refine ⟨rfl,?_⟩|refine And.intro ?_ ?_)
 exact idxF_any.symm
end Go.AM.YtmohhhbgcehnpaaGreat
end

section
set_option linter.all false
namespace Go.AM.YtmohhhbgcehnpaaGreat
open Go.Proofs
set_option maxRecDepth 100000
set_option maxHeartbeats 4000000
structure Cal (xss:List (List Bk.El)):Prop where
 len:xss.length=60
 small:∀ xs∈xss,List.length (α:=Bk.El) xs≤1000000
theorem Cal.get {xss:List (List Bk.El)} (h:Cal xss) {i:Nat} (hi:i < 60):(getI xss [] i)∈xss∧(getI xss [] i).length≤1000000:=by
 have h1:i < xss.length:=by rw [h.len];exact hi
 have h2:getI xss [] i=xss[i]:=by simp [getI,List.getD,List.getElem?_eq_getElem h1]
 rw [h2]
 exact ⟨List.getElem_mem h1,h.small _ (List.getElem_mem h1)⟩
def noCal:List (List Bk.El):=List.replicate 60 []
def newS:Spec:=plain fun
 | []=>some ⟨True,.ptr 0 0,[.arr Bk noCal none],false⟩
 | _=>none
theorem newOk:SpecSound Tryz.prog 23 newS:=by
 refine soundP (envOf sigNil) Tryz.func23 (c:=body Tryz.f23) rfl (by kernel_rfl) rfl ?_
 intro args out hf hpre
 split at hf <;> try (cases hf;done)
 cases hf
 refine ⟨Nat.le_of_ble_eq_true rfl,initI rfl ?_⟩
 repeat' (first|refine zN ?_|refine zE ?_|refine zP ?_|refine pD ?_|refine zS ?_|refine zR ?_|refine zO ?_|refine zB ?_|refine zX ?_|refine zT ?_|refine skipI rfl ?_)
 refine endR rfl ?_
 repeat' (first|exact trivial|exact rfl|refine ⟨rfl,?_⟩|refine And.intro ?_ ?_)
def cloneN:Spec:=plain fun
 | [.ext (.nl (.pair (.int .i64) (.pair (.int .i64) (.pair (.int .i64) (.int .i64)))))]=>some ⟨True,.own 0,[.seq Bk []],false⟩
 | _=>none
theorem cloneNOk:SpecSound Tryz.prog 72 cloneN:=by
 refine soundP (envOf sigNil) Tryz.func72 (c:=body Tryz.f72) rfl (by kernel_rfl) rfl ?_
 intro args out hf hpre
 split at hf <;> try (cases hf;done)
 cases hf
 refine ⟨Nat.le_of_ble_eq_true rfl,initI rfl ?_⟩
 repeat' (first|refine zN ?_|refine zE ?_|refine zP ?_|refine pD ?_|refine zS ?_|refine zR ?_|refine zO ?_|refine zB ?_|refine zX ?_|refine zT ?_|refine skipI rfl ?_)
 refine condT rfl ?_
 repeat' (first|refine zN ?_|refine zE ?_|refine zP ?_|refine pD ?_|refine zS ?_|refine zR ?_|refine zO ?_|refine zB ?_|refine zX ?_|refine zT ?_|refine skipI rfl ?_)
 refine endR rfl ?_
 repeat' (first|exact trivial|exact rfl|refine ⟨rfl,?_⟩|refine And.intro ?_ ?_)
def cloneM:Spec:=plain fun
 | [.ext (.nn (.pair (.int .i64) (.pair (.int .i64) (.pair (.int .i64) (.int .i64)))) xs)]=>some ⟨xs.length * 32≤140737488355328,.own 0,[.seq Bk xs],false⟩
 | _=>none
theorem cloneMOk:SpecSound Tryz.prog 72 cloneM:=by
 refine soundP (envOf sigNil) Tryz.func72 (c:=body Tryz.f72) rfl (by kernel_rfl) rfl ?_
 intro args out hf hpre
 split at hf <;> try (cases hf;done)
 rename_i xs
 cases hf
 refine ⟨Nat.le_of_ble_eq_true rfl,initI (args:=[.ext (.nn Bk xs)]) rfl ?_⟩
 change xs.length * 32≤140737488355328 at hpre
 repeat' (first|refine zN ?_|refine zE ?_|refine zP ?_|refine pD ?_|refine zS ?_|refine zR ?_|refine zO ?_|refine zB ?_|refine zX ?_|refine zT ?_|refine skipI rfl ?_)
 refine condF rfl ?_
 repeat' (first|refine zN ?_|refine zE ?_|refine zP ?_|refine pD ?_|refine pC (by first|exact hpre|(simp;omega)) ?_|refine zS ?_|refine zR ?_|refine zO ?_|refine zB ?_|refine zX ?_|refine zT ?_|refine skipI rfl ?_)
 refine endR rfl ?_
 repeat' (first|exact trivial|exact rfl|refine ⟨rfl,?_⟩|refine And.intro ?_ ?_)
def cloneS:Spec:=plain fun
 | [.sl (.pair (.int .i64) (.pair (.int .i64) (.pair (.int .i64) (.int .i64)))) xs]=>some ⟨xs.length * 32≤140737488355328,.own 0,[.seq Bk xs],false⟩
 | _=>none
theorem cloneOk:SpecSound Tryz.prog 72 cloneS:=by
 intro args rows out hf hpre hr w0 g0 R0 vals h1 h2 h3 h4 h5
 unfold cloneS plain at hf
 dsimp only at hf
 split at hf <;> try (cases hf;done)
 rename_i xs
 cases hf
 cases h5 with
 | cons h5 h6 =>
 cases h6
 cases h5 with
 | sl hrd =>
 obtain ⟨a,cap,rfl,hc1,hc2,hc3,hc4⟩:=hrd
 cases a with
 | none =>
   obtain rfl:xs=[]:=by
    cases xs with
    | nil=>rfl
    | cons x r=>obtain ⟨_,_,h,_⟩:=hc4 (by simp);cases h
   exact cloneNOk [.ext (.nl Bk)] rows _ rfl trivial (fun _=>hr rfl) w0 g0 R0 _ h1 h2 h3 h4 (.cons (.ext ⟨cap,rfl,hc2⟩) .nil)
 | some a =>
   exact cloneMOk [.ext (.nn Bk xs)] rows _ rfl hpre (fun _=>hr rfl) w0 g0 R0 _ h1 h2 h3 h4 (.cons (.ext ⟨⟨some a,cap,rfl,hc1,hc2,hc3,hc4⟩,a,_,_,rfl⟩) .nil)
def sigBusy:List (Nat × Spec):=[(71,isToolS),(93,anyS)]
theorem sigBusyOk:SigOk Tryz.prog (look sigBusy):=sigCons (sigCons sigNil Tryz.func93 (by kernel_rfl) (c:=body Tryz.f93) rfl anyOk)
 Tryz.func71 (by kernel_rfl) (c:=body Tryz.f71) rfl isToolOk
def toolL (xss:List (List Bk.El)) (tl:Int):List Bk.El:=getI xss [] tl.toNat
def busyF (xss:List (List Bk.El)) (tl s e:Int):Bool:=toolB tl&&(decide (s < e)&&(toolL xss tl).any (meetE s e))
def busyS:Spec:=plain fun
 | [.nilptr,.int .i64 tl,.int .i64 s,.int .i64 e]=>outV True (.bool false)
 | [.ext (.cref (.pair (.int .i64) (.pair (.int .i64) (.pair (.int .i64) (.int .i64)))) xss 0),.int .i64 tl,.int .i64 s,.int .i64 e]=>outV (Cal xss) (.bool (busyF xss tl s e))
 | _=>none
theorem toolB_true {tl:Int} (h:toolB tl=true):0≤tl∧tl < 60:=by
 unfold toolB at h;simpa using h
theorem toolB_of {tl:Int} (h:0≤tl) (k:tl < 60):toolB tl=true:=by
 unfold toolB;simp [h,k]
theorem busyOk:SpecSound Tryz.prog 57 busyS:=by
 refine soundP (envOf sigBusyOk) Tryz.func57 (c:=body Tryz.f57) rfl (by kernel_rfl) rfl ?_
 intro args out hf hpre
 split at hf <;> try (cases hf;done)
 ·rename_i tl s e
  cases hf
  refine ⟨Nat.le_of_ble_eq_true rfl,initI rfl ?_⟩
  repeat' (first|refine zN ?_|refine zE ?_|refine zP ?_|refine pD ?_|refine zS ?_|refine zR ?_|refine zO ?_|refine zB ?_|refine zX ?_|refine zT ?_|refine skipI rfl ?_)
  refine condT (by first|rfl|simp [condRun,St.pathOf,St.get,St.ent,look]) ?_
  repeat' (first|refine zN ?_|refine zE ?_|refine zP ?_|refine pD ?_|refine zS ?_|refine zR ?_|refine zO ?_|refine zB ?_|refine zX ?_|refine zT ?_|refine skipI rfl ?_)
  refine endR rfl ?_
  repeat' (first|exact trivial|exact rfl|refine ⟨rfl,?_⟩|refine And.intro ?_ ?_)
 ·rename_i xss tl s e
  cases hf
  change Cal xss at hpre
  refine ⟨Nat.le_of_ble_eq_true rfl,initI (args:=[.ext (.cref Bk xss 0),.int .i64 tl,.int .i64 s,.int .i64 e]) rfl ?_⟩
  repeat' (first|refine zN ?_|refine zE ?_|refine zP ?_|refine pD ?_|refine zS ?_|refine zR ?_|refine zO ?_|refine zB ?_|refine zX ?_|refine zT ?_|refine skipI rfl ?_)
  refine condI rfl (fun c1=>?_) (fun c1=>?_)
  ·repeat' (first|refine zN ?_|refine zE ?_|refine zP ?_|refine pD ?_|refine zS ?_|refine zR ?_|refine zO ?_|refine zB ?_|refine zX ?_|refine zT ?_|refine skipI rfl ?_)
   refine endR rfl ?_
   repeat' (first|exact trivial|exact rfl|refine ⟨rfl,?_⟩|refine And.intro ?_ ?_)
   unfold busyF
   simp only [Bool.or_eq_true,Bool.not_eq_true',decide_eq_true_eq,Bool.false_or] at c1
   rcases c1 with c1|c1
   ·rw [c1];rfl
   ·rw [show decide (s < e)=false by simpa using c1];simp
  ·simp only [Bool.or_eq_false_iff,Bool.not_eq_false',decide_eq_false_iff_not] at c1
   obtain ⟨h1,h2⟩:=toolB_true (tl:=tl) (by simpa using c1.1)
   have hl:=hpre.len
   have h3:tl.toNat < 60:=by omega
   repeat' (first|refine zN ?_|refine zE ?_|refine zP ?_|refine pD ?_|refine pC (by (rw [hl];omega)) ?_|refine zS ?_|refine zR ?_|refine zO ?_|refine zB ?_|refine zX ?_|refine zT ?_|refine skipI rfl ?_)
   refine endR rfl ?_
   repeat' (first|exact trivial|exact rfl|refine ⟨rfl,?_⟩|refine And.intro ?_ ?_)
   unfold busyF
   rw [toolB_of h1 h2,show decide (s < e)=true by simp;omega]
   simp [toolL]
end Go.AM.YtmohhhbgcehnpaaGreat
end

section
set_option linter.all false
namespace Go.AM.YtmohhhbgcehnpaaGreat
open Go.Proofs
set_option maxRecDepth 100000
set_option maxHeartbeats 4000000
def sigList:List (Nat × Spec):=[(71,isToolS),(72,cloneS)]
theorem sigListOk:SigOk Tryz.prog (look sigList):=sigCons (sigCons sigNil Tryz.func72 (by kernel_rfl) (c:=body Tryz.f72) rfl cloneOk)
 Tryz.func71 (by kernel_rfl) (c:=body Tryz.f71) rfl isToolOk
def listF (xss:List (List Bk.El)) (tl:Int):List Bk.El:=if toolB tl=true then toolL xss tl else []
def listS:Spec:=plain fun
 | [.nilptr,.int .i64 tl]=>some ⟨True,.own 0,[.seq Bk []],false⟩
 | [.ext (.cref (.pair (.int .i64) (.pair (.int .i64) (.pair (.int .i64) (.int .i64)))) xss 0),.int .i64 tl]=>some ⟨Cal xss,.own 0,[.seq Bk (listF xss tl)],false⟩
 | _=>none
theorem listOk:SpecSound Tryz.prog 40 listS:=by
 refine soundP (envOf sigListOk) Tryz.func40 (c:=body Tryz.f40) rfl (by kernel_rfl) rfl ?_
 intro args out hf hpre
 split at hf <;> try (cases hf;done)
 ·rename_i tl
  cases hf
  refine ⟨Nat.le_of_ble_eq_true rfl,initI rfl ?_⟩
  repeat' (first|refine zN ?_|refine zE ?_|refine zP ?_|refine pD ?_|refine zS ?_|refine zR ?_|refine zO ?_|refine zB ?_|refine zX ?_|refine zT ?_|refine skipI rfl ?_)
  refine condT rfl ?_
  repeat' (first|refine zN ?_|refine zE ?_|refine zP ?_|refine pD ?_|refine zS ?_|refine zR ?_|refine zO ?_|refine zB ?_|refine zX ?_|refine zT ?_|refine skipI rfl ?_)
  refine endR rfl ?_
  repeat' (first|exact trivial|exact rfl|refine ⟨rfl,?_⟩|refine And.intro ?_ ?_)
 ·rename_i xss tl
  cases hf
  change Cal xss at hpre
  refine ⟨Nat.le_of_ble_eq_true rfl,initI (args:=[.ext (.cref Bk xss 0),.int .i64 tl]) rfl ?_⟩
  repeat' (first|refine zN ?_|refine zE ?_|refine zP ?_|refine pD ?_|refine zS ?_|refine zR ?_|refine zO ?_|refine zB ?_|refine zX ?_|refine zT ?_|refine skipI rfl ?_)
  refine condI rfl (fun c1=>?_) (fun c1=>?_)
  ·repeat' (first|refine zN ?_|refine zE ?_|refine zP ?_|refine pD ?_|refine zS ?_|refine zR ?_|refine zO ?_|refine zB ?_|refine zX ?_|refine zT ?_|refine skipI rfl ?_)
   refine endR rfl ?_
   repeat' (first|exact trivial|exact rfl|refine ⟨rfl,?_⟩|refine And.intro ?_ ?_)
   unfold listF
   simp only [Bool.or_eq_true,Bool.not_eq_true',decide_eq_true_eq,Bool.false_or] at c1
   rw [if_neg (by rw [c1];simp)]
  ·simp only [Bool.or_eq_false_iff,Bool.not_eq_false',decide_eq_false_iff_not] at c1
   obtain ⟨h1,h2⟩:=toolB_true (tl:=tl) (by simpa using c1)
   have hl:=hpre.len
   have h3:tl.toNat < 60:=by omega
   have h4:=(hpre.get h3).2
   repeat' (first|refine zN ?_|refine zE ?_|refine zP ?_|refine pD ?_|refine pC (by first|(first|(rw [hl];omega)|(show List.length (getI xss [] (0+0+tl.toNat * 1)) * 32≤140737488355328;rw [show 0+0+tl.toNat * 1=tl.toNat by omega];omega))) ?_|refine zS ?_|refine zR ?_|refine zO ?_|refine zB ?_|refine zX ?_|refine zT ?_|refine skipI rfl ?_)
   refine endR rfl ?_
   repeat' (first|exact trivial|exact rfl|refine ⟨rfl,?_⟩|refine And.intro ?_ ?_)
   unfold listF
   rw [if_pos (toolB_of h1 h2)]
   simp [toolL]
def lenF (xss:List (List Bk.El)):Nat:=(xss.map List.length).sum
theorem lenF_take_succ {xss:List (List Bk.El)} {i:Nat} (h:i < xss.length):lenF (xss.take (i+1))=lenF (xss.take i)+(getI xss [] i).length:=by
 have:getI xss [] i=xss[i]:=by simp [getI,List.getD,List.getElem?_eq_getElem h]
 unfold lenF
 rw [List.take_succ_eq_append_getElem h,this,List.map_append,List.sum_append]
 simp only [List.map_cons,List.map_nil,List.sum_cons,List.sum_nil,Nat.add_zero]
theorem lenF_small {xss:List (List Bk.El)} (h:∀ xs∈xss,List.length (α:=Bk.El) xs≤1000000):lenF xss≤xss.length * 1000000:=by
 induction xss with
 | nil=>simp [lenF]
 | cons x r ih =>
   have h1:=ih fun xs hx=>h xs (by simp [hx])
   have h2:=h x (by simp)
   simp only [lenF,List.map_cons,List.sum_cons,List.length_cons] at *
   omega
def lenS:Spec:=plain fun
 | [.nilptr]=>outV True (.int .i64 0)
 | [.ext (.cref (.pair (.int .i64) (.pair (.int .i64) (.pair (.int .i64) (.int .i64)))) xss 0)]=>outV (Cal xss) (.int .i64 (lenF xss))
 | _=>none
theorem lenOk:SpecSound Tryz.prog 27 lenS:=by
 refine soundP (envOf sigNil) Tryz.func27 (c:=body Tryz.f27) rfl (by kernel_rfl) rfl ?_
 intro args out hf hpre
 split at hf <;> try (cases hf;done)
 ·cases hf
  refine ⟨Nat.le_of_ble_eq_true rfl,initI rfl ?_⟩
  repeat' (first|refine zN ?_|refine zE ?_|refine zP ?_|refine pD ?_|refine zS ?_|refine zR ?_|refine zO ?_|refine zB ?_|refine zX ?_|refine zT ?_|refine skipI rfl ?_)
  refine condF rfl ?_
  repeat' (first|refine zN ?_|refine zE ?_|refine zP ?_|refine pD ?_|refine zS ?_|refine zR ?_|refine zO ?_|refine zB ?_|refine zX ?_|refine zT ?_|refine skipI rfl ?_)
  refine endR rfl ?_
  repeat' (first|exact trivial|exact rfl|refine ⟨rfl,?_⟩|refine And.intro ?_ ?_)
 ·rename_i xss
  cases hf
  change Cal xss at hpre
  refine ⟨Nat.le_of_ble_eq_true rfl,initI (args:=[.ext (.cref Bk xss 0)]) rfl ?_⟩
  have hl:=hpre.len
  repeat' (first|refine zN ?_|refine zE ?_|refine zP ?_|refine pD ?_|refine zS ?_|refine zR ?_|refine zO ?_|refine zB ?_|refine zX ?_|refine zT ?_|refine skipI rfl ?_)
  refine condT rfl ?_
  repeat' (first|refine zN ?_|refine zE ?_|refine zP ?_|refine pD ?_|refine pC (by exact hl) ?_|refine zS ?_|refine zR ?_|refine zO ?_|refine zB ?_|refine zX ?_|refine zT ?_|refine skipI rfl ?_)
  refine loopI (σ:=Nat) (fun i=>[(3,.int .i64 (lenF (xss.take i):Int)),(12,.int .i64 i)]) (fun i=>[]) (fun i=>i≤60) (fun i=>60 - i) 0 rfl (fun _=>rfl) rfl ?_ ?_ ?_
  ·exact Nat.zero_le _
  ·repeat' (first|exact trivial|exact rfl|refine ⟨rfl,?_⟩|refine And.intro ?_ ?_)
  ·intro i hi
   have hs:=lenF_small (xss:=xss.take i) (fun xs h=>hpre.small xs (List.mem_of_mem_take h))
   rw [List.length_take] at hs
   repeat' (first|refine zN ?_|refine zE ?_|refine zP ?_|refine pD ?_|refine zS ?_|refine zR ?_|refine zO ?_|refine zB ?_|refine zX ?_|refine zT ?_|refine skipI rfl ?_)
   refine condI rfl (fun c1=>?_) (fun c1=>?_)
   ·simp only [decide_eq_true_eq] at c1
    have hi2:i < 60:=by omega
    have h4:=(hpre.get hi2).2
    have h5:(i:Int).toNat=i:=by omega
    repeat' (first|refine zN ?_|refine zE ?_|refine zP ?_|refine pD ?_|refine pC (by first|(first|(rw [hl];omega)|(simp only [h5];omega))) ?_|refine zS ?_|refine zR ?_|refine zO ?_|refine zB ?_|refine zX ?_|refine zT ?_|refine skipI rfl ?_)
    refine roundI (i+1) rfl ?_ ?_ ?_
    ·show i+1≤60
     omega
    ·show 60 - (i+1) < 60 - i
     omega
    ·repeat' (first|exact trivial|exact rfl|refine ⟨rfl,?_⟩|refine And.intro ?_ ?_)
     rw [lenF_take_succ (by omega)]
     simp
   ·simp only [decide_eq_false_iff_not] at c1
    repeat' (first|refine zN ?_|refine zE ?_|refine zP ?_|refine pD ?_|refine zS ?_|refine zR ?_|refine zO ?_|refine zB ?_|refine zX ?_|refine zT ?_|refine skipI rfl ?_)
    have h6:xss.take i=xss:=List.take_of_length_le (by omega)
    refine endR rfl ?_
    repeat' (first|exact trivial|exact rfl|refine ⟨rfl,?_⟩|refine And.intro ?_ ?_)
    rw [h6]
def ownedF (xss:List (List Bk.El)) (o:Int):List Bk.El:=(xss.flatten).filter (ownsB o)
theorem flat_len (xss:List (List Bk.El)):xss.flatten.length=lenF xss:=by
 simp [lenF,List.length_flatten]
theorem take_succ_getI {α:Type} {xs:List α} {d:α} {j:Nat} (h:j < xs.length):xs.take (j+1)=xs.take j++[getI xs d j]:=by
 have:getI xs d j=xs[j]:=by simp [getI,List.getD,List.getElem?_eq_getElem h]
 rw [List.take_succ_eq_append_getElem h,this]
end Go.AM.YtmohhhbgcehnpaaGreat
end
