/- DiA, DiB. -/
import Derived.Test.YtkgmmmhokgdcaaaGreatPb14

section
set_option linter.all false
namespace Go.AM.YtkgmmmhokgdcaaaGreat
open Go.Proofs
set_option maxRecDepth 100000
set_option maxHeartbeats 4000000
abbrev tJob:Ty:=.pair (.int .i64) (.pair (.int .i64) (.pair .bool (.pair (.int .i64) (.pair (.int .i64) (.pair (.int .i64) (.int .i64))))))
abbrev JobT:=Int × Int × Bool × Int × Int × Int × Int
abbrev tCmp:Ty:=.fn2 tJob (.int .i64)
def jLot (j:JobT):Int:=j.1
def jRec (j:JobT):Int:=j.2.1
def jHot (j:JobT):Bool:=j.2.2.1
def jDue (j:JobT):Int:=j.2.2.2.1
def jArr (j:JobT):Int:=j.2.2.2.2.1
def jLen (j:JobT):Int:=j.2.2.2.2.2.1
def jCnt (j:JobT):Int:=j.2.2.2.2.2.2
theorem callF {f : Nat} {fn : Func} {c : Code} (hf : Tryz.prog.funcs[f]? = some fn) (hname : (fn.name == "runtime.NumGoroutine") = false) (hb : fn.body = some c) : ∀ args w, (callFunc f args).run PG w = .ok (.enter f args) w := fun args w => by
  have h1 : fn.name ≠ "runtime.NumGoroutine" := by simpa using hname
  have hf':PG.funcs[f]?=some fn:=hf
  simp [callFunc,hf',h1,hb]
def k1S:Spec:=plain fun
  | [.agg [.int .i64 a,.int .i64 b,.bool c,.int .i64 d,.int .i64 e,.int .i64 f,.int .i64 g]]=>outV True (.bool c)
  | _=>none
theorem k1Ok:SpecSound Tryz.prog 136 k1S:=by
  refine soundP (envOf sigNil) Tryz.func136 (c:=body Tryz.f136) rfl (by kernel_rfl) rfl ?_
  intro args out hf hpre
  split at hf <;> try (cases hf;done)
  rename_i a b c d e f g
  cases hf
  refine ⟨Nat.le_of_ble_eq_true rfl,initI (args:=[.agg [.int .i64 a,.int .i64 b,.bool c,.int .i64 d,.int .i64 e,.int .i64 f,.int .i64 g]]) rfl ?_⟩
  repeat' (first|with_reducible (first|apply pN|apply cN|apply bN|apply cE|apply cR|apply bR|apply lE|apply lR|apply jE|apply jR)|refine zE ?_|refine zP ?_|refine pD ?_|refine zS ?_|refine zR ?_|refine zO ?_|refine zB ?_|refine zX ?_|refine zT ?_|refine skipI rfl ?_)
  refine endR rfl ?_
  repeat' (first|exact trivial|exact rfl|refine ⟨rfl,?_⟩|refine And.intro ?_ ?_)
def k2S:Spec:=plain fun
  | [.agg [.int .i64 a,.int .i64 b,.bool c,.int .i64 d,.int .i64 e,.int .i64 f,.int .i64 g]]=>outV True (.int .i64 d)
  | _=>none
theorem k2Ok:SpecSound Tryz.prog 137 k2S:=by
  refine soundP (envOf sigNil) Tryz.func137 (c:=body Tryz.f137) rfl (by kernel_rfl) rfl ?_
  intro args out hf hpre
  split at hf <;> try (cases hf;done)
  rename_i a b c d e f g
  cases hf
  refine ⟨Nat.le_of_ble_eq_true rfl,initI (args:=[.agg [.int .i64 a,.int .i64 b,.bool c,.int .i64 d,.int .i64 e,.int .i64 f,.int .i64 g]]) rfl ?_⟩
  repeat' (first|with_reducible (first|apply pN|apply cN|apply bN|apply cE|apply cR|apply bR|apply lE|apply lR|apply jE|apply jR)|refine zE ?_|refine zP ?_|refine pD ?_|refine zS ?_|refine zR ?_|refine zO ?_|refine zB ?_|refine zX ?_|refine zT ?_|refine skipI rfl ?_)
  refine endR rfl ?_
  repeat' (first|exact trivial|exact rfl|refine ⟨rfl,?_⟩|refine And.intro ?_ ?_)
def k3S:Spec:=plain fun
  | [.agg [.int .i64 a,.int .i64 b,.bool c,.int .i64 d,.int .i64 e,.int .i64 f,.int .i64 g],.el (.int .i64) [rc] 0 0]=>outV True (.bool (decide (b=rc)))
  | _=>none
theorem k3Ok:SpecSound Tryz.prog 138 k3S:=by
  refine soundP (envOf sigNil) Tryz.func138 (c:=body Tryz.f138) rfl (by kernel_rfl) rfl ?_
  intro args out hf hpre
  split at hf <;> try (cases hf;done)
  rename_i a b c d e f g rc
  cases hf
  refine ⟨Nat.le_of_ble_eq_true rfl,initI (args:=[.agg [.int .i64 a,.int .i64 b,.bool c,.int .i64 d,.int .i64 e,.int .i64 f,.int .i64 g],.el (.int .i64) [rc] 0 0]) rfl ?_⟩
  repeat' (first|with_reducible (first|apply pN|apply cN|apply bN|apply cE|apply cR|apply bR|apply lE|apply lR|apply jE|apply jR)|refine zE ?_|refine zP ?_|refine pD ?_|refine zS ?_|refine zR ?_|refine zO ?_|refine zB ?_|refine zX ?_|refine zT ?_|refine skipI rfl ?_)
  refine endR rfl ?_
  repeat' (first|exact trivial|exact rfl|refine ⟨rfl,?_⟩|refine And.intro ?_ ?_)
def k4S:Spec:=plain fun
  | [.agg [.int .i64 a,.int .i64 b,.bool c,.int .i64 d,.int .i64 e,.int .i64 f,.int .i64 g]]=>outV True (.int .i64 e)
  | _=>none
theorem k4Ok:SpecSound Tryz.prog 139 k4S:=by
  refine soundP (envOf sigNil) Tryz.func139 (c:=body Tryz.f139) rfl (by kernel_rfl) rfl ?_
  intro args out hf hpre
  split at hf <;> try (cases hf;done)
  rename_i a b c d e f g
  cases hf
  refine ⟨Nat.le_of_ble_eq_true rfl,initI (args:=[.agg [.int .i64 a,.int .i64 b,.bool c,.int .i64 d,.int .i64 e,.int .i64 f,.int .i64 g]]) rfl ?_⟩
  repeat' (first|with_reducible (first|apply pN|apply cN|apply bN|apply cE|apply cR|apply bR|apply lE|apply lR|apply jE|apply jR)|refine zE ?_|refine zP ?_|refine pD ?_|refine zS ?_|refine zR ?_|refine zO ?_|refine zB ?_|refine zX ?_|refine zT ?_|refine skipI rfl ?_)
  refine endR rfl ?_
  repeat' (first|exact trivial|exact rfl|refine ⟨rfl,?_⟩|refine And.intro ?_ ?_)
def k5S:Spec:=plain fun
  | [.agg [.int .i64 a,.int .i64 b,.bool c,.int .i64 d,.int .i64 e,.int .i64 f,.int .i64 g]]=>outV True (.int .i64 f)
  | _=>none
theorem k5Ok:SpecSound Tryz.prog 140 k5S:=by
  refine soundP (envOf sigNil) Tryz.func140 (c:=body Tryz.f140) rfl (by kernel_rfl) rfl ?_
  intro args out hf hpre
  split at hf <;> try (cases hf;done)
  rename_i a b c d e f g
  cases hf
  refine ⟨Nat.le_of_ble_eq_true rfl,initI (args:=[.agg [.int .i64 a,.int .i64 b,.bool c,.int .i64 d,.int .i64 e,.int .i64 f,.int .i64 g]]) rfl ?_⟩
  repeat' (first|with_reducible (first|apply pN|apply cN|apply bN|apply cE|apply cR|apply bR|apply lE|apply lR|apply jE|apply jR)|refine zE ?_|refine zP ?_|refine pD ?_|refine zS ?_|refine zR ?_|refine zO ?_|refine zB ?_|refine zX ?_|refine zT ?_|refine skipI rfl ?_)
  refine endR rfl ?_
  repeat' (first|exact trivial|exact rfl|refine ⟨rfl,?_⟩|refine And.intro ?_ ?_)
def k6S:Spec:=plain fun
  | [.agg [.int .i64 a,.int .i64 b,.bool c,.int .i64 d,.int .i64 e,.int .i64 f,.int .i64 g],.agg [.int .i64 a',.int .i64 b',.bool c',.int .i64 d',.int .i64 e',.int .i64 f',.int .i64 g']]=>outV True (.int .i64 (cmpI g' g))
  | _=>none
theorem k6Ok:SpecSound Tryz.prog 141 k6S:=by
  refine soundP (envOf sigCmpOk) Tryz.func141 (c:=body Tryz.f141) rfl (by kernel_rfl) rfl ?_
  intro args out hf hpre
  split at hf <;> try (cases hf;done)
  rename_i a b c d e f g a' b' c' d' e' f' g'
  cases hf
  refine ⟨Nat.le_of_ble_eq_true rfl,initI (args:=[.agg [.int .i64 a,.int .i64 b,.bool c,.int .i64 d,.int .i64 e,.int .i64 f,.int .i64 g],.agg [.int .i64 a',.int .i64 b',.bool c',.int .i64 d',.int .i64 e',.int .i64 f',.int .i64 g']]) rfl ?_⟩
  repeat' (first|with_reducible (first|apply pN|apply cN|apply bN|apply cE|apply cR|apply bR|apply lE|apply lR|apply jE|apply jR)|refine zE ?_|refine zP ?_|refine pD ?_|refine zS ?_|refine zR ?_|refine zO ?_|refine zB ?_|refine zX ?_|refine zT ?_|refine skipI rfl ?_)
  refine endR rfl ?_
  repeat' (first|exact trivial|exact rfl|refine ⟨rfl,?_⟩|refine And.intro ?_ ?_)
def lotS:Spec:=plain fun
  | [.agg [.int .i64 a,.int .i64 b,.bool c,.int .i64 d,.int .i64 e,.int .i64 f,.int .i64 g]]=>outV True (.int .i64 a)
  | _=>none
theorem lotOk:SpecSound Tryz.prog 100 lotS:=by
  refine soundP (envOf sigNil) Tryz.func100 (c:=body Tryz.f100) rfl (by kernel_rfl) rfl ?_
  intro args out hf hpre
  split at hf <;> try (cases hf;done)
  rename_i a b c d e f g
  cases hf
  refine ⟨Nat.le_of_ble_eq_true rfl,initI (args:=[.agg [.int .i64 a,.int .i64 b,.bool c,.int .i64 d,.int .i64 e,.int .i64 f,.int .i64 g]]) rfl ?_⟩
  repeat' (first|with_reducible (first|apply pN|apply cN|apply bN|apply cE|apply cR|apply bR|apply lE|apply lR|apply jE|apply jR)|refine zE ?_|refine zP ?_|refine pD ?_|refine zS ?_|refine zR ?_|refine zO ?_|refine zB ?_|refine zX ?_|refine zT ?_|refine skipI rfl ?_)
  refine endR rfl ?_
  repeat' (first|exact trivial|exact rfl|refine ⟨rfl,?_⟩|refine And.intro ?_ ?_)
def riseC (n:JobT→Int) (x y:JobT):Int:=cmpI (n x) (n y)
def holdC (p:JobT→Bool) (x y:JobT):Int:=if (p x&&!p y)=true then -1 else if (p y&&!p x)=true then 1 else 0
def firstC:List (JobT→JobT→Int)→JobT→JobT→Int
  | [],_,_=>0
  | f::l,x,y=>if f x y≠0 then f x y else firstC l x y
def rise1S:Spec:=plain fun
  | [.agg [.int .i64 a,.int .i64 b,.bool c,.int .i64 d,.int .i64 e,.int .i64 f,.int .i64 g],.agg [.int .i64 a',.int .i64 b',.bool c',.int .i64 d',.int .i64 e',.int .i64 f',.int .i64 g'],
      .el (.fn1 (.pair (.int .i64) (.pair (.int .i64) (.pair .bool (.pair (.int .i64) (.pair (.int .i64) (.pair (.int .i64) (.int .i64))))))) (.int .i64)) [n] 0 0]=>outV True (.int .i64 (riseC n (a,b,c,d,e,f,g) (a',b',c',d',e',f',g')))
  | _=>none
theorem rise1Ok:SpecSound Tryz.prog 142 rise1S:=by
  refine soundP (envOf sigCmpOk) Tryz.func142 (c:=body Tryz.f142) rfl (by kernel_rfl) rfl ?_
  intro args out hf hpre
  split at hf <;> try (cases hf;done)
  rename_i a b c d e f g a' b' c' d' e' f' g' n
  cases hf
  refine ⟨Nat.le_of_ble_eq_true rfl,initI (args:=[.agg [.int .i64 a,.int .i64 b,.bool c,.int .i64 d,.int .i64 e,.int .i64 f,.int .i64 g],.agg [.int .i64 a',.int .i64 b',.bool c',.int .i64 d',.int .i64 e',.int .i64 f',.int .i64 g'],.el (.fn1 tJob (.int .i64)) [n] 0 0]) rfl ?_⟩
  repeat' (first|with_reducible (first|apply pN|apply cN|apply bN|apply cE|apply cR|apply bR|apply lE|apply lR|apply jE|apply jR)|refine zE ?_|refine zP ?_|refine pD ?_|refine zS ?_|refine zR ?_|refine zO ?_|refine zB ?_|refine zX ?_|refine zT ?_|refine skipI rfl ?_)
  refine endR rfl ?_
  repeat' (first|exact trivial|exact rfl|refine ⟨rfl,?_⟩|refine And.intro ?_ ?_)
abbrev tIs:Ty:=.fn1 tJob .bool
abbrev tNum:Ty:=.fn1 tJob (.int .i64)
def hold1S:Spec:=plain fun
  | [.agg [.int .i64 a,.int .i64 b,.bool c,.int .i64 d,.int .i64 e,.int .i64 f,.int .i64 g],.agg [.int .i64 a',.int .i64 b',.bool c',.int .i64 d',.int .i64 e',.int .i64 f',.int .i64 g'],
      .el (.fn1 (.pair (.int .i64) (.pair (.int .i64) (.pair .bool (.pair (.int .i64) (.pair (.int .i64) (.pair (.int .i64) (.int .i64))))))) .bool) [p] 0 0]=>outV True (.int .i64 (holdC p (a,b,c,d,e,f,g) (a',b',c',d',e',f',g')))
  | _=>none
theorem hold1Ok:SpecSound Tryz.prog 156 hold1S:=by
  refine soundP (envOf sigNil) Tryz.func156 (c:=body Tryz.f156) rfl (by kernel_rfl) rfl ?_
  intro args out hf hpre
  split at hf <;> try (cases hf;done)
  rename_i a b c d e f g a' b' c' d' e' f' g' p
  cases hf
  refine ⟨Nat.le_of_ble_eq_true rfl,initI (args:=[.agg [.int .i64 a,.int .i64 b,.bool c,.int .i64 d,.int .i64 e,.int .i64 f,.int .i64 g],.agg [.int .i64 a',.int .i64 b',.bool c',.int .i64 d',.int .i64 e',.int .i64 f',.int .i64 g'],.el tIs [p] 0 0]) rfl ?_⟩
  repeat' (first|with_reducible (first|apply pN|apply cN|apply bN|apply cE|apply cR|apply bR|apply lE|apply lR|apply jE|apply jR)|refine zE ?_|refine zP ?_|refine pD ?_|refine zS ?_|refine zR ?_|refine zO ?_|refine zB ?_|refine zX ?_|refine zT ?_|refine skipI rfl ?_)
  refine condI rfl (fun c1=>?_) (fun c1=>?_)
  · repeat' (first|with_reducible (first|apply pN|apply cN|apply bN|apply cE|apply cR|apply bR|apply lE|apply lR|apply jE|apply jR)|refine zE ?_|refine zP ?_|refine pD ?_|refine zS ?_|refine zR ?_|refine zO ?_|refine zB ?_|refine zX ?_|refine zT ?_|refine skipI rfl ?_)
    refine endR rfl ?_
    repeat' (first|exact trivial|exact rfl|refine ⟨rfl,?_⟩|refine And.intro ?_ ?_)
    unfold holdC
    rw [if_pos (by exact c1)]
  · repeat' (first|with_reducible (first|apply pN|apply cN|apply bN|apply cE|apply cR|apply bR|apply lE|apply lR|apply jE|apply jR)|refine zE ?_|refine zP ?_|refine pD ?_|refine zS ?_|refine zR ?_|refine zO ?_|refine zB ?_|refine zX ?_|refine zT ?_|refine skipI rfl ?_)
    refine condI rfl (fun c2=>?_) (fun c2=>?_)
    · repeat' (first|with_reducible (first|apply pN|apply cN|apply bN|apply cE|apply cR|apply bR|apply lE|apply lR|apply jE|apply jR)|refine zE ?_|refine zP ?_|refine pD ?_|refine zS ?_|refine zR ?_|refine zO ?_|refine zB ?_|refine zX ?_|refine zT ?_|refine skipI rfl ?_)
      refine endR rfl ?_
      repeat' (first|exact trivial|exact rfl|refine ⟨rfl,?_⟩|refine And.intro ?_ ?_)
      unfold holdC
      rw [if_neg (by rw [show (p (a,b,c,d,e,f,g)&&!p (a',b',c',d',e',f',g'))=false from c1];simp),if_pos (by exact c2)]
    · repeat' (first|with_reducible (first|apply pN|apply cN|apply bN|apply cE|apply cR|apply bR|apply lE|apply lR|apply jE|apply jR)|refine zE ?_|refine zP ?_|refine pD ?_|refine zS ?_|refine zR ?_|refine zO ?_|refine zB ?_|refine zX ?_|refine zT ?_|refine skipI rfl ?_)
      refine endR rfl ?_
      repeat' (first|exact trivial|exact rfl|refine ⟨rfl,?_⟩|refine And.intro ?_ ?_)
      unfold holdC
      rw [if_neg (by rw [show (p (a,b,c,d,e,f,g)&&!p (a',b',c',d',e',f',g'))=false from c1];simp),if_neg (by rw [show (p (a',b',c',d',e',f',g')&&!p (a,b,c,d,e,f,g))=false from c2];simp)]
def first1S:Spec:=plain fun
  | [.agg [.int .i64 a,.int .i64 b,.bool c,.int .i64 d,.int .i64 e,.int .i64 f,.int .i64 g],.agg [.int .i64 a',.int .i64 b',.bool c',.int .i64 d',.int .i64 e',.int .i64 f',.int .i64 g'],
      .el (.slice (.fn2 (.pair (.int .i64) (.pair (.int .i64) (.pair .bool (.pair (.int .i64) (.pair (.int .i64) (.pair (.int .i64) (.int .i64))))))) (.int .i64))) [l] 0 0]=>outV (List.length (α:=JobT→JobT→Int) l≤1000000) (.int .i64 (firstC l (a,b,c,d,e,f,g) (a',b',c',d',e',f',g')))
  | _=>none
theorem firstC_skip {l:List (JobT→JobT→Int)} {x y:JobT} {d:JobT→JobT→Int}:∀ {i:Nat},(∀ k,k < i→getI l d k x y=0)→firstC l x y=firstC (l.drop i) x y:=by
  intro i
  induction l generalizing i with
  | nil=>intro _;simp
  | cons f l ih =>
    intro h
    cases i with
    | zero=>rfl
    | succ i =>
      have h0:f x y=0:=h 0 (by omega)
      simp only [firstC,h0,List.drop_succ_cons]
      rw [if_neg (by simp)]
      exact ih fun k hk=>h (k+1) (by omega)
theorem first1Ok:SpecSound Tryz.prog 144 first1S:=by
  refine soundP (envOf sigNil) Tryz.func144 (c:=body Tryz.f144) rfl (by kernel_rfl) rfl ?_
  intro args out hf hpre
  split at hf <;> try (cases hf;done)
  rename_i a b c d e f g a' b' c' d' e' f' g' l
  cases hf
  refine ⟨Nat.le_of_ble_eq_true rfl,initI (args:=[.agg [.int .i64 a,.int .i64 b,.bool c,.int .i64 d,.int .i64 e,.int .i64 f,.int .i64 g],.agg [.int .i64 a',.int .i64 b',.bool c',.int .i64 d',.int .i64 e',.int .i64 f',.int .i64 g'],.el (.slice tCmp) [l] 0 0]) rfl ?_⟩
  change List.length (α:=JobT→JobT→Int) l≤1000000 at hpre
  repeat' (first|with_reducible (first|apply pN|apply cN|apply bN|apply cE|apply cR|apply bR|apply lE|apply lR|apply jE|apply jR)|refine zE ?_|refine zP ?_|refine pD ?_|refine zS ?_|refine zR ?_|refine zO ?_|refine zB ?_|refine zX ?_|refine zT ?_|refine skipI rfl ?_)
  refine tidyI [(9,.sl tCmp l),(10,.int .i64 (List.length (α:=JobT→JobT→Int) l))] [] rfl rfl ?_ ?_
  · repeat' (first|exact trivial|exact rfl|refine ⟨rfl,?_⟩|refine And.intro ?_ ?_)
  repeat' (first|with_reducible (first|apply pN|apply cN|apply bN|apply cE|apply cR|apply bR|apply lE|apply lR|apply jE|apply jR)|refine zE ?_|refine zP ?_|refine pD ?_|refine zS ?_|refine zR ?_|refine zO ?_|refine zB ?_|refine zX ?_|refine zT ?_|refine skipI rfl ?_)
  refine loopI (σ:=Nat) (fun i=>[(11,.int .i64 i)]) (fun i=>[]) (fun i=>i≤List.length (α:=JobT→JobT→Int) l∧∀ k,k < i→getI l tCmp.dflt k (a,b,c,d,e,f,g) (a',b',c',d',e',f',g')=0) (fun i=>List.length (α:=JobT→JobT→Int) l - i) 0 rfl (fun _=>rfl) rfl ?_ ?_ ?_
  · exact ⟨Nat.zero_le _,fun k hk=>by omega⟩
  · repeat' (first|exact trivial|exact rfl|refine ⟨rfl,?_⟩|refine And.intro ?_ ?_)
  rintro i ⟨hi,hz⟩
  repeat' (first|with_reducible (first|apply pN|apply cN|apply bN|apply cE|apply cR|apply bR|apply lE|apply lR|apply jE|apply jR)|refine zE ?_|refine zP ?_|refine pD ?_|refine zS ?_|refine zR ?_|refine zO ?_|refine zB ?_|refine zX ?_|refine zT ?_|refine skipI rfl ?_)
  refine condI rfl (fun c1=>?_) (fun c1=>?_)
  · simp only [decide_eq_true_eq] at c1
    have hil:i < List.length (α:=JobT→JobT→Int) l:=by omega
    have hin:((i:Int)).toNat=i:=by omega
    repeat' (first|with_reducible (first|apply pN|apply cN|apply bN|apply cE|apply cR|apply bR|apply lE|apply lR|apply jE|apply jR)|refine zE ?_|refine zP ?_|refine pD ?_|refine zS ?_|refine zR ?_|refine zO ?_|refine zB ?_|refine zX ?_|refine zT ?_|refine skipI rfl ?_)
    refine condI rfl (fun c2=>?_) (fun c2=>?_)
    · simp only [decide_eq_true_eq] at c2
      have c2':getI l tCmp.dflt i (a,b,c,d,e,f,g) (a',b',c',d',e',f',g')≠0:=c2
      repeat' (first|with_reducible (first|apply pN|apply cN|apply bN|apply cE|apply cR|apply bR|apply lE|apply lR|apply jE|apply jR)|refine zE ?_|refine zP ?_|refine pD ?_|refine zS ?_|refine zR ?_|refine zO ?_|refine zB ?_|refine zX ?_|refine zT ?_|refine skipI rfl ?_)
      refine endR rfl ?_
      repeat' (first|exact trivial|exact rfl|refine ⟨rfl,?_⟩|refine And.intro ?_ ?_)
      rw [firstC_skip hz,List.drop_eq_getElem_cons hil]
      have hg:l[i]=getI l tCmp.dflt i:=by simp [getI,List.getD,List.getElem?_eq_getElem hil]
      rw [hg]
      simp only [firstC]
      rw [if_pos c2']
      rfl
    · simp only [decide_eq_false_iff_not,Decidable.not_not] at c2
      repeat' (first|with_reducible (first|apply pN|apply cN|apply bN|apply cE|apply cR|apply bR|apply lE|apply lR|apply jE|apply jR)|refine zE ?_|refine zP ?_|refine pD ?_|refine zS ?_|refine zR ?_|refine zO ?_|refine zB ?_|refine zX ?_|refine zT ?_|refine skipI rfl ?_)
      refine roundI (i+1) rfl ?_ ?_ ?_
      · refine ⟨by show i+1≤List.length (α:=JobT→JobT→Int) l;omega,fun k hk=>?_⟩
        by_cases hki:k=i
        · subst hki;exact c2
        · exact hz k (by omega)
      · show List.length (α:=JobT→JobT→Int) l - (i+1) < List.length (α:=JobT→JobT→Int) l - i
        omega
      · repeat' (first|exact trivial|exact rfl|refine ⟨rfl,?_⟩|refine And.intro ?_ ?_)
  · simp only [decide_eq_false_iff_not] at c1
    repeat' (first|with_reducible (first|apply pN|apply cN|apply bN|apply cE|apply cR|apply bR|apply lE|apply lR|apply jE|apply jR)|refine zE ?_|refine zP ?_|refine pD ?_|refine zS ?_|refine zR ?_|refine zO ?_|refine zB ?_|refine zX ?_|refine zT ?_|refine skipI rfl ?_)
    refine endR rfl ?_
    repeat' (first|exact trivial|exact rfl|refine ⟨rfl,?_⟩|refine And.intro ?_ ?_)
    rw [firstC_skip hz,List.drop_of_length_le (by omega)]
    rfl
def riseS:Spec:=⟨true,fun args rows=>match args,rows with
  | [.ext (.fn1 (.pair (.int .i64) (.pair (.int .i64) (.pair .bool (.pair (.int .i64) (.pair (.int .i64) (.pair (.int .i64) (.int .i64))))))) (.int .i64) n)],[]=>some ⟨True,.ext (.fn2 tJob (.int .i64) (riseC n)),[],true⟩
  | _,_=>none⟩
theorem riseOk:SpecSound Tryz.prog 99 riseS:=by
  refine soundR (envOf sigNil) Tryz.func99 (c:=body Tryz.f99) rfl (by kernel_rfl) rfl ?_
  intro args rows out hf hpre
  split at hf <;> try (cases hf;done)
  rename_i n
  cases hf
  refine ⟨Nat.le_of_ble_eq_true rfl,initI (args:=[.ext (.fn1 tJob (.int .i64) n)]) (rows:=[]) rfl ?_⟩
  refine zS ?_
  refine zR ?_
  repeat' (first|with_reducible refine pN ?_|refine pD ?_|fail)
  with_reducible refine cN ?_
  refine zS ?_
  refine zR ?_
  repeat' (first|with_reducible refine pN ?_|refine pD ?_|fail)
  with_reducible refine cN ?_
  refine freezeBoxI 1 tNum rfl ?_
  refine seeI 2 (.ext (.fn2 tJob (.int .i64) (riseC n))) rfl (seen2 rise1Ok (callF Tryz.func142 (by kernel_rfl) (c:=body Tryz.f142) rfl) rfl rfl rfl rfl fun x y=>⟨_,rfl,trivial,rfl⟩) ?_
  repeat' (first|with_reducible (first|apply pN|apply cN|apply bN|apply cE|apply cR|apply bR|apply lE|apply lR|apply jE|apply jR)|refine zE ?_|refine zP ?_|refine pD ?_|refine zS ?_|refine zR ?_|refine zO ?_|refine zB ?_|refine zX ?_|refine zT ?_|refine skipI rfl ?_)
  refine endR rfl ?_
  repeat' (first|exact trivial|exact rfl|refine ⟨rfl,?_⟩|refine And.intro ?_ ?_)
def holdS:Spec:=⟨true,fun args rows=>match args,rows with
  | [.ext (.fn1 (.pair (.int .i64) (.pair (.int .i64) (.pair .bool (.pair (.int .i64) (.pair (.int .i64) (.pair (.int .i64) (.int .i64))))))) .bool p)],[]=>some ⟨True,.ext (.fn2 tJob (.int .i64) (holdC p)),[],true⟩
  | _,_=>none⟩
theorem holdOk:SpecSound Tryz.prog 135 holdS:=by
  refine soundR (envOf sigNil) Tryz.func135 (c:=body Tryz.f135) rfl (by kernel_rfl) rfl ?_
  intro args rows out hf hpre
  split at hf <;> try (cases hf;done)
  rename_i p
  cases hf
  refine ⟨Nat.le_of_ble_eq_true rfl,initI (args:=[.ext (.fn1 tJob .bool p)]) (rows:=[]) rfl ?_⟩
  refine zS ?_
  refine zR ?_
  repeat' (first|with_reducible refine pN ?_|refine pD ?_|fail)
  with_reducible refine cN ?_
  refine zS ?_
  refine zR ?_
  repeat' (first|with_reducible refine pN ?_|refine pD ?_|fail)
  with_reducible refine cN ?_
  refine freezeBoxI 1 tIs rfl ?_
  refine seeI 2 (.ext (.fn2 tJob (.int .i64) (holdC p))) rfl (seen2 hold1Ok (callF Tryz.func156 (by kernel_rfl) (c:=body Tryz.f156) rfl) rfl rfl rfl rfl fun x y=>⟨_,rfl,trivial,rfl⟩) ?_
  repeat' (first|with_reducible (first|apply pN|apply cN|apply bN|apply cE|apply cR|apply bR|apply lE|apply lR|apply jE|apply jR)|refine zE ?_|refine zP ?_|refine pD ?_|refine zS ?_|refine zR ?_|refine zO ?_|refine zB ?_|refine zX ?_|refine zT ?_|refine skipI rfl ?_)
  refine endR rfl ?_
  repeat' (first|exact trivial|exact rfl|refine ⟨rfl,?_⟩|refine And.intro ?_ ?_)
def firstS':Spec:=⟨true,fun args rows=>match args,rows with
  | [.sl (.fn2 (.pair (.int .i64) (.pair (.int .i64) (.pair .bool (.pair (.int .i64) (.pair (.int .i64) (.pair (.int .i64) (.int .i64))))))) (.int .i64)) l],[]=>some ⟨List.length (α:=JobT→JobT→Int) l≤1000000,.ext (.fn2 tJob (.int .i64) (firstC l)),[],true⟩
  | _,_=>none⟩
theorem firstOk':SpecSound Tryz.prog 103 firstS':=by
  refine soundR (envOf sigNil) Tryz.func103 (c:=body Tryz.f103) rfl (by kernel_rfl) rfl ?_
  intro args rows out hf hpre
  split at hf <;> try (cases hf;done)
  rename_i l
  cases hf
  refine ⟨Nat.le_of_ble_eq_true rfl,initI (args:=[.sl tCmp l]) (rows:=[]) rfl ?_⟩
  change List.length (α:=JobT→JobT→Int) l≤1000000 at hpre
  refine zS ?_
  refine zR ?_
  repeat' (first|with_reducible refine pN ?_|refine pD ?_|fail)
  with_reducible refine cN ?_
  refine zS ?_
  refine zR ?_
  repeat' (first|with_reducible refine pN ?_|refine pD ?_|fail)
  with_reducible refine cN ?_
  refine freezeBoxI 1 (.slice tCmp) rfl ?_
  refine seeI 2 (.ext (.fn2 tJob (.int .i64) (firstC l))) rfl (seen2 first1Ok (callF Tryz.func144 (by kernel_rfl) (c:=body Tryz.f144) rfl) rfl rfl rfl rfl fun x y=>⟨_,rfl,hpre,rfl⟩) ?_
  repeat' (first|with_reducible (first|apply pN|apply cN|apply bN|apply cE|apply cR|apply bR|apply lE|apply lR|apply jE|apply jR)|refine zE ?_|refine zP ?_|refine pD ?_|refine zS ?_|refine zR ?_|refine zO ?_|refine zB ?_|refine zX ?_|refine zT ?_|refine skipI rfl ?_)
  refine endR rfl ?_
  repeat' (first|exact trivial|exact rfl|refine ⟨rfl,?_⟩|refine And.intro ?_ ?_)
end Go.AM.YtkgmmmhokgdcaaaGreat
end

section
set_option linter.all false
namespace Go.AM.YtkgmmmhokgdcaaaGreat
open Go.Proofs
set_option maxRecDepth 100000
set_option maxHeartbeats 8000000
def seeK:List AV→List AV
  | [.fn 136 [] []]=>[.ext (.fn1 tJob .bool jHot)]
  | [.fn 137 [] []]=>[.ext (.fn1 tJob (.int .i64) jDue)]
  | [.fn 138 [] [.el (.int .i64) [rc] 0 0]]=>[.ext (.fn1 tJob .bool fun j=>decide (jRec j=rc))]
  | [.fn 139 [] []]=>[.ext (.fn1 tJob (.int .i64) jArr)]
  | [.fn 140 [] []]=>[.ext (.fn1 tJob (.int .i64) jLen)]
  | [.fn 100 [] []]=>[.ext (.fn1 tJob (.int .i64) jLot)]
  | l=>l
theorem seen_k1:Seen (.fn 136 [] []) (.ext (.fn1 tJob .bool jHot)):=seen1 k1Ok (callF Tryz.func136 (by kernel_rfl) (c:=body Tryz.f136) rfl) rfl rfl rfl rfl fun x=>⟨_,rfl,trivial,rfl⟩
theorem seen_k2:Seen (.fn 137 [] []) (.ext (.fn1 tJob (.int .i64) jDue)):=seen1 k2Ok (callF Tryz.func137 (by kernel_rfl) (c:=body Tryz.f137) rfl) rfl rfl rfl rfl fun x=>⟨_,rfl,trivial,rfl⟩
theorem seen_k3 (rc:Int):Seen (.fn 138 [] [.el (.int .i64) [rc] 0 0]) (.ext (.fn1 tJob .bool fun j=>decide (jRec j=rc))):=seen1 k3Ok (callF Tryz.func138 (by kernel_rfl) (c:=body Tryz.f138) rfl) rfl rfl rfl rfl fun x=>⟨_,rfl,trivial,rfl⟩
theorem seen_k4:Seen (.fn 139 [] []) (.ext (.fn1 tJob (.int .i64) jArr)):=seen1 k4Ok (callF Tryz.func139 (by kernel_rfl) (c:=body Tryz.f139) rfl) rfl rfl rfl rfl fun x=>⟨_,rfl,trivial,rfl⟩
theorem seen_k5:Seen (.fn 140 [] []) (.ext (.fn1 tJob (.int .i64) jLen)):=seen1 k5Ok (callF Tryz.func140 (by kernel_rfl) (c:=body Tryz.f140) rfl) rfl rfl rfl rfl fun x=>⟨_,rfl,trivial,rfl⟩
theorem seen_lot:Seen (.fn 100 [] []) (.ext (.fn1 tJob (.int .i64) jLot)):=seen1 lotOk (callF Tryz.func100 (by kernel_rfl) (c:=body Tryz.f100) rfl) rfl rfl rfl rfl fun x=>⟨_,rfl,trivial,rfl⟩
theorem seeK_rel:∀ (g:Nat→Gh) (K R:Nat→Prop) (w:World) (args:List AV) (vals:List Value),RelL g K R w args vals→RelL g K R w (seeK args) vals:=by
  intro g K R w args vals h
  unfold seeK
  split
  · cases h with|cons h1 h2=>exact .cons (seen_k1 _ _ _ _ _ h1) h2
  · cases h with|cons h1 h2=>exact .cons (seen_k2 _ _ _ _ _ h1) h2
  · cases h with|cons h1 h2=>exact .cons (seen_k3 _ _ _ _ _ _ h1) h2
  · cases h with|cons h1 h2=>exact .cons (seen_k4 _ _ _ _ _ h1) h2
  · cases h with|cons h1 h2=>exact .cons (seen_k5 _ _ _ _ _ h1) h2
  · cases h with|cons h1 h2=>exact .cons (seen_lot _ _ _ _ _ h1) h2
  · exact h
def riseK:Spec:=⟨true,fun args rows=>riseS.f (seeK args) rows⟩
def holdK:Spec:=⟨true,fun args rows=>holdS.f (seeK args) rows⟩
def sigKnown:List (Nat × Spec):=[(99,riseK),(135,holdK),(141,k6S)]
theorem sigKnownOk:SigOk Tryz.prog (look sigKnown):=sigCons (sigCons (sigCons sigNil
  Tryz.func141 (by kernel_rfl) (c:=body Tryz.f141) rfl k6Ok)
  Tryz.func135 (by kernel_rfl) (c:=body Tryz.f135) rfl (holdOk.see seeK seeK_rel))
  Tryz.func99 (by kernel_rfl) (c:=body Tryz.f99) rfl (riseOk.see seeK seeK_rel)
def cntC (x y:JobT):Int:=cmpI (jCnt y) (jCnt x)
def ruleM (rc:Int):List (Int × (JobT→JobT→Int)):=[(1,holdC jHot),(2,riseC jDue),(3,holdC fun j=>decide (jRec j=rc)),(4,riseC jArr),(5,riseC jLen),(6,cntC)]
def knownS:Spec:=⟨true,fun args rows=>match args,rows with
  | [.int .i64 rc],[]=>some ⟨True,.own 0,[.map (.int .i64) tCmp (ruleM rc)],true⟩
  | _,_=>none⟩
theorem knownOk:SpecSound Tryz.prog 98 knownS:=by
  refine soundR (envOf sigKnownOk) Tryz.func98 (c:=body Tryz.f98) rfl (by kernel_rfl) rfl ?_
  intro args rows out hf hpre
  split at hf <;> try (cases hf;done)
  rename_i rc
  cases hf
  refine ⟨Nat.le_of_ble_eq_true rfl,initI (args:=[.int .i64 rc]) (rows:=[]) rfl ?_⟩
  refine zS ?_
  refine zR ?_
  repeat' (first|with_reducible refine pN ?_)
  with_reducible refine cN ?_
  refine freezeBoxI 1 (.int .i64) rfl ?_
  repeat' (first|with_reducible (first|apply pN|apply cN|apply bN|apply cE|apply cR|apply bR|apply lE|apply lR|apply jE|apply jR)|refine zE ?_|refine zP ?_|refine pD ?_|refine zS ?_|refine zR ?_|refine zO ?_|refine zB ?_|refine zX ?_|refine zT ?_|refine skipI rfl ?_)
  refine pC rfl (pC (fun x x'=>⟨⟨rfl,trivial⟩,rfl⟩) (pN ?_))
  repeat' (first|with_reducible (first|apply pN|apply cN|apply bN|apply cE|apply cR|apply bR|apply lE|apply lR|apply jE|apply jR)|refine zE ?_|refine zP ?_|refine pD ?_|refine zS ?_|refine zR ?_|refine zO ?_|refine zB ?_|refine zX ?_|refine zT ?_|refine skipI rfl ?_)
  refine endR rfl ?_
  repeat' (first|exact trivial|exact rfl|refine ⟨rfl,?_⟩|refine And.intro ?_ ?_)
def ruleOk (r:Int):Prop:=1≤r∧r≤6
instance (r:Int):Decidable (ruleOk r):=by unfold ruleOk;infer_instance
def RulesOk (rs:List Int):Prop:=(∀ r∈rs,ruleOk r)∧rs.Nodup
instance (rs:List Int):Decidable (RulesOk rs):=by unfold RulesOk;infer_instance
def rulesB (rs:List Int):Bool:=decide (RulesOk rs)
def marks (rs:List Int):List (Int × Bool):=rs.map fun r=>(r,true)
theorem mark_find {r:Int}:∀ {rs:List Int},((mapFind (.int .i64) .bool r (marks rs)).getD false)=decide (r∈rs)
  | []=>rfl
  | x::rs=>by
    have ih:=mark_find (r:=r) (rs:=rs)
    unfold marks at ih ⊢
    simp only [List.map_cons,mapFind,keyEq]
    by_cases h:r=x
    · simp [h]
    · simp [h]
      exact ih
theorem mark_set {r:Int}:∀ {rs:List Int},r ∉ rs→mapSet (.int .i64) .bool r true (marks rs)=marks (rs++[r])
  | [],_=>rfl
  | x::rs,h=>by
    have hx:r≠x:=fun e=>h (by simp [e])
    have ih:=mark_set (r:=r) (rs:=rs) (fun hm=>h (by simp [hm]))
    unfold marks at ih ⊢
    simp only [List.map_cons,mapSet,keyEq,List.cons_append]
    simp [hx]
    rw [ih,List.map_append]
    rfl
def validRS:Spec:=plain fun
  | [.sl (.int .i64) rs]=>outV (List.length (α:=Int) rs≤1000000) (.bool (rulesB rs))
  | _=>none
def badRule (r:Int) (m:Bool):Bool:=(decide (r < 1)||decide (6 < r))||m
theorem validROk:SpecSound Tryz.prog 97 validRS:=by
  refine soundP (envOf sigNil) Tryz.func97 (c:=body Tryz.f97) rfl (by kernel_rfl) rfl ?_
  intro args out hf hpre
  split at hf <;> try (cases hf;done)
  rename_i rs
  cases hf
  refine ⟨Nat.le_of_ble_eq_true rfl,initI (args:=[.sl tInt rs]) rfl ?_⟩
  change List.length (α:=Int) rs≤1000000 at hpre
  repeat' (first|with_reducible (first|apply pN|apply cN|apply bN|apply cE|apply cR|apply bR|apply lE|apply lR|apply jE|apply jR)|refine zE ?_|refine zP ?_|refine pD ?_|refine zS ?_|refine zR ?_|refine zO ?_|refine zB ?_|refine zX ?_|refine zT ?_|refine skipI rfl ?_)
  refine loopI (σ:=Nat) (fun i=>[(3,.own 3000),(9,.int .i64 i)]) (fun i=>[(3000,.map (.int .i64) .bool (marks (List.take (α:=Int) i rs)))]) (fun i=>i≤List.length (α:=Int) rs∧RulesOk (List.take (α:=Int) i rs)) (fun i=>List.length (α:=Int) rs - i) 0 rfl (fun _=>rfl) rfl ?_ ?_ ?_
  · exact ⟨Nat.zero_le _,fun r h=>by simp at h,by simp⟩
  · repeat' (first|exact trivial|exact rfl|refine ⟨rfl,?_⟩|refine And.intro ?_ ?_)
  rintro i ⟨hi,hok⟩
  repeat' (first|with_reducible (first|apply pN|apply cN|apply bN|apply cE|apply cR|apply bR|apply lE|apply lR|apply jE|apply jR)|refine zE ?_|refine zP ?_|refine pD ?_|refine zS ?_|refine zR ?_|refine zO ?_|refine zB ?_|refine zX ?_|refine zT ?_|refine skipI rfl ?_)
  refine condI rfl (fun c1=>?_) (fun c1=>?_)
  · simp only [decide_eq_true_eq] at c1
    have hil:i < List.length (α:=Int) rs:=by omega
    have hin:((i:Int)).toNat=i:=by omega
    have htk:List.take (α:=Int) (i+1) rs=List.take (α:=Int) i rs++[getI rs (0:Int) i]:=take_succ_getI (d:=(0:Int)) hil
    repeat' (first|with_reducible (first|apply pN|apply cN|apply bN|apply cE|apply cR|apply bR|apply lE|apply lR|apply jE|apply jR)|refine zE ?_|refine zP ?_|refine pD ?_|refine zS ?_|refine zR ?_|refine zO ?_|refine zB ?_|refine zX ?_|refine zT ?_|refine skipI rfl ?_)
    refine condI rfl (fun c2=>?_) (fun c2=>?_)
    · have c2':badRule (getI rs (0:Int) i) ((mapFind (.int .i64) .bool (getI rs (0:Int) i) (marks (List.take (α:=Int) i rs))).getD false)=true:=c2
      repeat' (first|with_reducible (first|apply pN|apply cN|apply bN|apply cE|apply cR|apply bR|apply lE|apply lR|apply jE|apply jR)|refine zE ?_|refine zP ?_|refine pD ?_|refine zS ?_|refine zR ?_|refine zO ?_|refine zB ?_|refine zX ?_|refine zT ?_|refine skipI rfl ?_)
      refine endR rfl ?_
      repeat' (first|exact trivial|exact rfl|refine ⟨rfl,?_⟩|refine And.intro ?_ ?_)
      unfold badRule at c2'
      rw [mark_find] at c2'
      simp only [Bool.or_eq_true,decide_eq_true_eq] at c2'
      unfold rulesB
      refine decide_eq_false fun h=>?_
      have hmem:getI rs (0:Int) i∈rs:=by
        have:=List.getElem_mem (l:=(rs:List Int)) (n:=i) hil
        simpa [getI,List.getD,List.getElem?_eq_getElem hil] using this
      have hr:=h.1 _ hmem
      unfold ruleOk at hr
      rcases c2' with (h1|h1)|h1
      · omega
      · omega
      · have hnd:(List.take (α:=Int) (i+1) rs).Nodup:=h.2.sublist (List.take_sublist _ _)
        rw [htk,List.nodup_append] at hnd
        exact hnd.2.2 _ h1 _ (List.mem_singleton.2 rfl) rfl
    · have c2':badRule (getI rs (0:Int) i) ((mapFind (.int .i64) .bool (getI rs (0:Int) i) (marks (List.take (α:=Int) i rs))).getD false)=false:=c2
      unfold badRule at c2'
      rw [mark_find] at c2'
      simp only [Bool.or_eq_false_iff,decide_eq_false_iff_not] at c2'
      repeat' (first|with_reducible (first|apply pN|apply cN|apply bN|apply cE|apply cR|apply bR|apply lE|apply lR|apply jE|apply jR)|refine zE ?_|refine zP ?_|refine pD ?_|refine zS ?_|refine zR ?_|refine zO ?_|refine zB ?_|refine zX ?_|refine zT ?_|refine skipI rfl ?_)
      refine roundI (i+1) rfl ?_ ?_ ?_
      · refine ⟨by show i+1≤List.length (α:=Int) rs;omega,?_⟩
        show RulesOk (List.take (α:=Int) (i+1) rs)
        rw [htk]
        refine ⟨fun r hr=>?_,?_⟩
        · rcases List.mem_append.1 hr with hr|hr
          · exact hok.1 r hr
          · rw [List.mem_singleton.1 hr]
            unfold ruleOk
            omega
        · rw [List.nodup_append]
          refine ⟨hok.2,by simp,fun x hx y hy e=>?_⟩
          rw [List.mem_singleton.1 hy] at e
          exact c2'.2 (e ▸ hx)
      · show List.length (α:=Int) rs - (i+1) < List.length (α:=Int) rs - i
        omega
      · repeat' (first|exact trivial|with_reducible exact rfl|refine And.intro ?_ ?_)
        all_goals first|rfl|skip
        show marks (List.take (α:=Int) (i+1) rs)=_
        rw [htk]
        exact (mark_set c2'.2).symm
  · simp only [decide_eq_false_iff_not] at c1
    rw [List.take_of_length_le (by omega)] at hok
    repeat' (first|with_reducible (first|apply pN|apply cN|apply bN|apply cE|apply cR|apply bR|apply lE|apply lR|apply jE|apply jR)|refine zE ?_|refine zP ?_|refine pD ?_|refine zS ?_|refine zR ?_|refine zO ?_|refine zB ?_|refine zX ?_|refine zT ?_|refine skipI rfl ?_)
    refine endR rfl ?_
    repeat' (first|exact trivial|exact rfl|refine ⟨rfl,?_⟩|refine And.intro ?_ ?_)
    unfold rulesB
    rw [decide_eq_true hok]
end Go.AM.YtkgmmmhokgdcaaaGreat
end
