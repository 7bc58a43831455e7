/- FcV. -/
import Derived.Test.YtbepaplaahcnkaaGreatPc38
import Derived.Test.YtbepaplaahcnkaaGreatPc37

section
set_option linter.all false
namespace Go.AM.YtbepaplaahcnkaaGreat.Fc
open Go.Proofs
set_option maxRecDepth 100000
set_option maxHeartbeats 16000000
def fl1:List FdT:=[(119,1,1000000),(123,1,1000000),(125,0,59),(126,0,3),(127,0,39),(120,1,1000000),(121,1,1000000),(173,0,1000000),(172,0,1000000),(129,-10000000,10000000)]
def kl1:List FdT:=[(119,1,1000000)]
def fl3:List FdT:=[(119,1,1000000),(123,1,1000000),(136,1,1000000),(173,0,1000000)]
def kl3:List FdT:=[(119,1,1000000)]
def fl4:List FdT:=[(123,1,1000000),(124,1,1000000),(137,1,1000000),(173,0,1000000)]
def kl4:List FdT:=[(123,1,1000000),(173,0,1000000)]
def fl11:List FdT:=[(119,1,1000000),(125,0,59),(126,0,3),(173,0,1000000),(172,0,1000000)]
def kl11:List FdT:=[(119,1,1000000)]
def sigV:List (Nat × Spec):=[(49,shapesS),(119,accS 1),(123,accS 7),(136,accS 8),(124,accS 9),(137,accS 10),(125,accS 11),(126,accS 12),(127,accS 13),(120,accS 14),(121,accS 15),(173,accS 5),(172,accS 6),(129,accS 16)]
theorem sigVOk:SigOk Tryz.prog (look sigV):=sigCons (sigCons (sigCons (sigCons (sigCons (sigCons (sigCons (sigCons (sigCons (sigCons (sigCons (sigCons (sigCons (sigCons sigNil Tryz.func129 (by kernel_rfl) (c:=body Tryz.f129) rfl avalueOk) Tryz.func172 (by kernel_rfl) (c:=body Tryz.f172) rfl auntilOk) Tryz.func173 (by kernel_rfl) (c:=body Tryz.f173) rfl atimeOk) Tryz.func121 (by kernel_rfl) (c:=body Tryz.f121) rfl arevisionOk) Tryz.func120 (by kernel_rfl) (c:=body Tryz.f120) rfl arecipeOk) Tryz.func127 (by kernel_rfl) (c:=body Tryz.f127) rfl astepOk) Tryz.func126 (by kernel_rfl) (c:=body Tryz.f126) rfl achamberOk) Tryz.func125 (by kernel_rfl) (c:=body Tryz.f125) rfl atoolOk) Tryz.func137 (by kernel_rfl) (c:=body Tryz.f137) rfl aproductOk) Tryz.func124 (by kernel_rfl) (c:=body Tryz.f124) rfl alotOk) Tryz.func136 (by kernel_rfl) (c:=body Tryz.f136) rfl aotherOk) Tryz.func123 (by kernel_rfl) (c:=body Tryz.f123) rfl awaferOk) Tryz.func119 (by kernel_rfl) (c:=body Tryz.f119) rfl aidOk) Tryz.func49 (by kernel_rfl) (c:=body Tryz.f49) rfl shapesOk
def FCom (a0 a1 a2 a3:Int) (a4:Bool) (a5 a6 a7 a8 a9 a10 a11 a12 a13 a14 a15 a16 a17:Int) (a18:ByteArray):Prop:=1≤a2∧a2≤1000∧0≤a3∧a3≤1000∧a17=0∧a16=0∧a18=⟨#[]⟩∧0≤a5∧a5≤1000
def FK1 (a0 a1 a2 a3:Int) (a4:Bool) (a5 a6 a7 a8 a9 a10 a11 a12 a13 a14 a15 a16 a17:Int) (a18:ByteArray):Prop:=a0=1∧1≤a1∧a1≤1000∧a5≤a6∧a6≤1000∧1≤a7∧a7≤1000∧a8=0∧a9=0∧a10=0∧0≤a11∧a11≤59∧0≤a12∧a12≤3∧0≤a13∧a13≤39∧1≤a14∧a14≤1000∧1≤a15∧a15≤1000
def FK3 (a0 a1 a2 a3:Int) (a4:Bool) (a5 a6 a7 a8 a9 a10 a11 a12 a13 a14 a15 a16 a17:Int) (a18:ByteArray):Prop:=a0=3∧1≤a1∧a1≤1000∧a6=0∧1≤a7∧a7≤1000∧1≤a8∧a8≤1000∧a7≠a8∧a9=0∧a10=0∧a11=0∧a12=0∧a13=0∧a14=0∧a15=0
def FK4 (a0 a1 a2 a3:Int) (a4:Bool) (a5 a6 a7 a8 a9 a10 a11 a12 a13 a14 a15 a16 a17:Int) (a18:ByteArray):Prop:=a0=4∧a1=0∧a6=0∧1≤a7∧a7≤1000∧a8=0∧1≤a9∧a9≤1000∧1≤a10∧a10≤1000∧a11=0∧a12=0∧a13=0∧a14=0∧a15=0
def FK11 (a0 a1 a2 a3:Int) (a4:Bool) (a5 a6 a7 a8 a9 a10 a11 a12 a13 a14 a15 a16 a17:Int) (a18:ByteArray):Prop:=a0=11∧1≤a1∧a1≤1000∧a5≤a6∧a6≤1000∧a7=0∧a8=0∧a9=0∧a10=0∧0≤a11∧a11≤59∧0≤a12∧a12≤3∧a13=0∧a14=0∧a15=0
def FOk1 (a0 a1 a2 a3:Int) (a4:Bool) (a5 a6 a7 a8 a9 a10 a11 a12 a13 a14 a15 a16 a17:Int) (a18:ByteArray):Prop:=FCom a0 a1 a2 a3 a4 a5 a6 a7 a8 a9 a10 a11 a12 a13 a14 a15 a16 a17 a18∧(FK1 a0 a1 a2 a3 a4 a5 a6 a7 a8 a9 a10 a11 a12 a13 a14 a15 a16 a17 a18∨FK3 a0 a1 a2 a3 a4 a5 a6 a7 a8 a9 a10 a11 a12 a13 a14 a15 a16 a17 a18∨FK4 a0 a1 a2 a3 a4 a5 a6 a7 a8 a9 a10 a11 a12 a13 a14 a15 a16 a17 a18∨FK11 a0 a1 a2 a3 a4 a5 a6 a7 a8 a9 a10 a11 a12 a13 a14 a15 a16 a17 a18)
def val1S:Spec:=plain fun
 | [.agg [.int .i64 a0,.int .i64 a1,.int .i64 a2,.int .i64 a3,.bool a4,.int .i64 a5,.int .i64 a6,.int .i64 a7,.int .i64 a8,.int .i64 a9,.int .i64 a10,.int .i64 a11,.int .i64 a12,.int .i64 a13,.int .i64 a14,.int .i64 a15,.int .i64 a16,.int .i64 a17,.str a18]]=>outV (FCom a0 a1 a2 a3 a4 a5 a6 a7 a8 a9 a10 a11 a12 a13 a14 a15 a16 a17 a18∧FK1 a0 a1 a2 a3 a4 a5 a6 a7 a8 a9 a10 a11 a12 a13 a14 a15 a16 a17 a18) (.bool true)
 | _=>none
theorem val1Ok:SpecSound Tryz.prog 45 val1S:=by
 refine soundP (envOf sigVOk) Tryz.func45 (c:=body Tryz.f45) rfl (by kernel_rfl) rfl ?_
 intro args out hf hpre
 split at hf <;> try (cases hf;done)
 rename_i a0 a1 a2 a3 a4 a5 a6 a7 a8 a9 a10 a11 a12 a13 a14 a15 a16 a17 a18
 cases hf
 refine ⟨Nat.le_of_ble_eq_true rfl,initI (args:=[.agg (fA a0 a1 a2 a3 a4 a5 a6 a7 a8 a9 a10 a11 a12 a13 a14 a15 a16 a17 a18)]) rfl ?_⟩
 obtain ⟨⟨h1,h2,h3,h4,h5,h6,h7,h8,h9⟩,h10,k1,k2,k3,k4,k5,k6,h11,h12,h13,k7,k8,k9,k10,k11,k12,k13,k14,k15,k16⟩:=hpre
 have hz:(ByteArray.mk #[]).size=0:=rfl
 ·subst h5 h6 h7 h10 h11 h12 h13
  repeat' (first|refine zN ?_|refine zE ?_|refine zP ?_|refine zS ?_|refine zO ?_|refine zW ?_)
  refine zR ?_
  repeat' (first|with_reducible refine pN ?_|refine pD ?_|refine pC (by exact rfl) ?_)
  repeat with_reducible refine cN ?_
  repeat' (first|refine zN ?_|refine zE ?_|refine zP ?_|refine zS ?_|refine zO ?_|refine zW ?_)
  refine zR ?_
  repeat' (first|with_reducible refine pN ?_|refine pD ?_|refine pC (by exact rfl) ?_)
  repeat with_reducible refine cN ?_
  refine tidyI [] [(3,.box [.sl tFd fl1,.sl tFd kl1,.ext (.fn1 tFc .bool spanB),.bool false])] rfl rfl ?_ ?_
  ·repeat' (first|exact trivial|exact rfl|refine ⟨rfl,?_⟩|refine And.intro ?_ ?_)
  repeat' (first|refine zN ?_|refine zE ?_|refine zP ?_|refine zS ?_|refine zO ?_|refine zW ?_)
  refine zR ?_
  repeat' (first|with_reducible refine pN ?_|refine pD ?_|fail)
  repeat with_reducible refine cN ?_
  repeat' (first|refine zN ?_|refine zE ?_|refine zP ?_|refine zQ ?_|refine zW ?_)
  refine condI rfl (fun c=>by first|(simp [spanB,leI,neI,hz] at c;done)|(simp [spanB,leI,neI,hz] at c;omega)) (fun c=>?_)
  clear c
  repeat' (first|refine zN ?_|refine zE ?_|refine zP ?_|refine pD ?_|refine zQ ?_|refine zR ?_|refine zW ?_)
  refine unrollI 15 rfl ?_
  refine unrN ?_
  repeat' (first|refine zN ?_|refine zE ?_|refine zP ?_|refine pD ?_|refine zQ ?_|refine zR ?_|refine zW ?_)
  refine condT rfl ?_
  repeat' (first|refine zN ?_|refine zE ?_|refine zP ?_|refine pD ?_|refine pC (by decide) ?_|refine zQ ?_|refine zR ?_|refine zW ?_)
  refine condI rfl (fun c=>by first|(simp [fl1,getI] at c;done)|(simp [fl1,getI] at c;omega)) (fun c=>?_)
  clear c
  repeat' (first|refine zN ?_|refine zE ?_|refine zP ?_|refine pD ?_|refine zQ ?_|refine zR ?_|refine zW ?_)
  refine unrN ?_
  refine tidyI [(7,.junk),(8,.junk),(55,.int .i64 1),(56,.junk),(75,.junk)] [] rfl rfl ?_ ?_
  ·repeat' (first|exact trivial|exact rfl|refine ⟨rfl,?_⟩|refine And.intro ?_ ?_)
  repeat' (first|refine zN ?_|refine zE ?_|refine zP ?_|refine pD ?_|refine zQ ?_|refine zR ?_|refine zW ?_)
  refine condT rfl ?_
  repeat' (first|refine zN ?_|refine zE ?_|refine zP ?_|refine pD ?_|refine pC (by decide) ?_|refine zQ ?_|refine zR ?_|refine zW ?_)
  refine condI rfl (fun c=>by first|(simp [fl1,getI] at c;done)|(simp [fl1,getI] at c;omega)) (fun c=>?_)
  clear c
  repeat' (first|refine zN ?_|refine zE ?_|refine zP ?_|refine pD ?_|refine zQ ?_|refine zR ?_|refine zW ?_)
  refine unrN ?_
  refine tidyI [(7,.junk),(8,.junk),(55,.int .i64 2),(56,.junk),(75,.junk)] [] rfl rfl ?_ ?_
  ·repeat' (first|exact trivial|exact rfl|refine ⟨rfl,?_⟩|refine And.intro ?_ ?_)
  repeat' (first|refine zN ?_|refine zE ?_|refine zP ?_|refine pD ?_|refine zQ ?_|refine zR ?_|refine zW ?_)
  refine condT rfl ?_
  repeat' (first|refine zN ?_|refine zE ?_|refine zP ?_|refine pD ?_|refine pC (by decide) ?_|refine zQ ?_|refine zR ?_|refine zW ?_)
  refine condI rfl (fun c=>by first|(simp [fl1,getI] at c;done)|(simp [fl1,getI] at c;omega)) (fun c=>?_)
  clear c
  repeat' (first|refine zN ?_|refine zE ?_|refine zP ?_|refine pD ?_|refine zQ ?_|refine zR ?_|refine zW ?_)
  refine unrN ?_
  refine tidyI [(7,.junk),(8,.junk),(55,.int .i64 3),(56,.junk),(75,.junk)] [] rfl rfl ?_ ?_
  ·repeat' (first|exact trivial|exact rfl|refine ⟨rfl,?_⟩|refine And.intro ?_ ?_)
  repeat' (first|refine zN ?_|refine zE ?_|refine zP ?_|refine pD ?_|refine zQ ?_|refine zR ?_|refine zW ?_)
  refine condT rfl ?_
  repeat' (first|refine zN ?_|refine zE ?_|refine zP ?_|refine pD ?_|refine pC (by decide) ?_|refine zQ ?_|refine zR ?_|refine zW ?_)
  refine condI rfl (fun c=>by first|(simp [fl1,getI] at c;done)|(simp [fl1,getI] at c;omega)) (fun c=>?_)
  clear c
  repeat' (first|refine zN ?_|refine zE ?_|refine zP ?_|refine pD ?_|refine zQ ?_|refine zR ?_|refine zW ?_)
  refine unrN ?_
  refine tidyI [(7,.junk),(8,.junk),(55,.int .i64 4),(56,.junk),(75,.junk)] [] rfl rfl ?_ ?_
  ·repeat' (first|exact trivial|exact rfl|refine ⟨rfl,?_⟩|refine And.intro ?_ ?_)
  repeat' (first|refine zN ?_|refine zE ?_|refine zP ?_|refine pD ?_|refine zQ ?_|refine zR ?_|refine zW ?_)
  refine condT rfl ?_
  repeat' (first|refine zN ?_|refine zE ?_|refine zP ?_|refine pD ?_|refine pC (by decide) ?_|refine zQ ?_|refine zR ?_|refine zW ?_)
  refine condI rfl (fun c=>by first|(simp [fl1,getI] at c;done)|(simp [fl1,getI] at c;omega)) (fun c=>?_)
  clear c
  repeat' (first|refine zN ?_|refine zE ?_|refine zP ?_|refine pD ?_|refine zQ ?_|refine zR ?_|refine zW ?_)
  refine unrN ?_
  refine tidyI [(7,.junk),(8,.junk),(55,.int .i64 5),(56,.junk),(75,.junk)] [] rfl rfl ?_ ?_
  ·repeat' (first|exact trivial|exact rfl|refine ⟨rfl,?_⟩|refine And.intro ?_ ?_)
  repeat' (first|refine zN ?_|refine zE ?_|refine zP ?_|refine pD ?_|refine zQ ?_|refine zR ?_|refine zW ?_)
  refine condT rfl ?_
  repeat' (first|refine zN ?_|refine zE ?_|refine zP ?_|refine pD ?_|refine pC (by decide) ?_|refine zQ ?_|refine zR ?_|refine zW ?_)
  refine condI rfl (fun c=>by first|(simp [fl1,getI] at c;done)|(simp [fl1,getI] at c;omega)) (fun c=>?_)
  clear c
  repeat' (first|refine zN ?_|refine zE ?_|refine zP ?_|refine pD ?_|refine zQ ?_|refine zR ?_|refine zW ?_)
  refine unrN ?_
  refine tidyI [(7,.junk),(8,.junk),(55,.int .i64 6),(56,.junk),(75,.junk)] [] rfl rfl ?_ ?_
  ·repeat' (first|exact trivial|exact rfl|refine ⟨rfl,?_⟩|refine And.intro ?_ ?_)
  repeat' (first|refine zN ?_|refine zE ?_|refine zP ?_|refine pD ?_|refine zQ ?_|refine zR ?_|refine zW ?_)
  refine condT rfl ?_
  repeat' (first|refine zN ?_|refine zE ?_|refine zP ?_|refine pD ?_|refine pC (by decide) ?_|refine zQ ?_|refine zR ?_|refine zW ?_)
  refine condI rfl (fun c=>by first|(simp [fl1,getI] at c;done)|(simp [fl1,getI] at c;omega)) (fun c=>?_)
  clear c
  repeat' (first|refine zN ?_|refine zE ?_|refine zP ?_|refine pD ?_|refine zQ ?_|refine zR ?_|refine zW ?_)
  refine unrN ?_
  refine tidyI [(7,.junk),(8,.junk),(55,.int .i64 7),(56,.junk),(75,.junk)] [] rfl rfl ?_ ?_
  ·repeat' (first|exact trivial|exact rfl|refine ⟨rfl,?_⟩|refine And.intro ?_ ?_)
  repeat' (first|refine zN ?_|refine zE ?_|refine zP ?_|refine pD ?_|refine zQ ?_|refine zR ?_|refine zW ?_)
  refine condT rfl ?_
  repeat' (first|refine zN ?_|refine zE ?_|refine zP ?_|refine pD ?_|refine pC (by decide) ?_|refine zQ ?_|refine zR ?_|refine zW ?_)
  refine condI rfl (fun c=>by first|(simp [fl1,getI] at c;done)|(simp [fl1,getI] at c;omega)) (fun c=>?_)
  clear c
  repeat' (first|refine zN ?_|refine zE ?_|refine zP ?_|refine pD ?_|refine zQ ?_|refine zR ?_|refine zW ?_)
  refine unrN ?_
  refine tidyI [(7,.junk),(8,.junk),(55,.int .i64 8),(56,.junk),(75,.junk)] [] rfl rfl ?_ ?_
  ·repeat' (first|exact trivial|exact rfl|refine ⟨rfl,?_⟩|refine And.intro ?_ ?_)
  repeat' (first|refine zN ?_|refine zE ?_|refine zP ?_|refine pD ?_|refine zQ ?_|refine zR ?_|refine zW ?_)
  refine condT rfl ?_
  repeat' (first|refine zN ?_|refine zE ?_|refine zP ?_|refine pD ?_|refine pC (by decide) ?_|refine zQ ?_|refine zR ?_|refine zW ?_)
  refine condI rfl (fun c=>by first|(simp [fl1,getI] at c;done)|(simp [fl1,getI] at c;omega)) (fun c=>?_)
  clear c
  repeat' (first|refine zN ?_|refine zE ?_|refine zP ?_|refine pD ?_|refine zQ ?_|refine zR ?_|refine zW ?_)
  refine unrN ?_
  refine tidyI [(7,.junk),(8,.junk),(55,.int .i64 9),(56,.junk),(75,.junk)] [] rfl rfl ?_ ?_
  ·repeat' (first|exact trivial|exact rfl|refine ⟨rfl,?_⟩|refine And.intro ?_ ?_)
  repeat' (first|refine zN ?_|refine zE ?_|refine zP ?_|refine pD ?_|refine zQ ?_|refine zR ?_|refine zW ?_)
  refine condT rfl ?_
  repeat' (first|refine zN ?_|refine zE ?_|refine zP ?_|refine pD ?_|refine pC (by decide) ?_|refine zQ ?_|refine zR ?_|refine zW ?_)
  refine condI rfl (fun c=>by first|(simp [fl1,getI] at c;done)|(simp [fl1,getI] at c;omega)) (fun c=>?_)
  clear c
  repeat' (first|refine zN ?_|refine zE ?_|refine zP ?_|refine pD ?_|refine zQ ?_|refine zR ?_|refine zW ?_)
  refine unrN ?_
  refine tidyI [(7,.junk),(8,.junk),(55,.int .i64 10),(56,.junk),(75,.junk)] [] rfl rfl ?_ ?_
  ·repeat' (first|exact trivial|exact rfl|refine ⟨rfl,?_⟩|refine And.intro ?_ ?_)
  repeat' (first|refine zN ?_|refine zE ?_|refine zP ?_|refine pD ?_|refine zQ ?_|refine zR ?_|refine zW ?_)
  refine condF rfl ?_
  repeat' (first|refine zN ?_|refine zE ?_|refine zP ?_|refine pD ?_|refine zQ ?_|refine zR ?_|refine zW ?_)
  refine unrE ?_
  repeat' (first|refine zN ?_|refine zE ?_|refine zP ?_|refine pD ?_|refine zQ ?_|refine zR ?_|refine zW ?_)
  refine condF rfl ?_
  repeat' (first|refine zN ?_|refine zE ?_|refine zP ?_|refine pD ?_|refine zQ ?_|refine zR ?_|refine zW ?_)
  refine endR rfl ?_
  repeat' (first|exact trivial|exact rfl|refine ⟨rfl,?_⟩|refine And.intro ?_ ?_)
  all_goals first|(with_reducible exact rfl)|(symm;simp [show (ByteArray.mk #[])=ByteArray.empty from rfl])
def val3S:Spec:=plain fun
 | [.agg [.int .i64 a0,.int .i64 a1,.int .i64 a2,.int .i64 a3,.bool a4,.int .i64 a5,.int .i64 a6,.int .i64 a7,.int .i64 a8,.int .i64 a9,.int .i64 a10,.int .i64 a11,.int .i64 a12,.int .i64 a13,.int .i64 a14,.int .i64 a15,.int .i64 a16,.int .i64 a17,.str a18]]=>outV (FCom a0 a1 a2 a3 a4 a5 a6 a7 a8 a9 a10 a11 a12 a13 a14 a15 a16 a17 a18∧FK3 a0 a1 a2 a3 a4 a5 a6 a7 a8 a9 a10 a11 a12 a13 a14 a15 a16 a17 a18) (.bool true)
 | _=>none
theorem val3Ok:SpecSound Tryz.prog 45 val3S:=by
 refine soundP (envOf sigVOk) Tryz.func45 (c:=body Tryz.f45) rfl (by kernel_rfl) rfl ?_
 intro args out hf hpre
 split at hf <;> try (cases hf;done)
 rename_i a0 a1 a2 a3 a4 a5 a6 a7 a8 a9 a10 a11 a12 a13 a14 a15 a16 a17 a18
 cases hf
 refine ⟨Nat.le_of_ble_eq_true rfl,initI (args:=[.agg (fA a0 a1 a2 a3 a4 a5 a6 a7 a8 a9 a10 a11 a12 a13 a14 a15 a16 a17 a18)]) rfl ?_⟩
 obtain ⟨⟨h1,h2,h3,h4,h5,h6,h7,h8,h9⟩,h10,k1,k2,h11,k3,k4,k5,k6,k7,h12,h13,h14,h15,h16,h17,h18⟩:=hpre
 have hz:(ByteArray.mk #[]).size=0:=rfl
 ·subst h5 h6 h7 h10 h11 h12 h13 h14 h15 h16 h17 h18
  repeat' (first|refine zN ?_|refine zE ?_|refine zP ?_|refine zS ?_|refine zO ?_|refine zW ?_)
  refine zR ?_
  repeat' (first|with_reducible refine pN ?_|refine pD ?_|refine pC (by exact rfl) ?_)
  repeat with_reducible refine cN ?_
  repeat' (first|refine zN ?_|refine zE ?_|refine zP ?_|refine zS ?_|refine zO ?_|refine zW ?_)
  refine zR ?_
  repeat' (first|with_reducible refine pN ?_|refine pD ?_|refine pC (by exact rfl) ?_)
  repeat with_reducible refine cN ?_
  refine tidyI [] [(3,.box [.sl tFd fl3,.sl tFd kl3,.ext (.fn1 tFc .bool markB),.bool false])] rfl rfl ?_ ?_
  ·repeat' (first|exact trivial|exact rfl|refine ⟨rfl,?_⟩|refine And.intro ?_ ?_)
  repeat' (first|refine zN ?_|refine zE ?_|refine zP ?_|refine zS ?_|refine zO ?_|refine zW ?_)
  refine zR ?_
  repeat' (first|with_reducible refine pN ?_|refine pD ?_|fail)
  repeat with_reducible refine cN ?_
  repeat' (first|refine zN ?_|refine zE ?_|refine zP ?_|refine zQ ?_|refine zW ?_)
  refine condI rfl (fun c=>by first|(simp [markB,leI,neI,hz] at c;done)|(simp [markB,leI,neI,hz] at c;omega)) (fun c=>?_)
  clear c
  repeat' (first|refine zN ?_|refine zE ?_|refine zP ?_|refine pD ?_|refine zQ ?_|refine zR ?_|refine zW ?_)
  refine unrollI 15 rfl ?_
  refine unrN ?_
  repeat' (first|refine zN ?_|refine zE ?_|refine zP ?_|refine pD ?_|refine zQ ?_|refine zR ?_|refine zW ?_)
  refine condT rfl ?_
  repeat' (first|refine zN ?_|refine zE ?_|refine zP ?_|refine pD ?_|refine pC (by decide) ?_|refine zQ ?_|refine zR ?_|refine zW ?_)
  refine condI rfl (fun c=>by first|(simp [fl3,getI] at c;done)|(simp [fl3,getI] at c;omega)) (fun c=>?_)
  clear c
  repeat' (first|refine zN ?_|refine zE ?_|refine zP ?_|refine pD ?_|refine zQ ?_|refine zR ?_|refine zW ?_)
  refine unrN ?_
  refine tidyI [(7,.junk),(8,.junk),(55,.int .i64 1),(56,.junk),(75,.junk)] [] rfl rfl ?_ ?_
  ·repeat' (first|exact trivial|exact rfl|refine ⟨rfl,?_⟩|refine And.intro ?_ ?_)
  repeat' (first|refine zN ?_|refine zE ?_|refine zP ?_|refine pD ?_|refine zQ ?_|refine zR ?_|refine zW ?_)
  refine condT rfl ?_
  repeat' (first|refine zN ?_|refine zE ?_|refine zP ?_|refine pD ?_|refine pC (by decide) ?_|refine zQ ?_|refine zR ?_|refine zW ?_)
  refine condI rfl (fun c=>by first|(simp [fl3,getI] at c;done)|(simp [fl3,getI] at c;omega)) (fun c=>?_)
  clear c
  repeat' (first|refine zN ?_|refine zE ?_|refine zP ?_|refine pD ?_|refine zQ ?_|refine zR ?_|refine zW ?_)
  refine unrN ?_
  refine tidyI [(7,.junk),(8,.junk),(55,.int .i64 2),(56,.junk),(75,.junk)] [] rfl rfl ?_ ?_
  ·repeat' (first|exact trivial|exact rfl|refine ⟨rfl,?_⟩|refine And.intro ?_ ?_)
  repeat' (first|refine zN ?_|refine zE ?_|refine zP ?_|refine pD ?_|refine zQ ?_|refine zR ?_|refine zW ?_)
  refine condT rfl ?_
  repeat' (first|refine zN ?_|refine zE ?_|refine zP ?_|refine pD ?_|refine pC (by decide) ?_|refine zQ ?_|refine zR ?_|refine zW ?_)
  refine condI rfl (fun c=>by first|(simp [fl3,getI] at c;done)|(simp [fl3,getI] at c;omega)) (fun c=>?_)
  clear c
  repeat' (first|refine zN ?_|refine zE ?_|refine zP ?_|refine pD ?_|refine zQ ?_|refine zR ?_|refine zW ?_)
  refine unrN ?_
  refine tidyI [(7,.junk),(8,.junk),(55,.int .i64 3),(56,.junk),(75,.junk)] [] rfl rfl ?_ ?_
  ·repeat' (first|exact trivial|exact rfl|refine ⟨rfl,?_⟩|refine And.intro ?_ ?_)
  repeat' (first|refine zN ?_|refine zE ?_|refine zP ?_|refine pD ?_|refine zQ ?_|refine zR ?_|refine zW ?_)
  refine condT rfl ?_
  repeat' (first|refine zN ?_|refine zE ?_|refine zP ?_|refine pD ?_|refine pC (by decide) ?_|refine zQ ?_|refine zR ?_|refine zW ?_)
  refine condI rfl (fun c=>by first|(simp [fl3,getI] at c;done)|(simp [fl3,getI] at c;omega)) (fun c=>?_)
  clear c
  repeat' (first|refine zN ?_|refine zE ?_|refine zP ?_|refine pD ?_|refine zQ ?_|refine zR ?_|refine zW ?_)
  refine unrN ?_
  refine tidyI [(7,.junk),(8,.junk),(55,.int .i64 4),(56,.junk),(75,.junk)] [] rfl rfl ?_ ?_
  ·repeat' (first|exact trivial|exact rfl|refine ⟨rfl,?_⟩|refine And.intro ?_ ?_)
  repeat' (first|refine zN ?_|refine zE ?_|refine zP ?_|refine pD ?_|refine zQ ?_|refine zR ?_|refine zW ?_)
  refine condF rfl ?_
  repeat' (first|refine zN ?_|refine zE ?_|refine zP ?_|refine pD ?_|refine zQ ?_|refine zR ?_|refine zW ?_)
  refine unrE ?_
  repeat' (first|refine zN ?_|refine zE ?_|refine zP ?_|refine pD ?_|refine zQ ?_|refine zR ?_|refine zW ?_)
  refine condF rfl ?_
  repeat' (first|refine zN ?_|refine zE ?_|refine zP ?_|refine pD ?_|refine zQ ?_|refine zR ?_|refine zW ?_)
  refine endR rfl ?_
  repeat' (first|exact trivial|exact rfl|refine ⟨rfl,?_⟩|refine And.intro ?_ ?_)
  all_goals first|(with_reducible exact rfl)|(symm;simp [show (ByteArray.mk #[])=ByteArray.empty from rfl])
def val4S:Spec:=plain fun
 | [.agg [.int .i64 a0,.int .i64 a1,.int .i64 a2,.int .i64 a3,.bool a4,.int .i64 a5,.int .i64 a6,.int .i64 a7,.int .i64 a8,.int .i64 a9,.int .i64 a10,.int .i64 a11,.int .i64 a12,.int .i64 a13,.int .i64 a14,.int .i64 a15,.int .i64 a16,.int .i64 a17,.str a18]]=>outV (FCom a0 a1 a2 a3 a4 a5 a6 a7 a8 a9 a10 a11 a12 a13 a14 a15 a16 a17 a18∧FK4 a0 a1 a2 a3 a4 a5 a6 a7 a8 a9 a10 a11 a12 a13 a14 a15 a16 a17 a18) (.bool true)
 | _=>none
theorem val4Ok:SpecSound Tryz.prog 45 val4S:=by
 refine soundP (envOf sigVOk) Tryz.func45 (c:=body Tryz.f45) rfl (by kernel_rfl) rfl ?_
 intro args out hf hpre
 split at hf <;> try (cases hf;done)
 rename_i a0 a1 a2 a3 a4 a5 a6 a7 a8 a9 a10 a11 a12 a13 a14 a15 a16 a17 a18
 cases hf
 refine ⟨Nat.le_of_ble_eq_true rfl,initI (args:=[.agg (fA a0 a1 a2 a3 a4 a5 a6 a7 a8 a9 a10 a11 a12 a13 a14 a15 a16 a17 a18)]) rfl ?_⟩
 obtain ⟨⟨h1,h2,h3,h4,h5,h6,h7,h8,h9⟩,h10,h11,h12,k1,k2,h13,k3,k4,k5,k6,h14,h15,h16,h17,h18⟩:=hpre
 have hz:(ByteArray.mk #[]).size=0:=rfl
 ·subst h5 h6 h7 h10 h11 h12 h13 h14 h15 h16 h17 h18
  repeat' (first|refine zN ?_|refine zE ?_|refine zP ?_|refine zS ?_|refine zO ?_|refine zW ?_)
  refine zR ?_
  repeat' (first|with_reducible refine pN ?_|refine pD ?_|refine pC (by exact rfl) ?_)
  repeat with_reducible refine cN ?_
  repeat' (first|refine zN ?_|refine zE ?_|refine zP ?_|refine zS ?_|refine zO ?_|refine zW ?_)
  refine zR ?_
  repeat' (first|with_reducible refine pN ?_|refine pD ?_|refine pC (by exact rfl) ?_)
  repeat with_reducible refine cN ?_
  refine tidyI [] [(3,.box [.sl tFd fl4,.sl tFd kl4,.ext (.fn1 tFc .bool anyB),.bool false])] rfl rfl ?_ ?_
  ·repeat' (first|exact trivial|exact rfl|refine ⟨rfl,?_⟩|refine And.intro ?_ ?_)
  repeat' (first|refine zN ?_|refine zE ?_|refine zP ?_|refine zS ?_|refine zO ?_|refine zW ?_)
  refine zR ?_
  repeat' (first|with_reducible refine pN ?_|refine pD ?_|fail)
  repeat with_reducible refine cN ?_
  repeat' (first|refine zN ?_|refine zE ?_|refine zP ?_|refine zQ ?_|refine zW ?_)
  refine condI rfl (fun c=>by first|(simp [anyB,leI,neI,hz] at c;done)|(simp [anyB,leI,neI,hz] at c;omega)) (fun c=>?_)
  clear c
  repeat' (first|refine zN ?_|refine zE ?_|refine zP ?_|refine pD ?_|refine zQ ?_|refine zR ?_|refine zW ?_)
  refine unrollI 15 rfl ?_
  refine unrN ?_
  repeat' (first|refine zN ?_|refine zE ?_|refine zP ?_|refine pD ?_|refine zQ ?_|refine zR ?_|refine zW ?_)
  refine condT rfl ?_
  repeat' (first|refine zN ?_|refine zE ?_|refine zP ?_|refine pD ?_|refine pC (by decide) ?_|refine zQ ?_|refine zR ?_|refine zW ?_)
  refine condI rfl (fun c=>by first|(simp [fl4,getI] at c;done)|(simp [fl4,getI] at c;omega)) (fun c=>?_)
  clear c
  repeat' (first|refine zN ?_|refine zE ?_|refine zP ?_|refine pD ?_|refine zQ ?_|refine zR ?_|refine zW ?_)
  refine unrN ?_
  refine tidyI [(7,.junk),(8,.junk),(55,.int .i64 1),(56,.junk),(75,.junk)] [] rfl rfl ?_ ?_
  ·repeat' (first|exact trivial|exact rfl|refine ⟨rfl,?_⟩|refine And.intro ?_ ?_)
  repeat' (first|refine zN ?_|refine zE ?_|refine zP ?_|refine pD ?_|refine zQ ?_|refine zR ?_|refine zW ?_)
  refine condT rfl ?_
  repeat' (first|refine zN ?_|refine zE ?_|refine zP ?_|refine pD ?_|refine pC (by decide) ?_|refine zQ ?_|refine zR ?_|refine zW ?_)
  refine condI rfl (fun c=>by first|(simp [fl4,getI] at c;done)|(simp [fl4,getI] at c;omega)) (fun c=>?_)
  clear c
  repeat' (first|refine zN ?_|refine zE ?_|refine zP ?_|refine pD ?_|refine zQ ?_|refine zR ?_|refine zW ?_)
  refine unrN ?_
  refine tidyI [(7,.junk),(8,.junk),(55,.int .i64 2),(56,.junk),(75,.junk)] [] rfl rfl ?_ ?_
  ·repeat' (first|exact trivial|exact rfl|refine ⟨rfl,?_⟩|refine And.intro ?_ ?_)
  repeat' (first|refine zN ?_|refine zE ?_|refine zP ?_|refine pD ?_|refine zQ ?_|refine zR ?_|refine zW ?_)
  refine condT rfl ?_
  repeat' (first|refine zN ?_|refine zE ?_|refine zP ?_|refine pD ?_|refine pC (by decide) ?_|refine zQ ?_|refine zR ?_|refine zW ?_)
  refine condI rfl (fun c=>by first|(simp [fl4,getI] at c;done)|(simp [fl4,getI] at c;omega)) (fun c=>?_)
  clear c
  repeat' (first|refine zN ?_|refine zE ?_|refine zP ?_|refine pD ?_|refine zQ ?_|refine zR ?_|refine zW ?_)
  refine unrN ?_
  refine tidyI [(7,.junk),(8,.junk),(55,.int .i64 3),(56,.junk),(75,.junk)] [] rfl rfl ?_ ?_
  ·repeat' (first|exact trivial|exact rfl|refine ⟨rfl,?_⟩|refine And.intro ?_ ?_)
  repeat' (first|refine zN ?_|refine zE ?_|refine zP ?_|refine pD ?_|refine zQ ?_|refine zR ?_|refine zW ?_)
  refine condT rfl ?_
  repeat' (first|refine zN ?_|refine zE ?_|refine zP ?_|refine pD ?_|refine pC (by decide) ?_|refine zQ ?_|refine zR ?_|refine zW ?_)
  refine condI rfl (fun c=>by first|(simp [fl4,getI] at c;done)|(simp [fl4,getI] at c;omega)) (fun c=>?_)
  clear c
  repeat' (first|refine zN ?_|refine zE ?_|refine zP ?_|refine pD ?_|refine zQ ?_|refine zR ?_|refine zW ?_)
  refine unrN ?_
  refine tidyI [(7,.junk),(8,.junk),(55,.int .i64 4),(56,.junk),(75,.junk)] [] rfl rfl ?_ ?_
  ·repeat' (first|exact trivial|exact rfl|refine ⟨rfl,?_⟩|refine And.intro ?_ ?_)
  repeat' (first|refine zN ?_|refine zE ?_|refine zP ?_|refine pD ?_|refine zQ ?_|refine zR ?_|refine zW ?_)
  refine condF rfl ?_
  repeat' (first|refine zN ?_|refine zE ?_|refine zP ?_|refine pD ?_|refine zQ ?_|refine zR ?_|refine zW ?_)
  refine unrE ?_
  repeat' (first|refine zN ?_|refine zE ?_|refine zP ?_|refine pD ?_|refine zQ ?_|refine zR ?_|refine zW ?_)
  refine condF rfl ?_
  repeat' (first|refine zN ?_|refine zE ?_|refine zP ?_|refine pD ?_|refine zQ ?_|refine zR ?_|refine zW ?_)
  refine endR rfl ?_
  repeat' (first|exact trivial|exact rfl|refine ⟨rfl,?_⟩|refine And.intro ?_ ?_)
  all_goals first|(with_reducible exact rfl)|(symm;simp [show (ByteArray.mk #[])=ByteArray.empty from rfl])
def val11S:Spec:=plain fun
 | [.agg [.int .i64 a0,.int .i64 a1,.int .i64 a2,.int .i64 a3,.bool a4,.int .i64 a5,.int .i64 a6,.int .i64 a7,.int .i64 a8,.int .i64 a9,.int .i64 a10,.int .i64 a11,.int .i64 a12,.int .i64 a13,.int .i64 a14,.int .i64 a15,.int .i64 a16,.int .i64 a17,.str a18]]=>outV (FCom a0 a1 a2 a3 a4 a5 a6 a7 a8 a9 a10 a11 a12 a13 a14 a15 a16 a17 a18∧FK11 a0 a1 a2 a3 a4 a5 a6 a7 a8 a9 a10 a11 a12 a13 a14 a15 a16 a17 a18) (.bool true)
 | _=>none
theorem val11Ok:SpecSound Tryz.prog 45 val11S:=by
 refine soundP (envOf sigVOk) Tryz.func45 (c:=body Tryz.f45) rfl (by kernel_rfl) rfl ?_
 intro args out hf hpre
 split at hf <;> try (cases hf;done)
 rename_i a0 a1 a2 a3 a4 a5 a6 a7 a8 a9 a10 a11 a12 a13 a14 a15 a16 a17 a18
 cases hf
 refine ⟨Nat.le_of_ble_eq_true rfl,initI (args:=[.agg (fA a0 a1 a2 a3 a4 a5 a6 a7 a8 a9 a10 a11 a12 a13 a14 a15 a16 a17 a18)]) rfl ?_⟩
 obtain ⟨⟨h1,h2,h3,h4,h5,h6,h7,h8,h9⟩,h10,k1,k2,k3,k4,h11,h12,h13,h14,k5,k6,k7,k8,h15,h16,h17⟩:=hpre
 have hz:(ByteArray.mk #[]).size=0:=rfl
 ·subst h5 h6 h7 h10 h11 h12 h13 h14 h15 h16 h17
  repeat' (first|refine zN ?_|refine zE ?_|refine zP ?_|refine zS ?_|refine zO ?_|refine zW ?_)
  refine zR ?_
  repeat' (first|with_reducible refine pN ?_|refine pD ?_|refine pC (by exact rfl) ?_)
  repeat with_reducible refine cN ?_
  repeat' (first|refine zN ?_|refine zE ?_|refine zP ?_|refine zS ?_|refine zO ?_|refine zW ?_)
  refine zR ?_
  repeat' (first|with_reducible refine pN ?_|refine pD ?_|refine pC (by exact rfl) ?_)
  repeat with_reducible refine cN ?_
  refine tidyI [] [(3,.box [.sl tFd fl11,.sl tFd kl11,.ext (.fn1 tFc .bool spanB),.bool false])] rfl rfl ?_ ?_
  ·repeat' (first|exact trivial|exact rfl|refine ⟨rfl,?_⟩|refine And.intro ?_ ?_)
  repeat' (first|refine zN ?_|refine zE ?_|refine zP ?_|refine zS ?_|refine zO ?_|refine zW ?_)
  refine zR ?_
  repeat' (first|with_reducible refine pN ?_|refine pD ?_|fail)
  repeat with_reducible refine cN ?_
  repeat' (first|refine zN ?_|refine zE ?_|refine zP ?_|refine zQ ?_|refine zW ?_)
  refine condI rfl (fun c=>by first|(simp [spanB,leI,neI,hz] at c;done)|(simp [spanB,leI,neI,hz] at c;omega)) (fun c=>?_)
  clear c
  repeat' (first|refine zN ?_|refine zE ?_|refine zP ?_|refine pD ?_|refine zQ ?_|refine zR ?_|refine zW ?_)
  refine unrollI 15 rfl ?_
  refine unrN ?_
  repeat' (first|refine zN ?_|refine zE ?_|refine zP ?_|refine pD ?_|refine zQ ?_|refine zR ?_|refine zW ?_)
  refine condT rfl ?_
  repeat' (first|refine zN ?_|refine zE ?_|refine zP ?_|refine pD ?_|refine pC (by decide) ?_|refine zQ ?_|refine zR ?_|refine zW ?_)
  refine condI rfl (fun c=>by first|(simp [fl11,getI] at c;done)|(simp [fl11,getI] at c;omega)) (fun c=>?_)
  clear c
  repeat' (first|refine zN ?_|refine zE ?_|refine zP ?_|refine pD ?_|refine zQ ?_|refine zR ?_|refine zW ?_)
  refine unrN ?_
  refine tidyI [(7,.junk),(8,.junk),(55,.int .i64 1),(56,.junk),(75,.junk)] [] rfl rfl ?_ ?_
  ·repeat' (first|exact trivial|exact rfl|refine ⟨rfl,?_⟩|refine And.intro ?_ ?_)
  repeat' (first|refine zN ?_|refine zE ?_|refine zP ?_|refine pD ?_|refine zQ ?_|refine zR ?_|refine zW ?_)
  refine condT rfl ?_
  repeat' (first|refine zN ?_|refine zE ?_|refine zP ?_|refine pD ?_|refine pC (by decide) ?_|refine zQ ?_|refine zR ?_|refine zW ?_)
  refine condI rfl (fun c=>by first|(simp [fl11,getI] at c;done)|(simp [fl11,getI] at c;omega)) (fun c=>?_)
  clear c
  repeat' (first|refine zN ?_|refine zE ?_|refine zP ?_|refine pD ?_|refine zQ ?_|refine zR ?_|refine zW ?_)
  refine unrN ?_
  refine tidyI [(7,.junk),(8,.junk),(55,.int .i64 2),(56,.junk),(75,.junk)] [] rfl rfl ?_ ?_
  ·repeat' (first|exact trivial|exact rfl|refine ⟨rfl,?_⟩|refine And.intro ?_ ?_)
  repeat' (first|refine zN ?_|refine zE ?_|refine zP ?_|refine pD ?_|refine zQ ?_|refine zR ?_|refine zW ?_)
  refine condT rfl ?_
  repeat' (first|refine zN ?_|refine zE ?_|refine zP ?_|refine pD ?_|refine pC (by decide) ?_|refine zQ ?_|refine zR ?_|refine zW ?_)
  refine condI rfl (fun c=>by first|(simp [fl11,getI] at c;done)|(simp [fl11,getI] at c;omega)) (fun c=>?_)
  clear c
  repeat' (first|refine zN ?_|refine zE ?_|refine zP ?_|refine pD ?_|refine zQ ?_|refine zR ?_|refine zW ?_)
  refine unrN ?_
  refine tidyI [(7,.junk),(8,.junk),(55,.int .i64 3),(56,.junk),(75,.junk)] [] rfl rfl ?_ ?_
  ·repeat' (first|exact trivial|exact rfl|refine ⟨rfl,?_⟩|refine And.intro ?_ ?_)
  repeat' (first|refine zN ?_|refine zE ?_|refine zP ?_|refine pD ?_|refine zQ ?_|refine zR ?_|refine zW ?_)
  refine condT rfl ?_
  repeat' (first|refine zN ?_|refine zE ?_|refine zP ?_|refine pD ?_|refine pC (by decide) ?_|refine zQ ?_|refine zR ?_|refine zW ?_)
  refine condI rfl (fun c=>by first|(simp [fl11,getI] at c;done)|(simp [fl11,getI] at c;omega)) (fun c=>?_)
  clear c
  repeat' (first|refine zN ?_|refine zE ?_|refine zP ?_|refine pD ?_|refine zQ ?_|refine zR ?_|refine zW ?_)
  refine unrN ?_
  refine tidyI [(7,.junk),(8,.junk),(55,.int .i64 4),(56,.junk),(75,.junk)] [] rfl rfl ?_ ?_
  ·repeat' (first|exact trivial|exact rfl|refine ⟨rfl,?_⟩|refine And.intro ?_ ?_)
  repeat' (first|refine zN ?_|refine zE ?_|refine zP ?_|refine pD ?_|refine zQ ?_|refine zR ?_|refine zW ?_)
  refine condT rfl ?_
  repeat' (first|refine zN ?_|refine zE ?_|refine zP ?_|refine pD ?_|refine pC (by decide) ?_|refine zQ ?_|refine zR ?_|refine zW ?_)
  refine condI rfl (fun c=>by first|(simp [fl11,getI] at c;done)|(simp [fl11,getI] at c;omega)) (fun c=>?_)
  clear c
  repeat' (first|refine zN ?_|refine zE ?_|refine zP ?_|refine pD ?_|refine zQ ?_|refine zR ?_|refine zW ?_)
  refine unrN ?_
  refine tidyI [(7,.junk),(8,.junk),(55,.int .i64 5),(56,.junk),(75,.junk)] [] rfl rfl ?_ ?_
  ·repeat' (first|exact trivial|exact rfl|refine ⟨rfl,?_⟩|refine And.intro ?_ ?_)
  repeat' (first|refine zN ?_|refine zE ?_|refine zP ?_|refine pD ?_|refine zQ ?_|refine zR ?_|refine zW ?_)
  refine condF rfl ?_
  repeat' (first|refine zN ?_|refine zE ?_|refine zP ?_|refine pD ?_|refine zQ ?_|refine zR ?_|refine zW ?_)
  refine unrE ?_
  repeat' (first|refine zN ?_|refine zE ?_|refine zP ?_|refine pD ?_|refine zQ ?_|refine zR ?_|refine zW ?_)
  refine condF rfl ?_
  repeat' (first|refine zN ?_|refine zE ?_|refine zP ?_|refine pD ?_|refine zQ ?_|refine zR ?_|refine zW ?_)
  refine endR rfl ?_
  repeat' (first|exact trivial|exact rfl|refine ⟨rfl,?_⟩|refine And.intro ?_ ?_)
  all_goals first|(with_reducible exact rfl)|(symm;simp [show (ByteArray.mk #[])=ByteArray.empty from rfl])
def validS:Spec:=plain fun
 | [.agg [.int .i64 a0,.int .i64 a1,.int .i64 a2,.int .i64 a3,.bool a4,.int .i64 a5,.int .i64 a6,.int .i64 a7,.int .i64 a8,.int .i64 a9,.int .i64 a10,.int .i64 a11,.int .i64 a12,.int .i64 a13,.int .i64 a14,.int .i64 a15,.int .i64 a16,.int .i64 a17,.str a18]]=>outV (FOk1 a0 a1 a2 a3 a4 a5 a6 a7 a8 a9 a10 a11 a12 a13 a14 a15 a16 a17 a18) (.bool true)
 | _=>none
theorem validOk:SpecSound Tryz.prog 45 validS:=by
 intro args rows out hf hpre
 unfold validS plain at hf
 dsimp only at hf
 split at hf <;> try (cases hf;done)
 rename_i a0 a1 a2 a3 a4 a5 a6 a7 a8 a9 a10 a11 a12 a13 a14 a15 a16 a17 a18
 cases hf
 obtain ⟨hc,h|h|h|h⟩:=hpre
 ·exact val1Ok [.agg (fA a0 a1 a2 a3 a4 a5 a6 a7 a8 a9 a10 a11 a12 a13 a14 a15 a16 a17 a18)] rows ⟨FCom a0 a1 a2 a3 a4 a5 a6 a7 a8 a9 a10 a11 a12 a13 a14 a15 a16 a17 a18∧FK1 a0 a1 a2 a3 a4 a5 a6 a7 a8 a9 a10 a11 a12 a13 a14 a15 a16 a17 a18,.bool true,[],false⟩ rfl ⟨hc,h⟩
 ·exact val3Ok [.agg (fA a0 a1 a2 a3 a4 a5 a6 a7 a8 a9 a10 a11 a12 a13 a14 a15 a16 a17 a18)] rows ⟨FCom a0 a1 a2 a3 a4 a5 a6 a7 a8 a9 a10 a11 a12 a13 a14 a15 a16 a17 a18∧FK3 a0 a1 a2 a3 a4 a5 a6 a7 a8 a9 a10 a11 a12 a13 a14 a15 a16 a17 a18,.bool true,[],false⟩ rfl ⟨hc,h⟩
 ·exact val4Ok [.agg (fA a0 a1 a2 a3 a4 a5 a6 a7 a8 a9 a10 a11 a12 a13 a14 a15 a16 a17 a18)] rows ⟨FCom a0 a1 a2 a3 a4 a5 a6 a7 a8 a9 a10 a11 a12 a13 a14 a15 a16 a17 a18∧FK4 a0 a1 a2 a3 a4 a5 a6 a7 a8 a9 a10 a11 a12 a13 a14 a15 a16 a17 a18,.bool true,[],false⟩ rfl ⟨hc,h⟩
 ·exact val11Ok [.agg (fA a0 a1 a2 a3 a4 a5 a6 a7 a8 a9 a10 a11 a12 a13 a14 a15 a16 a17 a18)] rows ⟨FCom a0 a1 a2 a3 a4 a5 a6 a7 a8 a9 a10 a11 a12 a13 a14 a15 a16 a17 a18∧FK11 a0 a1 a2 a3 a4 a5 a6 a7 a8 a9 a10 a11 a12 a13 a14 a15 a16 a17 a18,.bool true,[],false⟩ rfl ⟨hc,h⟩
end Go.AM.YtbepaplaahcnkaaGreat.Fc
end
