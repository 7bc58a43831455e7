/- FcA. -/
import Derived.Test.YtbepaplaahcnkaaGreatPc17
import Derived.Test.YtbepaplaahcnkaaGreatPc30
import Derived.Test.YtbepaplaahcnkaaGreatPc19

section
set_option linter.all false
namespace Go.AM.YtbepaplaahcnkaaGreat.Fc
open Go.Proofs
set_option maxRecDepth 100000
set_option maxHeartbeats 4000000
abbrev tFc:Ty:=.pair (.int .i64) (.pair (.int .i64) (.pair (.int .i64) (.pair (.int .i64) (.pair .bool (.pair (.int .i64) (.pair (.int .i64) (.pair (.int .i64) (.pair (.int .i64) (.pair (.int .i64) (.pair (.int .i64) (.pair (.int .i64) (.pair (.int .i64) (.pair (.int .i64) (.pair (.int .i64) (.pair (.int .i64) (.pair (.int .i64) (.pair (.int .i64) .str)))))))))))))))))
abbrev tFd:Ty:=.pair .code (.pair (.int .i64) (.int .i64))
abbrev FcT:Type:=tFc.El
abbrev FdT:Type:=tFd.El
def accS (j:Nat):Spec:=⟨true,fun args rows=>match args,rows with
 | [.ptr 0 0],[.box [.int .i64 a0,.int .i64 a1,.int .i64 a2,.int .i64 a3,.bool a4,.int .i64 a5,.int .i64 a6,.int .i64 a7,.int .i64 a8,.int .i64 a9,.int .i64 a10,.int .i64 a11,.int .i64 a12,.int .i64 a13,.int .i64 a14,.int .i64 a15,.int .i64 a16,.int .i64 a17,.str a18]]=>some ⟨True,.ptr 0 j,[.box (fA a0 a1 a2 a3 a4 a5 a6 a7 a8 a9 a10 a11 a12 a13 a14 a15 a16 a17 a18)],true⟩
 | [.el (.pair (.int .i64) (.pair (.int .i64) (.pair (.int .i64) (.pair (.int .i64) (.pair .bool (.pair (.int .i64) (.pair (.int .i64) (.pair (.int .i64) (.pair (.int .i64) (.pair (.int .i64) (.pair (.int .i64) (.pair (.int .i64) (.pair (.int .i64) (.pair (.int .i64) (.pair (.int .i64) (.pair (.int .i64) (.pair (.int .i64) (.pair (.int .i64) .str)))))))))))))))))) xs 0 0],[]=>some ⟨True,.el tFc xs 0 j,[],true⟩
 | _,_=>none⟩
theorem aidOk:SpecSound Tryz.prog 119 (accS 1):=by
 refine soundR (envOf sigNil) Tryz.func119 (c:=body Tryz.f119) rfl (by kernel_rfl) rfl ?_
 intro args rows out hf hpre
 unfold accS at hf
 split at hf <;> try (cases hf;done)
 ·rename_i a0 a1 a2 a3 a4 a5 a6 a7 a8 a9 a10 a11 a12 a13 a14 a15 a16 a17 a18
  cases hf
  refine ⟨Nat.le_of_ble_eq_true rfl,initI (args:=[.ptr 0 0]) (rows:=[.box (fA a0 a1 a2 a3 a4 a5 a6 a7 a8 a9 a10 a11 a12 a13 a14 a15 a16 a17 a18)]) rfl ?_⟩
  repeat' (first|refine zN ?_|refine zE ?_|refine zP ?_|refine pD ?_|refine zQ ?_|refine zR ?_|refine zW ?_)
  refine endR rfl ?_
  repeat' (first|exact trivial|exact rfl|refine ⟨rfl,?_⟩|refine And.intro ?_ ?_)
 ·rename_i xs
  cases hf
  refine ⟨Nat.le_of_ble_eq_true rfl,initI (args:=[.el tFc xs 0 0]) (rows:=[]) rfl ?_⟩
  repeat' (first|refine zN ?_|refine zE ?_|refine zP ?_|refine pD ?_|refine zQ ?_|refine zR ?_|refine zW ?_)
  refine endR rfl ?_
  repeat' (first|exact trivial|exact rfl|refine ⟨rfl,?_⟩|refine And.intro ?_ ?_)
theorem arecipeOk:SpecSound Tryz.prog 120 (accS 14):=by
 refine soundR (envOf sigNil) Tryz.func120 (c:=body Tryz.f120) rfl (by kernel_rfl) rfl ?_
 intro args rows out hf hpre
 unfold accS at hf
 split at hf <;> try (cases hf;done)
 ·rename_i a0 a1 a2 a3 a4 a5 a6 a7 a8 a9 a10 a11 a12 a13 a14 a15 a16 a17 a18
  cases hf
  refine ⟨Nat.le_of_ble_eq_true rfl,initI (args:=[.ptr 0 0]) (rows:=[.box (fA a0 a1 a2 a3 a4 a5 a6 a7 a8 a9 a10 a11 a12 a13 a14 a15 a16 a17 a18)]) rfl ?_⟩
  repeat' (first|refine zN ?_|refine zE ?_|refine zP ?_|refine pD ?_|refine zQ ?_|refine zR ?_|refine zW ?_)
  refine endR rfl ?_
  repeat' (first|exact trivial|exact rfl|refine ⟨rfl,?_⟩|refine And.intro ?_ ?_)
 ·rename_i xs
  cases hf
  refine ⟨Nat.le_of_ble_eq_true rfl,initI (args:=[.el tFc xs 0 0]) (rows:=[]) rfl ?_⟩
  repeat' (first|refine zN ?_|refine zE ?_|refine zP ?_|refine pD ?_|refine zQ ?_|refine zR ?_|refine zW ?_)
  refine endR rfl ?_
  repeat' (first|exact trivial|exact rfl|refine ⟨rfl,?_⟩|refine And.intro ?_ ?_)
theorem arevisionOk:SpecSound Tryz.prog 121 (accS 15):=by
 refine soundR (envOf sigNil) Tryz.func121 (c:=body Tryz.f121) rfl (by kernel_rfl) rfl ?_
 intro args rows out hf hpre
 unfold accS at hf
 split at hf <;> try (cases hf;done)
 ·rename_i a0 a1 a2 a3 a4 a5 a6 a7 a8 a9 a10 a11 a12 a13 a14 a15 a16 a17 a18
  cases hf
  refine ⟨Nat.le_of_ble_eq_true rfl,initI (args:=[.ptr 0 0]) (rows:=[.box (fA a0 a1 a2 a3 a4 a5 a6 a7 a8 a9 a10 a11 a12 a13 a14 a15 a16 a17 a18)]) rfl ?_⟩
  repeat' (first|refine zN ?_|refine zE ?_|refine zP ?_|refine pD ?_|refine zQ ?_|refine zR ?_|refine zW ?_)
  refine endR rfl ?_
  repeat' (first|exact trivial|exact rfl|refine ⟨rfl,?_⟩|refine And.intro ?_ ?_)
 ·rename_i xs
  cases hf
  refine ⟨Nat.le_of_ble_eq_true rfl,initI (args:=[.el tFc xs 0 0]) (rows:=[]) rfl ?_⟩
  repeat' (first|refine zN ?_|refine zE ?_|refine zP ?_|refine pD ?_|refine zQ ?_|refine zR ?_|refine zW ?_)
  refine endR rfl ?_
  repeat' (first|exact trivial|exact rfl|refine ⟨rfl,?_⟩|refine And.intro ?_ ?_)
theorem awaferOk:SpecSound Tryz.prog 123 (accS 7):=by
 refine soundR (envOf sigNil) Tryz.func123 (c:=body Tryz.f123) rfl (by kernel_rfl) rfl ?_
 intro args rows out hf hpre
 unfold accS at hf
 split at hf <;> try (cases hf;done)
 ·rename_i a0 a1 a2 a3 a4 a5 a6 a7 a8 a9 a10 a11 a12 a13 a14 a15 a16 a17 a18
  cases hf
  refine ⟨Nat.le_of_ble_eq_true rfl,initI (args:=[.ptr 0 0]) (rows:=[.box (fA a0 a1 a2 a3 a4 a5 a6 a7 a8 a9 a10 a11 a12 a13 a14 a15 a16 a17 a18)]) rfl ?_⟩
  repeat' (first|refine zN ?_|refine zE ?_|refine zP ?_|refine pD ?_|refine zQ ?_|refine zR ?_|refine zW ?_)
  refine endR rfl ?_
  repeat' (first|exact trivial|exact rfl|refine ⟨rfl,?_⟩|refine And.intro ?_ ?_)
 ·rename_i xs
  cases hf
  refine ⟨Nat.le_of_ble_eq_true rfl,initI (args:=[.el tFc xs 0 0]) (rows:=[]) rfl ?_⟩
  repeat' (first|refine zN ?_|refine zE ?_|refine zP ?_|refine pD ?_|refine zQ ?_|refine zR ?_|refine zW ?_)
  refine endR rfl ?_
  repeat' (first|exact trivial|exact rfl|refine ⟨rfl,?_⟩|refine And.intro ?_ ?_)
theorem alotOk:SpecSound Tryz.prog 124 (accS 9):=by
 refine soundR (envOf sigNil) Tryz.func124 (c:=body Tryz.f124) rfl (by kernel_rfl) rfl ?_
 intro args rows out hf hpre
 unfold accS at hf
 split at hf <;> try (cases hf;done)
 ·rename_i a0 a1 a2 a3 a4 a5 a6 a7 a8 a9 a10 a11 a12 a13 a14 a15 a16 a17 a18
  cases hf
  refine ⟨Nat.le_of_ble_eq_true rfl,initI (args:=[.ptr 0 0]) (rows:=[.box (fA a0 a1 a2 a3 a4 a5 a6 a7 a8 a9 a10 a11 a12 a13 a14 a15 a16 a17 a18)]) rfl ?_⟩
  repeat' (first|refine zN ?_|refine zE ?_|refine zP ?_|refine pD ?_|refine zQ ?_|refine zR ?_|refine zW ?_)
  refine endR rfl ?_
  repeat' (first|exact trivial|exact rfl|refine ⟨rfl,?_⟩|refine And.intro ?_ ?_)
 ·rename_i xs
  cases hf
  refine ⟨Nat.le_of_ble_eq_true rfl,initI (args:=[.el tFc xs 0 0]) (rows:=[]) rfl ?_⟩
  repeat' (first|refine zN ?_|refine zE ?_|refine zP ?_|refine pD ?_|refine zQ ?_|refine zR ?_|refine zW ?_)
  refine endR rfl ?_
  repeat' (first|exact trivial|exact rfl|refine ⟨rfl,?_⟩|refine And.intro ?_ ?_)
theorem atoolOk:SpecSound Tryz.prog 125 (accS 11):=by
 refine soundR (envOf sigNil) Tryz.func125 (c:=body Tryz.f125) rfl (by kernel_rfl) rfl ?_
 intro args rows out hf hpre
 unfold accS at hf
 split at hf <;> try (cases hf;done)
 ·rename_i a0 a1 a2 a3 a4 a5 a6 a7 a8 a9 a10 a11 a12 a13 a14 a15 a16 a17 a18
  cases hf
  refine ⟨Nat.le_of_ble_eq_true rfl,initI (args:=[.ptr 0 0]) (rows:=[.box (fA a0 a1 a2 a3 a4 a5 a6 a7 a8 a9 a10 a11 a12 a13 a14 a15 a16 a17 a18)]) rfl ?_⟩
  repeat' (first|refine zN ?_|refine zE ?_|refine zP ?_|refine pD ?_|refine zQ ?_|refine zR ?_|refine zW ?_)
  refine endR rfl ?_
  repeat' (first|exact trivial|exact rfl|refine ⟨rfl,?_⟩|refine And.intro ?_ ?_)
 ·rename_i xs
  cases hf
  refine ⟨Nat.le_of_ble_eq_true rfl,initI (args:=[.el tFc xs 0 0]) (rows:=[]) rfl ?_⟩
  repeat' (first|refine zN ?_|refine zE ?_|refine zP ?_|refine pD ?_|refine zQ ?_|refine zR ?_|refine zW ?_)
  refine endR rfl ?_
  repeat' (first|exact trivial|exact rfl|refine ⟨rfl,?_⟩|refine And.intro ?_ ?_)
theorem achamberOk:SpecSound Tryz.prog 126 (accS 12):=by
 refine soundR (envOf sigNil) Tryz.func126 (c:=body Tryz.f126) rfl (by kernel_rfl) rfl ?_
 intro args rows out hf hpre
 unfold accS at hf
 split at hf <;> try (cases hf;done)
 ·rename_i a0 a1 a2 a3 a4 a5 a6 a7 a8 a9 a10 a11 a12 a13 a14 a15 a16 a17 a18
  cases hf
  refine ⟨Nat.le_of_ble_eq_true rfl,initI (args:=[.ptr 0 0]) (rows:=[.box (fA a0 a1 a2 a3 a4 a5 a6 a7 a8 a9 a10 a11 a12 a13 a14 a15 a16 a17 a18)]) rfl ?_⟩
  repeat' (first|refine zN ?_|refine zE ?_|refine zP ?_|refine pD ?_|refine zQ ?_|refine zR ?_|refine zW ?_)
  refine endR rfl ?_
  repeat' (first|exact trivial|exact rfl|refine ⟨rfl,?_⟩|refine And.intro ?_ ?_)
 ·rename_i xs
  cases hf
  refine ⟨Nat.le_of_ble_eq_true rfl,initI (args:=[.el tFc xs 0 0]) (rows:=[]) rfl ?_⟩
  repeat' (first|refine zN ?_|refine zE ?_|refine zP ?_|refine pD ?_|refine zQ ?_|refine zR ?_|refine zW ?_)
  refine endR rfl ?_
  repeat' (first|exact trivial|exact rfl|refine ⟨rfl,?_⟩|refine And.intro ?_ ?_)
theorem astepOk:SpecSound Tryz.prog 127 (accS 13):=by
 refine soundR (envOf sigNil) Tryz.func127 (c:=body Tryz.f127) rfl (by kernel_rfl) rfl ?_
 intro args rows out hf hpre
 unfold accS at hf
 split at hf <;> try (cases hf;done)
 ·rename_i a0 a1 a2 a3 a4 a5 a6 a7 a8 a9 a10 a11 a12 a13 a14 a15 a16 a17 a18
  cases hf
  refine ⟨Nat.le_of_ble_eq_true rfl,initI (args:=[.ptr 0 0]) (rows:=[.box (fA a0 a1 a2 a3 a4 a5 a6 a7 a8 a9 a10 a11 a12 a13 a14 a15 a16 a17 a18)]) rfl ?_⟩
  repeat' (first|refine zN ?_|refine zE ?_|refine zP ?_|refine pD ?_|refine zQ ?_|refine zR ?_|refine zW ?_)
  refine endR rfl ?_
  repeat' (first|exact trivial|exact rfl|refine ⟨rfl,?_⟩|refine And.intro ?_ ?_)
 ·rename_i xs
  cases hf
  refine ⟨Nat.le_of_ble_eq_true rfl,initI (args:=[.el tFc xs 0 0]) (rows:=[]) rfl ?_⟩
  repeat' (first|refine zN ?_|refine zE ?_|refine zP ?_|refine pD ?_|refine zQ ?_|refine zR ?_|refine zW ?_)
  refine endR rfl ?_
  repeat' (first|exact trivial|exact rfl|refine ⟨rfl,?_⟩|refine And.intro ?_ ?_)
theorem avalueOk:SpecSound Tryz.prog 129 (accS 16):=by
 refine soundR (envOf sigNil) Tryz.func129 (c:=body Tryz.f129) rfl (by kernel_rfl) rfl ?_
 intro args rows out hf hpre
 unfold accS at hf
 split at hf <;> try (cases hf;done)
 ·rename_i a0 a1 a2 a3 a4 a5 a6 a7 a8 a9 a10 a11 a12 a13 a14 a15 a16 a17 a18
  cases hf
  refine ⟨Nat.le_of_ble_eq_true rfl,initI (args:=[.ptr 0 0]) (rows:=[.box (fA a0 a1 a2 a3 a4 a5 a6 a7 a8 a9 a10 a11 a12 a13 a14 a15 a16 a17 a18)]) rfl ?_⟩
  repeat' (first|refine zN ?_|refine zE ?_|refine zP ?_|refine pD ?_|refine zQ ?_|refine zR ?_|refine zW ?_)
  refine endR rfl ?_
  repeat' (first|exact trivial|exact rfl|refine ⟨rfl,?_⟩|refine And.intro ?_ ?_)
 ·rename_i xs
  cases hf
  refine ⟨Nat.le_of_ble_eq_true rfl,initI (args:=[.el tFc xs 0 0]) (rows:=[]) rfl ?_⟩
  repeat' (first|refine zN ?_|refine zE ?_|refine zP ?_|refine pD ?_|refine zQ ?_|refine zR ?_|refine zW ?_)
  refine endR rfl ?_
  repeat' (first|exact trivial|exact rfl|refine ⟨rfl,?_⟩|refine And.intro ?_ ?_)
theorem aotherOk:SpecSound Tryz.prog 136 (accS 8):=by
 refine soundR (envOf sigNil) Tryz.func136 (c:=body Tryz.f136) rfl (by kernel_rfl) rfl ?_
 intro args rows out hf hpre
 unfold accS at hf
 split at hf <;> try (cases hf;done)
 ·rename_i a0 a1 a2 a3 a4 a5 a6 a7 a8 a9 a10 a11 a12 a13 a14 a15 a16 a17 a18
  cases hf
  refine ⟨Nat.le_of_ble_eq_true rfl,initI (args:=[.ptr 0 0]) (rows:=[.box (fA a0 a1 a2 a3 a4 a5 a6 a7 a8 a9 a10 a11 a12 a13 a14 a15 a16 a17 a18)]) rfl ?_⟩
  repeat' (first|refine zN ?_|refine zE ?_|refine zP ?_|refine pD ?_|refine zQ ?_|refine zR ?_|refine zW ?_)
  refine endR rfl ?_
  repeat' (first|exact trivial|exact rfl|refine ⟨rfl,?_⟩|refine And.intro ?_ ?_)
 ·rename_i xs
  cases hf
  refine ⟨Nat.le_of_ble_eq_true rfl,initI (args:=[.el tFc xs 0 0]) (rows:=[]) rfl ?_⟩
  repeat' (first|refine zN ?_|refine zE ?_|refine zP ?_|refine pD ?_|refine zQ ?_|refine zR ?_|refine zW ?_)
  refine endR rfl ?_
  repeat' (first|exact trivial|exact rfl|refine ⟨rfl,?_⟩|refine And.intro ?_ ?_)
theorem aproductOk:SpecSound Tryz.prog 137 (accS 10):=by
 refine soundR (envOf sigNil) Tryz.func137 (c:=body Tryz.f137) rfl (by kernel_rfl) rfl ?_
 intro args rows out hf hpre
 unfold accS at hf
 split at hf <;> try (cases hf;done)
 ·rename_i a0 a1 a2 a3 a4 a5 a6 a7 a8 a9 a10 a11 a12 a13 a14 a15 a16 a17 a18
  cases hf
  refine ⟨Nat.le_of_ble_eq_true rfl,initI (args:=[.ptr 0 0]) (rows:=[.box (fA a0 a1 a2 a3 a4 a5 a6 a7 a8 a9 a10 a11 a12 a13 a14 a15 a16 a17 a18)]) rfl ?_⟩
  repeat' (first|refine zN ?_|refine zE ?_|refine zP ?_|refine pD ?_|refine zQ ?_|refine zR ?_|refine zW ?_)
  refine endR rfl ?_
  repeat' (first|exact trivial|exact rfl|refine ⟨rfl,?_⟩|refine And.intro ?_ ?_)
 ·rename_i xs
  cases hf
  refine ⟨Nat.le_of_ble_eq_true rfl,initI (args:=[.el tFc xs 0 0]) (rows:=[]) rfl ?_⟩
  repeat' (first|refine zN ?_|refine zE ?_|refine zP ?_|refine pD ?_|refine zQ ?_|refine zR ?_|refine zW ?_)
  refine endR rfl ?_
  repeat' (first|exact trivial|exact rfl|refine ⟨rfl,?_⟩|refine And.intro ?_ ?_)
theorem auntilOk:SpecSound Tryz.prog 172 (accS 6):=by
 refine soundR (envOf sigNil) Tryz.func172 (c:=body Tryz.f172) rfl (by kernel_rfl) rfl ?_
 intro args rows out hf hpre
 unfold accS at hf
 split at hf <;> try (cases hf;done)
 ·rename_i a0 a1 a2 a3 a4 a5 a6 a7 a8 a9 a10 a11 a12 a13 a14 a15 a16 a17 a18
  cases hf
  refine ⟨Nat.le_of_ble_eq_true rfl,initI (args:=[.ptr 0 0]) (rows:=[.box (fA a0 a1 a2 a3 a4 a5 a6 a7 a8 a9 a10 a11 a12 a13 a14 a15 a16 a17 a18)]) rfl ?_⟩
  repeat' (first|refine zN ?_|refine zE ?_|refine zP ?_|refine pD ?_|refine zQ ?_|refine zR ?_|refine zW ?_)
  refine endR rfl ?_
  repeat' (first|exact trivial|exact rfl|refine ⟨rfl,?_⟩|refine And.intro ?_ ?_)
 ·rename_i xs
  cases hf
  refine ⟨Nat.le_of_ble_eq_true rfl,initI (args:=[.el tFc xs 0 0]) (rows:=[]) rfl ?_⟩
  repeat' (first|refine zN ?_|refine zE ?_|refine zP ?_|refine pD ?_|refine zQ ?_|refine zR ?_|refine zW ?_)
  refine endR rfl ?_
  repeat' (first|exact trivial|exact rfl|refine ⟨rfl,?_⟩|refine And.intro ?_ ?_)
theorem atimeOk:SpecSound Tryz.prog 173 (accS 5):=by
 refine soundR (envOf sigNil) Tryz.func173 (c:=body Tryz.f173) rfl (by kernel_rfl) rfl ?_
 intro args rows out hf hpre
 unfold accS at hf
 split at hf <;> try (cases hf;done)
 ·rename_i a0 a1 a2 a3 a4 a5 a6 a7 a8 a9 a10 a11 a12 a13 a14 a15 a16 a17 a18
  cases hf
  refine ⟨Nat.le_of_ble_eq_true rfl,initI (args:=[.ptr 0 0]) (rows:=[.box (fA a0 a1 a2 a3 a4 a5 a6 a7 a8 a9 a10 a11 a12 a13 a14 a15 a16 a17 a18)]) rfl ?_⟩
  repeat' (first|refine zN ?_|refine zE ?_|refine zP ?_|refine pD ?_|refine zQ ?_|refine zR ?_|refine zW ?_)
  refine endR rfl ?_
  repeat' (first|exact trivial|exact rfl|refine ⟨rfl,?_⟩|refine And.intro ?_ ?_)
 ·rename_i xs
  cases hf
  refine ⟨Nat.le_of_ble_eq_true rfl,initI (args:=[.el tFc xs 0 0]) (rows:=[]) rfl ?_⟩
  repeat' (first|refine zN ?_|refine zE ?_|refine zP ?_|refine pD ?_|refine zQ ?_|refine zR ?_|refine zW ?_)
  refine endR rfl ?_
  repeat' (first|exact trivial|exact rfl|refine ⟨rfl,?_⟩|refine And.intro ?_ ?_)
def isSpanS:Spec:=plain fun
 | [.agg [.int .i64 a0,.int .i64 a1,.int .i64 a2,.int .i64 a3,.bool a4,.int .i64 a5,.int .i64 a6,.int .i64 a7,.int .i64 a8,.int .i64 a9,.int .i64 a10,.int .i64 a11,.int .i64 a12,.int .i64 a13,.int .i64 a14,.int .i64 a15,.int .i64 a16,.int .i64 a17,.str a18]]=>outV True (.bool (decide (a5≤a6)))
 | _=>none
theorem isSpanOk:SpecSound Tryz.prog 133 isSpanS:=by
 refine soundP (envOf sigNil) Tryz.func133 (c:=body Tryz.f133) rfl (by kernel_rfl) rfl ?_
 intro args out hf hpre
 split at hf <;> try (cases hf;done)
 rename_i a0 a1 a2 a3 a4 a5 a6 a7 a8 a9 a10 a11 a12 a13 a14 a15 a16 a17 a18
 cases hf
 refine ⟨Nat.le_of_ble_eq_true rfl,initI (args:=[.agg (fA a0 a1 a2 a3 a4 a5 a6 a7 a8 a9 a10 a11 a12 a13 a14 a15 a16 a17 a18)]) rfl ?_⟩
 repeat' (first|refine zN ?_|refine zE ?_|refine zP ?_|refine pD ?_|refine zQ ?_|refine zR ?_|refine zW ?_)
 refine endR rfl ?_
 repeat' (first|exact trivial|exact rfl|refine ⟨rfl,?_⟩|refine And.intro ?_ ?_)
def isMarkS:Spec:=plain fun
 | [.agg [.int .i64 a0,.int .i64 a1,.int .i64 a2,.int .i64 a3,.bool a4,.int .i64 a5,.int .i64 a6,.int .i64 a7,.int .i64 a8,.int .i64 a9,.int .i64 a10,.int .i64 a11,.int .i64 a12,.int .i64 a13,.int .i64 a14,.int .i64 a15,.int .i64 a16,.int .i64 a17,.str a18]]=>outV True (.bool (decide (a7≠a8)))
 | _=>none
theorem isMarkOk:SpecSound Tryz.prog 122 isMarkS:=by
 refine soundP (envOf sigNil) Tryz.func122 (c:=body Tryz.f122) rfl (by kernel_rfl) rfl ?_
 intro args out hf hpre
 split at hf <;> try (cases hf;done)
 rename_i a0 a1 a2 a3 a4 a5 a6 a7 a8 a9 a10 a11 a12 a13 a14 a15 a16 a17 a18
 cases hf
 refine ⟨Nat.le_of_ble_eq_true rfl,initI (args:=[.agg (fA a0 a1 a2 a3 a4 a5 a6 a7 a8 a9 a10 a11 a12 a13 a14 a15 a16 a17 a18)]) rfl ?_⟩
 repeat' (first|refine zN ?_|refine zE ?_|refine zP ?_|refine pD ?_|refine zQ ?_|refine zR ?_|refine zW ?_)
 refine endR rfl ?_
 repeat' (first|exact trivial|exact rfl|refine ⟨rfl,?_⟩|refine And.intro ?_ ?_)
def isAnyS:Spec:=plain fun
 | [.agg [.int .i64 a0,.int .i64 a1,.int .i64 a2,.int .i64 a3,.bool a4,.int .i64 a5,.int .i64 a6,.int .i64 a7,.int .i64 a8,.int .i64 a9,.int .i64 a10,.int .i64 a11,.int .i64 a12,.int .i64 a13,.int .i64 a14,.int .i64 a15,.int .i64 a16,.int .i64 a17,.str a18]]=>outV True (.bool (true))
 | _=>none
theorem isAnyOk:SpecSound Tryz.prog 135 isAnyS:=by
 refine soundP (envOf sigNil) Tryz.func135 (c:=body Tryz.f135) rfl (by kernel_rfl) rfl ?_
 intro args out hf hpre
 split at hf <;> try (cases hf;done)
 rename_i a0 a1 a2 a3 a4 a5 a6 a7 a8 a9 a10 a11 a12 a13 a14 a15 a16 a17 a18
 cases hf
 refine ⟨Nat.le_of_ble_eq_true rfl,initI (args:=[.agg (fA a0 a1 a2 a3 a4 a5 a6 a7 a8 a9 a10 a11 a12 a13 a14 a15 a16 a17 a18)]) rfl ?_⟩
 repeat' (first|refine zN ?_|refine zE ?_|refine zP ?_|refine pD ?_|refine zQ ?_|refine zR ?_|refine zW ?_)
 refine endR rfl ?_
 repeat' (first|exact trivial|exact rfl|refine ⟨rfl,?_⟩|refine And.intro ?_ ?_)
def flagS:Spec:=plain fun
 | [.bool b]=>outV True (.int .i64 (if b then 1 else 0))
 | _=>none
theorem flagOk:SpecSound Tryz.prog 138 flagS:=by
 refine soundP (envOf sigNil) Tryz.func138 (c:=body Tryz.f138) rfl (by kernel_rfl) rfl ?_
 intro args out hf hpre
 split at hf <;> try (cases hf;done)
 rename_i b
 cases hf
 refine ⟨Nat.le_of_ble_eq_true rfl,initI (args:=[.bool b]) rfl ?_⟩
 repeat' (first|refine zN ?_|refine zE ?_|refine zP ?_|refine pD ?_|refine zQ ?_|refine zR ?_|refine zW ?_)
 cases b
 ·repeat' (first|refine zN ?_|refine zE ?_|refine zP ?_|refine pD ?_|refine zQ ?_|refine zR ?_|refine zW ?_)
  refine condF rfl ?_
  repeat' (first|refine zN ?_|refine zE ?_|refine zP ?_|refine pD ?_|refine zQ ?_|refine zR ?_|refine zW ?_)
  refine endR rfl ?_
  repeat' (first|exact trivial|exact rfl|refine ⟨rfl,?_⟩|refine And.intro ?_ ?_)
 ·repeat' (first|refine zN ?_|refine zE ?_|refine zP ?_|refine pD ?_|refine zQ ?_|refine zR ?_|refine zW ?_)
  refine condT rfl ?_
  repeat' (first|refine zN ?_|refine zE ?_|refine zP ?_|refine pD ?_|refine zQ ?_|refine zR ?_|refine zW ?_)
  refine endR rfl ?_
  repeat' (first|exact trivial|exact rfl|refine ⟨rfl,?_⟩|refine And.intro ?_ ?_)
def numberS:Spec:=⟨true,fun args rows=>match args,rows with
 | [.fn n [] []],[]=>some ⟨n=119∨n=120∨n=121∨n=123∨n=136∨n=124∨n=137,.agg [.fn n [] [],.int .i64 1,.int .i64 1000000],[],true⟩
 | _,_=>none⟩
theorem numberOk:SpecSound Tryz.prog 118 numberS:=by
 refine soundR (envOf sigNil) Tryz.func118 (c:=body Tryz.f118) rfl (by kernel_rfl) rfl ?_
 intro args rows out hf hpre
 split at hf <;> try (cases hf;done)
 rename_i n
 cases hf
 refine ⟨Nat.le_of_ble_eq_true rfl,initI (args:=[.fn n [] []]) (rows:=[]) rfl ?_⟩
 rcases hpre with rfl|rfl|rfl|rfl|rfl|rfl|rfl
 all_goals
  repeat' (first|refine zN ?_|refine zE ?_|refine zP ?_|refine pD ?_|refine zQ ?_|refine zR ?_|refine zW ?_)
  refine endR rfl ?_
  repeat' (first|exact trivial|exact rfl|refine ⟨rfl,?_⟩|refine And.intro ?_ ?_)
def whenS:Spec:=⟨true,fun args rows=>match args,rows with
 | [],[]=>some ⟨True,.agg [.fn 173 [] [],.int .i64 0,.int .i64 1000000],[],true⟩
 | _,_=>none⟩
theorem whenOk:SpecSound Tryz.prog 134 whenS:=by
 refine soundR (envOf sigNil) Tryz.func134 (c:=body Tryz.f134) rfl (by kernel_rfl) rfl ?_
 intro args rows out hf hpre
 split at hf <;> try (cases hf;done)
 cases hf
 refine ⟨Nat.le_of_ble_eq_true rfl,initI rfl ?_⟩
 repeat' (first|refine zN ?_|refine zE ?_|refine zP ?_|refine pD ?_|refine zQ ?_|refine zR ?_|refine zW ?_)
 refine endR rfl ?_
 repeat' (first|exact trivial|exact rfl|refine ⟨rfl,?_⟩|refine And.intro ?_ ?_)
def placeL:List FdT:=[(125,0,59),(126,0,3)]
def placeS:Spec:=plain fun
 | []=>some ⟨True,.own 0,[.seq tFd placeL],false⟩
 | _=>none
theorem placeOk:SpecSound Tryz.prog 131 placeS:=by
 refine soundP (envOf sigNil) Tryz.func131 (c:=body Tryz.f131) rfl (by kernel_rfl) rfl ?_
 intro args out hf hpre
 split at hf <;> try (cases hf;done)
 cases hf
 refine ⟨Nat.le_of_ble_eq_true rfl,initI rfl ?_⟩
 repeat' (first|refine zN ?_|refine zE ?_|refine zP ?_|refine pD ?_|refine zQ ?_|refine zR ?_|refine zW ?_)
 refine endR rfl ?_
 repeat' (first|exact trivial|exact rfl|refine ⟨rfl,?_⟩|refine And.intro ?_ ?_)
def sigSpan:List (Nat × Spec):=[(134,whenS)]
theorem sigSpanOk:SigOk Tryz.prog (look sigSpan):=sigCons sigNil Tryz.func134 (by kernel_rfl) (c:=body Tryz.f134) rfl whenOk
def whenF:FdT:=(173,0,1000000)
def spanL:List FdT:=[whenF,(172,0,1000000)]
def spanS:Spec:=plain fun
 | []=>some ⟨True,.own 0,[.seq tFd spanL],false⟩
 | _=>none
theorem spanOk:SpecSound Tryz.prog 132 spanS:=by
 refine soundP (envOf sigSpanOk) Tryz.func132 (c:=body Tryz.f132) rfl (by kernel_rfl) rfl ?_
 intro args out hf hpre
 split at hf <;> try (cases hf;done)
 cases hf
 refine ⟨Nat.le_of_ble_eq_true rfl,initI rfl ?_⟩
 repeat' (first|refine zN ?_|refine zE ?_|refine zP ?_|refine pD ?_|refine zQ ?_|refine zR ?_|refine zW ?_)
 refine endR rfl ?_
 repeat' (first|exact trivial|exact rfl|refine ⟨rfl,?_⟩|refine And.intro ?_ ?_)
theorem flat_take {α:Type} {xss:List (List α)} {i:Nat} (h:i < xss.length):(xss.take (i+1)).flatten=(xss.take i).flatten++getI xss [] i:=by
 rw [List.take_succ_eq_append_getElem h,List.flatten_append]
 simp [getI,h]
theorem flat_le {α:Type} {xss:List (List α)} (i:Nat):(xss.take i).flatten.length≤xss.flatten.length:=by
 conv=>rhs;rw [← List.take_append_drop i xss,List.flatten_append,List.length_append]
 omega
def joinS:Spec:=plain fun
 | [.sl (.slice (.pair .code (.pair (.int .i64) (.int .i64)))) xss]=>some ⟨(List.flatten (α:=FdT) xss).length≤1000,.own 0,[.seq tFd (List.flatten (α:=FdT) xss)],false⟩
 | _=>none
theorem joinOk:SpecSound Tryz.prog 130 joinS:=by
 refine soundP (envOf sigNil) Tryz.func130 (c:=body Tryz.f130) rfl (by kernel_rfl) rfl ?_
 intro args out hf hpre
 split at hf <;> try (cases hf;done)
 rename_i xss
 cases hf
 refine ⟨Nat.le_of_ble_eq_true rfl,initI (args:=[.sl (.slice tFd) xss]) rfl ?_⟩
 refine factSl (t:=0) (ty:=.slice tFd) rfl (fun hxs=>?_)
 have hmx:List.length (α:=List FdT) xss≤9223372036854775807:=by have:=hxs.1;unfold maxLen at this;exact this
 repeat' (first|refine zN ?_|refine zE ?_|refine zP ?_|refine pD ?_|refine zQ ?_|refine zR ?_|refine zW ?_)
 refine loopI (σ:=Nat) (fun i=>[(2,.own 2000),(7,.int .i64 i)]) (fun i=>[(2000,.seq tFd (List.flatten (α:=FdT) (xss.take i)))]) (fun i=>i≤List.length (α:=List FdT) xss) (fun i=>List.length (α:=List FdT) xss - i) 0 rfl (fun _=>rfl) rfl ?_ ?_ ?_
 ·exact Nat.zero_le _
 ·repeat' (first|exact trivial|with_reducible exact rfl|refine And.intro ?_ ?_)
  all_goals rfl
 rintro i hi
 repeat' (first|refine zN ?_|refine zE ?_|refine zP ?_|refine pD ?_|refine zQ ?_|refine zR ?_|refine zW ?_)
 refine condI rfl (fun c=>?_) (fun c=>?_)
 ·simp only [decide_eq_true_eq] at c
  have hil:i < List.length (α:=List FdT) xss:=by omega
  have hin:((i:Int)).toNat=i:=by omega
  have hfl:=flat_take (α:=FdT) hil
  have hle:=flat_le (α:=FdT) (xss:=xss) (i+1)
  have hpre:(List.flatten (α:=FdT) xss).length≤1000:=hpre
  rw [hfl,List.length_append] at hle
  repeat' (first|refine zN ?_|refine zE ?_|refine zP ?_|refine pD ?_|refine pC (by (simp only [hin];change ((List.flatten (α:=FdT) (List.take i xss)).length+(getI xss [] i).length) * 24≤_;omega)) ?_|refine zQ ?_|refine zR ?_|refine zW ?_)
  refine roundI (i+1) rfl ?_ ?_ ?_
  ·omega
  ·omega
  ·repeat' (first|exact trivial|with_reducible exact rfl|refine And.intro ?_ ?_)
   all_goals (first|rfl|(simp only [hin];exact hfl))
 ·simp only [decide_eq_false_iff_not] at c
  obtain rfl:i=List.length (α:=List FdT) xss:=by omega
  repeat' (first|refine zN ?_|refine zE ?_|refine zP ?_|refine pD ?_|refine zQ ?_|refine zR ?_|refine zW ?_)
  refine endR rfl ?_
  repeat' (first|exact trivial|exact rfl|refine ⟨rfl,?_⟩|refine And.intro ?_ ?_)
  simp
end Go.AM.YtbepaplaahcnkaaGreat.Fc
end
