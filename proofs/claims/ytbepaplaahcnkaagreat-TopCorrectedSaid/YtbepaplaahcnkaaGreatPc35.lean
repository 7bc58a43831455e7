/- GnA, GnB. -/
import Derived.Test.YtbepaplaahcnkaaGreatPc31
import Derived.Test.YtbepaplaahcnkaaGreatPc33
import Derived.Test.YtbepaplaahcnkaaGreatPc34

set_option linter.all false
section
namespace Go.AM.YtbepaplaahcnkaaGreat.Gn
open Go.Proofs Go.AM.YtbepaplaahcnkaaGreat.Fc Go.AM.YtbepaplaahcnkaaGreat.Bs
set_option maxRecDepth 100000
set_option maxHeartbeats 8000000
def isIdF (n:Int):Bool:=decide (n≥1)&&decide (n≤1000000)
def isIdS:Spec:=plain fun
 | [.int .i64 n]=>outV True (.bool (isIdF n))
 | _=>none
theorem isIdOk:SpecSound Tryz.prog 36 isIdS:=by
 refine soundP (envOf sigNil) Tryz.func36 (c:=body Tryz.f36) rfl (by kernel_rfl) rfl ?_
 intro args out hf hpre
 split at hf <;> try (cases hf;done)
 rename_i n
 cases hf
 refine ⟨Nat.le_of_ble_eq_true rfl,initI (args:=[.int .i64 n]) rfl ?_⟩
 repeat' (first|refine zN ?_|refine zE ?_|refine zP ?_|refine pD ?_|refine zQ ?_|refine zR ?_|refine zW ?_)
 refine endR rfl ?_
 repeat' (first|exact trivial|exact rfl|refine ⟨rfl,?_⟩|refine And.intro ?_ ?_)
def sigId:List (Nat × Spec):=[(36,isIdS)]
theorem sigIdOk:SigOk Tryz.prog (look sigId):=sigCons sigNil Tryz.func36 (by kernel_rfl) (c:=body Tryz.f36) rfl isIdOk
def swC (t:Int) (x:FcT):Bool:=(isIdF x.2.2.2.2.2.2.2.1&&isIdF x.2.2.2.2.2.2.2.2.1)&&decide ((x.2.2.2.2.2.1:Int)≤t)
def at2S:Spec:=plain fun
 | [.agg [.int .i64 a0,.int .i64 a1,.int .i64 a2,.int .i64 a3,.bool a4,.int .i64 a5,.int .i64 a6,.int .i64 a7,.int .i64 a8,.int .i64 a9,.int .i64 a10,.int .i64 a11,.int .i64 a12,.int .i64 a13,.int .i64 a14,.int .i64 a15,.int .i64 a16,.int .i64 a17,.str a18],.el (.int .i64) [t] 0 0]=>outV True (.bool (swC t (a0,a1,a2,a3,a4,a5,a6,a7,a8,a9,a10,a11,a12,a13,a14,a15,a16,a17,a18)))
 | _=>none
theorem at2Ok:SpecSound Tryz.prog 101 at2S:=by
 refine soundP (envOf sigIdOk) Tryz.func101 (c:=body Tryz.f101) rfl (by kernel_rfl) rfl ?_
 intro args out hf hpre
 split at hf <;> try (cases hf;done)
 rename_i a0 a1 a2 a3 a4 a5 a6 a7 a8 a9 a10 a11 a12 a13 a14 a15 a16 a17 a18 t
 cases hf
 refine ⟨Nat.le_of_ble_eq_true rfl,initI (args:=[.agg (fA a0 a1 a2 a3 a4 a5 a6 a7 a8 a9 a10 a11 a12 a13 a14 a15 a16 a17 a18),.el (.int .i64) [t] 0 0]) rfl ?_⟩
 repeat' (first|refine zN ?_|refine zE ?_|refine zP ?_|refine pD ?_|refine zQ ?_|refine zR ?_|refine zW ?_)
 refine endR rfl ?_
 repeat' (first|exact trivial|exact rfl|refine ⟨rfl,?_⟩|refine And.intro ?_ ?_)
theorem seen_at2 (t:Int):Seen (.fn 101 [] [.el (.int .i64) [t] 0 0]) (.ext (.fn1 tFc .bool (swC t))):=seen1 at2Ok (callF Tryz.func101 (by kernel_rfl) (c:=body Tryz.f101) rfl) rfl rfl rfl rfl fun x=>⟨_,rfl,trivial,rfl⟩
def od1S:Spec:=plain fun
 | [.agg [.int .i64 a0,.int .i64 a1,.int .i64 a2,.int .i64 a3,.bool a4,.int .i64 a5,.int .i64 a6,.int .i64 a7,.int .i64 a8,.int .i64 a9,.int .i64 a10,.int .i64 a11,.int .i64 a12,.int .i64 a13,.int .i64 a14,.int .i64 a15,.int .i64 a16,.int .i64 a17,.str a18]]=>outV True (.agg (fA a0 a1 a2 a3 a4 a5 a6 a7 a8 a9 a10 a11 a12 a13 a14 a15 a16 a17 a18))
 | _=>none
theorem od1Ok:SpecSound Tryz.prog 158 od1S:=by
 refine soundP (envOf sigNil) Tryz.func158 (c:=body Tryz.f158) rfl (by kernel_rfl) rfl ?_
 intro args out hf hpre
 split at hf <;> try (cases hf;done)
 rename_i a0 a1 a2 a3 a4 a5 a6 a7 a8 a9 a10 a11 a12 a13 a14 a15 a16 a17 a18
 cases hf
 refine ⟨Nat.le_of_ble_eq_true rfl,initI (args:=[.agg (fA a0 a1 a2 a3 a4 a5 a6 a7 a8 a9 a10 a11 a12 a13 a14 a15 a16 a17 a18)]) rfl ?_⟩
 repeat' (first|refine zN ?_|refine zE ?_|refine zP ?_|refine pD ?_|refine zQ ?_|refine zR ?_|refine zW ?_)
 refine endR rfl ?_
 repeat' (first|exact trivial|exact rfl|refine ⟨rfl,?_⟩|refine And.intro ?_ ?_)
def od2S:Spec:=plain fun
 | [.agg [.int .i64 a0,.int .i64 a1,.int .i64 a2,.int .i64 a3,.bool a4,.int .i64 a5,.int .i64 a6,.int .i64 a7,.int .i64 a8,.int .i64 a9,.int .i64 a10,.int .i64 a11,.int .i64 a12,.int .i64 a13,.int .i64 a14,.int .i64 a15,.int .i64 a16,.int .i64 a17,.str a18]]=>outV True (.agg (fA a0 a1 a2 a3 a4 a5 a6 a7 a8 a9 a10 a11 a12 a13 a14 a15 a16 a17 a18))
 | _=>none
theorem od2Ok:SpecSound Tryz.prog 162 od2S:=by
 refine soundP (envOf sigNil) Tryz.func162 (c:=body Tryz.f162) rfl (by kernel_rfl) rfl ?_
 intro args out hf hpre
 split at hf <;> try (cases hf;done)
 rename_i a0 a1 a2 a3 a4 a5 a6 a7 a8 a9 a10 a11 a12 a13 a14 a15 a16 a17 a18
 cases hf
 refine ⟨Nat.le_of_ble_eq_true rfl,initI (args:=[.agg (fA a0 a1 a2 a3 a4 a5 a6 a7 a8 a9 a10 a11 a12 a13 a14 a15 a16 a17 a18)]) rfl ?_⟩
 repeat' (first|refine zN ?_|refine zE ?_|refine zP ?_|refine pD ?_|refine zQ ?_|refine zR ?_|refine zW ?_)
 refine endR rfl ?_
 repeat' (first|exact trivial|exact rfl|refine ⟨rfl,?_⟩|refine And.intro ?_ ?_)
def od3S:Spec:=plain fun
 | [.agg [.int .i64 a0,.int .i64 a1,.int .i64 a2,.int .i64 a3,.bool a4,.int .i64 a5,.int .i64 a6,.int .i64 a7,.int .i64 a8,.int .i64 a9,.int .i64 a10,.int .i64 a11,.int .i64 a12,.int .i64 a13,.int .i64 a14,.int .i64 a15,.int .i64 a16,.int .i64 a17,.str a18]]=>outV True (.bool true)
 | _=>none
theorem od3Ok:SpecSound Tryz.prog 163 od3S:=by
 refine soundP (envOf sigNil) Tryz.func163 (c:=body Tryz.f163) rfl (by kernel_rfl) rfl ?_
 intro args out hf hpre
 split at hf <;> try (cases hf;done)
 rename_i a0 a1 a2 a3 a4 a5 a6 a7 a8 a9 a10 a11 a12 a13 a14 a15 a16 a17 a18
 cases hf
 refine ⟨Nat.le_of_ble_eq_true rfl,initI (args:=[.agg (fA a0 a1 a2 a3 a4 a5 a6 a7 a8 a9 a10 a11 a12 a13 a14 a15 a16 a17 a18)]) rfl ?_⟩
 repeat' (first|refine zN ?_|refine zE ?_|refine zP ?_|refine pD ?_|refine zQ ?_|refine zR ?_|refine zW ?_)
 refine endR rfl ?_
 repeat' (first|exact trivial|exact rfl|refine ⟨rfl,?_⟩|refine And.intro ?_ ?_)
def sigSel1:List (Nat × Spec):=[(158,od1S)]
theorem sigSel1Ok:SigOk Tryz.prog (look sigSel1):=sigCons sigNil Tryz.func158 (by kernel_rfl) (c:=body Tryz.f158) rfl od1Ok
def sel1S:Spec:=⟨true,fun args rows=>match args,rows with
 | [.sl (.pair (.int .i64) (.pair (.int .i64) (.pair (.int .i64) (.pair (.int .i64) (.pair .bool (.pair (.int .i64) (.pair (.int .i64) (.pair (.int .i64) (.pair (.int .i64) (.pair (.int .i64) (.pair (.int .i64) (.pair (.int .i64) (.pair (.int .i64) (.pair (.int .i64) (.pair (.int .i64) (.pair (.int .i64) (.pair (.int .i64) (.pair (.int .i64) .str)))))))))))))))))) l,.fn 158 [] [],.ext (.fn1 (.pair (.int .i64) (.pair (.int .i64) (.pair (.int .i64) (.pair (.int .i64) (.pair .bool (.pair (.int .i64) (.pair (.int .i64) (.pair (.int .i64) (.pair (.int .i64) (.pair (.int .i64) (.pair (.int .i64) (.pair (.int .i64) (.pair (.int .i64) (.pair (.int .i64) (.pair (.int .i64) (.pair (.int .i64) (.pair (.int .i64) (.pair (.int .i64) .str)))))))))))))))))) .bool c)],[]=>some ⟨List.length (α:=FcT) l≤1000000,.own 0,[.seq tFc (List.filter (α:=FcT) c l)],true⟩
 | _,_=>none⟩
theorem filter_snoc {α:Type} {c:α→Bool} {l:List α} {d:α} {i:Nat} (h:i < l.length):(l.take (i+1)).filter c=bif c (getI l d i) then (l.take i).filter c++[getI l d i] else (l.take i).filter c:=by
 rw [take_succ_getI (d:=d) h,List.filter_append]
 cases hc:c (getI l d i) <;> simp [hc]
theorem sel1Ok:SpecSound Tryz.prog 157 sel1S:=by
 refine soundR (envOf sigSel1Ok) Tryz.func157 (c:=body Tryz.f157) rfl (by kernel_rfl) rfl ?_
 intro args rows out hf hpre
 split at hf <;> try (cases hf;done)
 rename_i l c
 cases hf
 refine ⟨Nat.le_of_ble_eq_true rfl,initI (args:=[.sl tFc l,.fn 158 [] [],.ext (.fn1 tFc .bool c)]) (rows:=[]) rfl ?_⟩
 have hlen:List.length (α:=FcT) l≤1000000:=hpre
 repeat' (first|refine zN ?_|refine zE ?_|refine zP ?_|refine pD ?_|refine zQ ?_|refine zR ?_|refine zW ?_)
 refine loopI (σ:=Nat) (fun i=>[(12,.int .i64 i),(7,.own 5000)]) (fun i=>[(5000,.seq tFc (List.filter (α:=FcT) c (List.take (α:=FcT) i l)))]) (fun i=>i≤List.length (α:=FcT) l) (fun i=>List.length (α:=FcT) l - i) 0 rfl (fun _=>rfl) rfl ?_ ?_ ?_
 ·exact Nat.zero_le _
 ·repeat' (first|exact trivial|with_reducible exact rfl|refine And.intro ?_ ?_)
  all_goals rfl
 intro i hi
 repeat' (first|refine zN ?_|refine zE ?_|refine zP ?_|refine pD ?_|refine zQ ?_|refine zR ?_|refine zW ?_)
 refine condI rfl (fun c1=>?_) (fun c1=>?_)
 ·simp only [decide_eq_true_eq] at c1
  have hil:i < List.length (α:=FcT) l:=by omega
  have hin:((i:Int)).toNat=i:=by omega
  have hnx:=filter_snoc (c:=c) (d:=tFc.dflt) hil
  have hfl:(List.filter (α:=FcT) c (List.take (α:=FcT) i l)).length≤1000000:=Nat.le_trans (List.length_filter_le _ _) (by rw [List.length_take];omega)
  obtain ⟨x,hx⟩:∃ x:FcT,x=getI l tFc.dflt i:=⟨_,rfl⟩
  rw [← hx] at hnx
  repeat' (first|refine zN ?_|refine zE ?_|refine zP ?_|refine pD ?_|refine zQ ?_|refine zR ?_|refine zW ?_)
  simp only [hin]
  rw [← hx]
  refine condI rfl (fun c2=>?_) (fun c2=>?_)
  ·have c2:c x=true:=c2
   rw [c2] at hnx
   repeat' (first|refine zN ?_|refine zE ?_|refine zP ?_|refine pD ?_|refine pC (by first|(show (_+1) * _≤_;omega)|omega) ?_|refine zQ ?_|refine zR ?_|refine zW ?_)
   refine roundI (i+1) rfl ?_ ?_ ?_
   ·show i+1≤List.length (α:=FcT) l
    omega
   ·show List.length (α:=FcT) l - (i+1) < List.length (α:=FcT) l - i
    omega
   ·repeat' (first|exact trivial|with_reducible exact rfl|refine And.intro ?_ ?_)
    all_goals first|rfl|exact hnx
  ·have c2:c x=false:=c2
   rw [c2] at hnx
   repeat' (first|refine zN ?_|refine zE ?_|refine zP ?_|refine pD ?_|refine zQ ?_|refine zR ?_|refine zW ?_)
   refine roundI (i+1) rfl ?_ ?_ ?_
   ·show i+1≤List.length (α:=FcT) l
    omega
   ·show List.length (α:=FcT) l - (i+1) < List.length (α:=FcT) l - i
    omega
   ·repeat' (first|exact trivial|with_reducible exact rfl|refine And.intro ?_ ?_)
    all_goals first|rfl|exact hnx
 ·simp only [decide_eq_false_iff_not] at c1
  have hie:i=List.length (α:=FcT) l:=by omega
  rw [hie,List.take_length]
  repeat' (first|refine zN ?_|refine zE ?_|refine zP ?_|refine pD ?_|refine zQ ?_|refine zR ?_|refine zW ?_)
  refine endR rfl ?_
  repeat' (first|exact trivial|exact rfl|refine ⟨rfl,?_⟩|refine And.intro ?_ ?_)
def sigSel2:List (Nat × Spec):=[(162,od2S),(163,od3S)]
theorem sigSel2Ok:SigOk Tryz.prog (look sigSel2):=sigCons (sigCons sigNil Tryz.func163 (by kernel_rfl) (c:=body Tryz.f163) rfl od3Ok) Tryz.func162 (by kernel_rfl) (c:=body Tryz.f162) rfl od2Ok
def sel2S:Spec:=⟨true,fun args rows=>match args,rows with
 | [.sl (.pair (.int .i64) (.pair (.int .i64) (.pair (.int .i64) (.pair (.int .i64) (.pair .bool (.pair (.int .i64) (.pair (.int .i64) (.pair (.int .i64) (.pair (.int .i64) (.pair (.int .i64) (.pair (.int .i64) (.pair (.int .i64) (.pair (.int .i64) (.pair (.int .i64) (.pair (.int .i64) (.pair (.int .i64) (.pair (.int .i64) (.pair (.int .i64) .str)))))))))))))))))) l,.fn 162 [] [],.fn 163 [] []],[]=>some ⟨List.length (α:=FcT) l≤1000000,.own 0,[.seq tFc l],true⟩
 | _,_=>none⟩
theorem sel2Ok:SpecSound Tryz.prog 161 sel2S:=by
 refine soundR (envOf sigSel2Ok) Tryz.func161 (c:=body Tryz.f161) rfl (by kernel_rfl) rfl ?_
 intro args rows out hf hpre
 split at hf <;> try (cases hf;done)
 rename_i l
 cases hf
 refine ⟨Nat.le_of_ble_eq_true rfl,initI (args:=[.sl tFc l,.fn 162 [] [],.fn 163 [] []]) (rows:=[]) rfl ?_⟩
 have hlen:List.length (α:=FcT) l≤1000000:=hpre
 repeat' (first|refine zN ?_|refine zE ?_|refine zP ?_|refine pD ?_|refine zQ ?_|refine zR ?_|refine zW ?_)
 refine loopI (σ:=Nat) (fun i=>[(12,.int .i64 i),(7,.own 5000)]) (fun i=>[(5000,.seq tFc (List.take (α:=FcT) i l))]) (fun i=>i≤List.length (α:=FcT) l) (fun i=>List.length (α:=FcT) l - i) 0 rfl (fun _=>rfl) rfl ?_ ?_ ?_
 ·exact Nat.zero_le _
 ·repeat' (first|exact trivial|with_reducible exact rfl|refine And.intro ?_ ?_)
  all_goals rfl
 intro i hi
 repeat' (first|refine zN ?_|refine zE ?_|refine zP ?_|refine pD ?_|refine zQ ?_|refine zR ?_|refine zW ?_)
 refine condI rfl (fun c1=>?_) (fun c1=>?_)
 ·simp only [decide_eq_true_eq] at c1
  have hil:i < List.length (α:=FcT) l:=by omega
  have hin:((i:Int)).toNat=i:=by omega
  have hnx:=take_succ_getI (d:=tFc.dflt) hil
  have hfl:(List.take (α:=FcT) i l).length≤1000000:=by rw [List.length_take];omega
  repeat' (first|refine zN ?_|refine zE ?_|refine zP ?_|refine pD ?_|refine zQ ?_|refine zR ?_|refine zW ?_)
  refine condT rfl ?_
  repeat' (first|refine zN ?_|refine zE ?_|refine zP ?_|refine pD ?_|refine pC (by first|omega|(rw [List.length_append];simp only [lcQ,lnQ];omega)|(show (_+1) * _≤_;omega)) ?_|refine zQ ?_|refine zR ?_|refine zW ?_)
  refine roundI (i+1) rfl ?_ ?_ ?_
  ·show i+1≤List.length (α:=FcT) l
   omega
  ·show List.length (α:=FcT) l - (i+1) < List.length (α:=FcT) l - i
   omega
  ·repeat' (first|exact trivial|with_reducible exact rfl|refine And.intro ?_ ?_)
   all_goals first|rfl|(rw [hnx];rfl)
 ·simp only [decide_eq_false_iff_not] at c1
  have hie:i=List.length (α:=FcT) l:=by omega
  repeat' (first|refine zN ?_|refine zE ?_|refine zP ?_|refine pD ?_|refine zQ ?_|refine zR ?_|refine zW ?_)
  refine endR rfl ?_
  repeat' (first|exact trivial|exact rfl|refine ⟨rfl,?_⟩|refine And.intro ?_ ?_)
  all_goals (rw [hie,List.take_length])
def insS:Spec:=⟨true,fun args rows=>match args,rows with
 | [.own 0,.int .i64 0,.int .i64 n,.fn 160 [] []],[.seq (.pair (.int .i64) (.pair (.int .i64) (.pair (.int .i64) (.pair (.int .i64) (.pair .bool (.pair (.int .i64) (.pair (.int .i64) (.pair (.int .i64) (.pair (.int .i64) (.pair (.int .i64) (.pair (.int .i64) (.pair (.int .i64) (.pair (.int .i64) (.pair (.int .i64) (.pair (.int .i64) (.pair (.int .i64) (.pair (.int .i64) (.pair (.int .i64) .str)))))))))))))))))) xs]=>some ⟨0≤n∧n≤1,.tup [],[.seq tFc xs],true⟩
 | _,_=>none⟩
theorem insOk:SpecSound Tryz.prog 194 insS:=by
 refine soundR (envOf sigNil) Tryz.func194 (c:=body Tryz.f194) rfl (by kernel_rfl) rfl ?_
 intro args rows out hf hpre
 split at hf <;> try (cases hf;done)
 rename_i n xs
 cases hf
 refine ⟨Nat.le_of_ble_eq_true rfl,initI (args:=[.own 0,.int .i64 0,.int .i64 n,.fn 160 [] []]) (rows:=[.seq tFc xs]) rfl ?_⟩
 obtain ⟨h0,h1⟩:=hpre
 repeat' (first|refine zN ?_|refine zE ?_|refine zP ?_|refine pD ?_|refine zQ ?_|refine zR ?_|refine zW ?_)
 refine loopI (σ:=Unit) (fun u=>[(8,.int .i64 1)]) (fun u=>[]) (fun u=>True) (fun u=>0) () rfl (fun _=>rfl) rfl ?_ ?_ ?_
 ·trivial
 ·repeat' (first|exact trivial|exact rfl|refine ⟨rfl,?_⟩|refine And.intro ?_ ?_)
 rintro ⟨⟩ _
 repeat' (first|refine zN ?_|refine zE ?_|refine zP ?_|refine pD ?_|refine zQ ?_|refine zR ?_|refine zW ?_)
 refine condI rfl (fun c1=>?_) (fun c1=>?_)
 ·exfalso
  simp only [decide_eq_true_eq] at c1
  omega
 ·repeat' (first|refine zN ?_|refine zE ?_|refine zP ?_|refine pD ?_|refine zQ ?_|refine zR ?_|refine zW ?_)
  refine endN rfl ?_
  repeat' (first|exact trivial|with_reducible exact rfl|refine And.intro ?_ ?_)
  all_goals rfl
def sigStb:List (Nat × Spec):=[(194,insS)]
theorem sigStbOk:SigOk Tryz.prog (look sigStb):=sigCons sigNil Tryz.func194 (by kernel_rfl) (c:=body Tryz.f194) rfl insOk
def stbS:Spec:=⟨true,fun args rows=>match args,rows with
 | [.own 0,.int .i64 n,.fn 160 [] []],[.seq (.pair (.int .i64) (.pair (.int .i64) (.pair (.int .i64) (.pair (.int .i64) (.pair .bool (.pair (.int .i64) (.pair (.int .i64) (.pair (.int .i64) (.pair (.int .i64) (.pair (.int .i64) (.pair (.int .i64) (.pair (.int .i64) (.pair (.int .i64) (.pair (.int .i64) (.pair (.int .i64) (.pair (.int .i64) (.pair (.int .i64) (.pair (.int .i64) .str)))))))))))))))))) xs]=>some ⟨0≤n∧n≤1,.tup [],[.seq tFc xs],true⟩
 | _,_=>none⟩
theorem stbOk:SpecSound Tryz.prog 184 stbS:=by
 refine soundR (envOf sigStbOk) Tryz.func184 (c:=body Tryz.f184) rfl (by kernel_rfl) rfl ?_
 intro args rows out hf hpre
 split at hf <;> try (cases hf;done)
 rename_i n xs
 cases hf
 refine ⟨Nat.le_of_ble_eq_true rfl,initI (args:=[.own 0,.int .i64 n,.fn 160 [] []]) (rows:=[.seq tFc xs]) rfl ?_⟩
 obtain ⟨h0,h1⟩:=hpre
 repeat' (first|refine zN ?_|refine zE ?_|refine zP ?_|refine pD ?_|refine zQ ?_|refine zR ?_|refine zW ?_)
 refine loopI (σ:=Unit) (fun u=>[]) (fun u=>[]) (fun u=>True) (fun u=>0) () rfl (fun _=>rfl) rfl ?_ ?_ ?_
 ·trivial
 ·repeat' (first|exact trivial|exact rfl|refine ⟨rfl,?_⟩|refine And.intro ?_ ?_)
 rintro ⟨⟩ _
 repeat' (first|refine zN ?_|refine zE ?_|refine zP ?_|refine pD ?_|refine zQ ?_|refine zR ?_|refine zW ?_)
 refine condI rfl (fun c1=>?_) (fun c1=>?_)
 ·exfalso
  simp only [decide_eq_true_eq] at c1
  omega
 ·repeat' (first|refine zN ?_|refine zE ?_|refine zP ?_|refine pD ?_|refine pC (by exact ⟨h0,h1⟩) ?_|refine zQ ?_|refine zR ?_|refine zW ?_)
  refine loopI (σ:=Unit) (fun u=>[]) (fun u=>[]) (fun u=>True) (fun u=>0) () rfl (fun _=>rfl) rfl ?_ ?_ ?_
  ·trivial
  ·repeat' (first|exact trivial|exact rfl|refine ⟨rfl,?_⟩|refine And.intro ?_ ?_)
  rintro ⟨⟩ _
  repeat' (first|refine zN ?_|refine zE ?_|refine zP ?_|refine pD ?_|refine zQ ?_|refine zR ?_|refine zW ?_)
  refine condI rfl (fun c2=>?_) (fun c2=>?_)
  ·exfalso
   simp only [decide_eq_true_eq] at c2
   omega
  ·repeat' (first|refine zN ?_|refine zE ?_|refine zP ?_|refine pD ?_|refine zQ ?_|refine zR ?_|refine zW ?_)
   refine endN rfl ?_
   repeat' (first|exact trivial|with_reducible exact rfl|refine And.intro ?_ ?_)
   all_goals rfl
def sigSrt:List (Nat × Spec):=[(184,stbS)]
theorem sigSrtOk:SigOk Tryz.prog (look sigSrt):=sigCons sigNil Tryz.func184 (by kernel_rfl) (c:=body Tryz.f184) rfl stbOk
def srtS:Spec:=⟨true,fun args rows=>match args,rows with
 | [.own 0,.fn 160 [] []],[.seq (.pair (.int .i64) (.pair (.int .i64) (.pair (.int .i64) (.pair (.int .i64) (.pair .bool (.pair (.int .i64) (.pair (.int .i64) (.pair (.int .i64) (.pair (.int .i64) (.pair (.int .i64) (.pair (.int .i64) (.pair (.int .i64) (.pair (.int .i64) (.pair (.int .i64) (.pair (.int .i64) (.pair (.int .i64) (.pair (.int .i64) (.pair (.int .i64) .str)))))))))))))))))) xs]=>some ⟨List.length (α:=FcT) xs≤1,.tup [],[.seq tFc xs],true⟩
 | _,_=>none⟩
theorem srtOk:SpecSound Tryz.prog 159 srtS:=by
 refine soundR (envOf sigSrtOk) Tryz.func159 (c:=body Tryz.f159) rfl (by kernel_rfl) rfl ?_
 intro args rows out hf hpre
 split at hf <;> try (cases hf;done)
 rename_i xs
 cases hf
 refine ⟨Nat.le_of_ble_eq_true rfl,initI (args:=[.own 0,.fn 160 [] []]) (rows:=[.seq tFc xs]) rfl ?_⟩
 have h1:List.length (α:=FcT) xs≤1:=hpre
 repeat' (first|refine zN ?_|refine zE ?_|refine zP ?_|refine pD ?_|refine pC (by exact ⟨by omega,by omega⟩) ?_|refine zQ ?_|refine zR ?_|refine zW ?_)
 refine endN rfl ?_
 repeat' (first|exact trivial|with_reducible exact rfl|refine And.intro ?_ ?_)
 all_goals rfl
def seeA:List AV→List AV
 | [x,y,.fn 101 [] [.el (.int .i64) [t] 0 0]]=>[x,y,.ext (.fn1 tFc .bool (swC t))]
 | l=>l
theorem seeA_rel:∀ (g:Nat→Gh) (K R:Nat→Prop) (w:World) (args:List AV) (vals:List Value),RelL g K R w args vals→RelL g K R w (seeA args) vals:=by
 intro g K R w args vals h
 unfold seeA
 split
 ·rename_i x y t
  cases h with
  | cons h1 h2 =>
  cases h2 with
  | cons h2 h3 =>
  cases h3 with
  | cons h3 h4=>exact .cons h1 (.cons h2 (.cons (seen_at2 t _ _ _ _ _ h3) h4))
 ·exact h
def sel1K:Spec:=⟨true,fun args rows=>sel1S.f (seeA args) rows⟩
def sigOd:List (Nat × Spec):=[(157,sel1K),(159,srtS),(161,sel2S)]
theorem sigOdOk:SigOk Tryz.prog (look sigOd):=sigCons (sigCons (sigCons sigNil Tryz.func161 (by kernel_rfl) (c:=body Tryz.f161) rfl sel2Ok) Tryz.func159 (by kernel_rfl) (c:=body Tryz.f159) rfl srtOk) Tryz.func157 (by kernel_rfl) (c:=body Tryz.f157) rfl (sel1Ok.see seeA seeA_rel)
def ordS:Spec:=⟨true,fun args rows=>match args,rows with
 | [.sl (.pair (.int .i64) (.pair (.int .i64) (.pair (.int .i64) (.pair (.int .i64) (.pair .bool (.pair (.int .i64) (.pair (.int .i64) (.pair (.int .i64) (.pair (.int .i64) (.pair (.int .i64) (.pair (.int .i64) (.pair (.int .i64) (.pair (.int .i64) (.pair (.int .i64) (.pair (.int .i64) (.pair (.int .i64) (.pair (.int .i64) (.pair (.int .i64) .str)))))))))))))))))) l,.fn 101 [] [.el (.int .i64) [t] 0 0]],[]=>some ⟨List.length (α:=FcT) l≤1,.own 0,[.seq tFc (List.filter (α:=FcT) (swC t) l)],true⟩
 | _,_=>none⟩
theorem ordOk:SpecSound Tryz.prog 100 ordS:=by
 refine soundR (envOf sigOdOk) Tryz.func100 (c:=body Tryz.f100) rfl (by kernel_rfl) rfl ?_
 intro args rows out hf hpre
 split at hf <;> try (cases hf;done)
 rename_i l t
 cases hf
 refine ⟨Nat.le_of_ble_eq_true rfl,initI (args:=[.sl tFc l,.fn 101 [] [.el (.int .i64) [t] 0 0]]) (rows:=[]) rfl ?_⟩
 have h1:List.length (α:=FcT) l≤1:=hpre
 have h2:(List.filter (α:=FcT) (swC t) l).length≤1:=Nat.le_trans (List.length_filter_le _ _) h1
 repeat' (first|refine zN ?_|refine zE ?_|refine zP ?_|refine zS ?_|refine zO ?_|refine zW ?_)
 refine zR ?_
 repeat' (first|with_reducible refine pN ?_|refine pD ?_|refine pC (by first|exact h2|(show _≤1000000;omega)) ?_)
 repeat with_reducible refine cN ?_
 repeat' (first|refine zN ?_|refine zE ?_|refine zP ?_|refine zS ?_|refine zO ?_|refine zW ?_)
 refine zR ?_
 repeat' (first|with_reducible refine pN ?_|refine pD ?_|refine pC (by first|exact h2|(show _≤1000000;omega)) ?_)
 repeat with_reducible refine cN ?_
 repeat' (first|refine zN ?_|refine zE ?_|refine zP ?_|refine zS ?_|refine zO ?_|refine zW ?_)
 refine zR ?_
 repeat' (first|with_reducible refine pN ?_|refine pD ?_|refine pC (by first|exact h2|(show _≤1000000;omega)) ?_)
 repeat with_reducible refine cN ?_
 refine freezeI (key 8 0) rfl ?_
 repeat' (first|refine zN ?_|refine zE ?_|refine zP ?_|refine pD ?_|refine pC (by first|exact h2|(show _≤1000000;omega)) ?_|refine zQ ?_|refine zR ?_|refine zW ?_)
 refine endR rfl ?_
 repeat' (first|exact trivial|exact rfl|refine ⟨rfl,?_⟩|refine And.intro ?_ ?_)
end Go.AM.YtbepaplaahcnkaaGreat.Gn
end

section
namespace Go.AM.YtbepaplaahcnkaaGreat.Gn
open Go.Proofs Go.AM.YtbepaplaahcnkaaGreat.Fc Go.AM.YtbepaplaahcnkaaGreat.Bs
set_option maxRecDepth 100000
set_option maxHeartbeats 8000000
def ofF (m:List (Int × Int)) (n:Int):Int:=(mapFind tI tI n m).getD n
def ofS:Spec:=⟨true,fun args rows=>match args,rows with
 | [.own 0,.int .i64 n],[.map (.int .i64) (.int .i64) m]=>some ⟨True,.int .i64 (ofF m n),[.map tI tI m],true⟩
 | _,_=>none⟩
theorem ofMOk:SpecSound Tryz.prog 38 ofS:=by
 refine soundR (envOf sigNil) Tryz.func38 (c:=body Tryz.f38) rfl (by kernel_rfl) rfl ?_
 intro args rows out hf hpre
 split at hf <;> try (cases hf;done)
 rename_i n m
 cases hf
 refine ⟨Nat.le_of_ble_eq_true rfl,initI (args:=[.own 0,.int .i64 n]) (rows:=[.map tI tI m]) rfl ?_⟩
 repeat' (first|refine zN ?_|refine zE ?_|refine zP ?_|refine pD ?_|refine zQ ?_|refine zR ?_|refine zW ?_)
 refine condI rfl (fun c=>?_) (fun c=>?_)
 ·have c:(mapFind tI tI n m).isSome=true:=c
  obtain ⟨y,hy⟩:=Option.isSome_iff_exists.1 c
  repeat' (first|refine zN ?_|refine zE ?_|refine zP ?_|refine pD ?_|refine zQ ?_|refine zR ?_|refine zW ?_)
  refine endR rfl ?_
  repeat' (first|exact trivial|exact rfl|refine ⟨rfl,?_⟩|refine And.intro ?_ ?_)
  all_goals first|rfl|(unfold ofF;rw [hy];rfl)|skip
 ·have c:(mapFind tI tI n m).isSome=false:=c
  repeat' (first|refine zN ?_|refine zE ?_|refine zP ?_|refine pD ?_|refine zQ ?_|refine zR ?_|refine zW ?_)
  refine endR rfl ?_
  repeat' (first|exact trivial|exact rfl|refine ⟨rfl,?_⟩|refine And.intro ?_ ?_)
  all_goals first|rfl|(unfold ofF;cases hy:mapFind tI tI n m;rfl;rw [hy] at c;cases c)|skip
def sigA1:List (Nat × Spec):=[(38,ofS)]
theorem sigA1Ok:SigOk Tryz.prog (look sigA1):=sigCons sigNil Tryz.func38 (by kernel_rfl) (c:=body Tryz.f38) rfl ofMOk
def swM (a7 a8:Int):List (Int × Int):=mapSet tI tI a8 a7 [(a7,a8)]
def at1S:Spec:=⟨true,fun args rows=>match args,rows with
 | [.agg [.int .i64 a0,.int .i64 a1,.int .i64 a2,.int .i64 a3,.bool a4,.int .i64 a5,.int .i64 a6,.int .i64 a7,.int .i64 a8,.int .i64 a9,.int .i64 a10,.int .i64 a11,.int .i64 a12,.int .i64 a13,.int .i64 a14,.int .i64 a15,.int .i64 a16,.int .i64 a17,.str a18],.ptr 0 0],[.box [.own 1],.map (.int .i64) (.int .i64) []]=>some ⟨True,.tup [],[.box [.own 1],.map tI tI (swM a7 a8)],true⟩
 | _,_=>none⟩
theorem at1Ok:SpecSound Tryz.prog 99 at1S:=by
 refine soundR (envOf sigA1Ok) Tryz.func99 (c:=body Tryz.f99) rfl (by kernel_rfl) rfl ?_
 intro args rows out hf hpre
 split at hf <;> try (cases hf;done)
 rename_i a0 a1 a2 a3 a4 a5 a6 a7 a8 a9 a10 a11 a12 a13 a14 a15 a16 a17 a18
 cases hf
 refine ⟨Nat.le_of_ble_eq_true rfl,initI (args:=[.agg (fA a0 a1 a2 a3 a4 a5 a6 a7 a8 a9 a10 a11 a12 a13 a14 a15 a16 a17 a18),.ptr 0 0]) (rows:=[.box [.own 1],.map tI tI []]) rfl ?_⟩
 repeat' (first|refine zN ?_|refine zE ?_|refine zP ?_|refine pD ?_|refine zQ ?_|refine zR ?_|refine zW ?_)
 refine endN rfl ?_
 repeat' (first|exact trivial|with_reducible exact rfl|refine And.intro ?_ ?_)
 all_goals rfl
def sigAt:List (Nat × Spec):=[(100,ordS),(99,at1S)]
theorem sigAtOk:SigOk Tryz.prog (look sigAt):=sigCons (sigCons sigNil Tryz.func99 (by kernel_rfl) (c:=body Tryz.f99) rfl at1Ok) Tryz.func100 (by kernel_rfl) (c:=body Tryz.f100) rfl ordOk
def atM (l:List FcT):List (Int × Int):=match l with
 | []=>[]
 | x::_=>swM x.2.2.2.2.2.2.2.1 x.2.2.2.2.2.2.2.2.1
def atT (F:List FcT):Nat→List (Int × Int)
 | 0=>[]
 | _+1=>atM F
def slOf:AV→Option (List FcT)
 | .sl t xs=>match Ty.same t tFc with
   | some ⟨h⟩=>castK h xs fun xs=>some xs
   | none=>none
 | _=>none
theorem slOf_spec {v:AV} {l:List FcT} (h:slOf v=some l):v=.sl tFc l:=by
 unfold slOf at h
 split at h
 ·rename_i t xs
  split at h
  ·rename_i h1 _
   subst h1
   cases h
   rfl
  ·cases h
 ·cases h
def allSl:List AV→Option (List (List FcT))
 | []=>some []
 | v::r=>match slOf v with
   | some l=>match allSl r with
     | some ls=>some (l::ls)
     | none=>none
   | none=>none
theorem allSl_spec:∀ {cs:List AV} {ls:List (List FcT)},allSl cs=some ls→cs=ls.map fun l=>.sl tFc l
 | [],ls,h=>by cases h;rfl
 | v::r,ls,h=>by
   unfold allSl at h
   split at h
   ·rename_i l h1
    split at h
    ·rename_i ls' h2
     cases h
     rw [slOf_spec h1,allSl_spec h2]
     rfl
    ·cases h
   ·cases h
def atS:Spec:=⟨true,fun args rows=>match args,rows with
 | [.agg cs,.int .i64 t],[]=>match allSl cs with
   | some [l1,l2,l3,l4,l5,l6,l7,l8,l9,l10,l11]=>some ⟨List.length (α:=FcT) l3≤1,.own 0,[.map tI tI (atM (List.filter (α:=FcT) (swC t) l3))],true⟩
   | _=>none
 | _,_=>none⟩
theorem atOk:SpecSound Tryz.prog 37 atS:=by
 refine soundR (envOf sigAtOk) Tryz.func37 (c:=body Tryz.f37) rfl (by kernel_rfl) rfl ?_
 intro args rows out hf hpre
 unfold atS at hf
 split at hf <;> try (cases hf;done)
 split at hf <;> try (cases hf;done)
 rename_i cs t _ l1 l2 l3 l4 l5 l6 l7 l8 l9 l10 l11 hc
 cases hf
 obtain rfl:=allSl_spec hc
 refine ⟨Nat.le_of_ble_eq_true rfl,initI (args:=[.agg [.sl tFc l1,.sl tFc l2,.sl tFc l3,.sl tFc l4,.sl tFc l5,.sl tFc l6,.sl tFc l7,.sl tFc l8,.sl tFc l9,.sl tFc l10,.sl tFc l11],.int .i64 t]) (rows:=[]) rfl ?_⟩
 have h1:List.length (α:=FcT) l3≤1:=hpre
 clear hc
 obtain ⟨F,hF⟩:∃ F,F=List.filter (α:=FcT) (swC t) l3:=⟨_,rfl⟩
 have h2:F.length≤1:=by rw [hF];exact Nat.le_trans (List.length_filter_le _ _) h1
 rw [← hF]
 repeat' (first|refine zN ?_|refine zE ?_|refine zP ?_|refine zS ?_|refine zO ?_|refine zW ?_)
 refine zR ?_
 repeat' (first|with_reducible refine pN ?_|refine pD ?_|fail)
 repeat with_reducible refine cN ?_
 repeat' (first|refine zN ?_|refine zE ?_|refine zP ?_|refine zS ?_|refine zO ?_|refine zW ?_)
 refine zR ?_
 repeat' (first|with_reducible refine pN ?_|refine pD ?_|fail)
 repeat with_reducible refine cN ?_
 repeat' (first|refine zN ?_|refine zE ?_|refine zP ?_|refine zS ?_|refine zO ?_|refine zW ?_)
 refine zR ?_
 repeat' (first|with_reducible refine pN ?_|refine pD ?_|fail)
 repeat with_reducible refine cN ?_
 refine freezeBoxI 3 tI rfl ?_
 repeat' (first|refine zN ?_|refine zE ?_|refine zP ?_|refine zS ?_|refine zO ?_|refine zW ?_)
 refine zR ?_
 repeat' (first|with_reducible refine pN ?_|refine pD ?_|refine pC (by exact h1) ?_)
 repeat with_reducible refine cN ?_
 rw [← hF]
 repeat' (first|refine zN ?_|refine zE ?_|refine zP ?_|refine pD ?_|refine zQ ?_|refine zR ?_|refine zW ?_)
 refine loopI (σ:=Nat) (fun i=>[(16,.int .i64 i)]) (fun i=>[(9,.map tI tI (atT F i))]) (fun i=>i≤F.length) (fun i=>F.length - i) 0 rfl (fun _=>rfl) rfl ?_ ?_ ?_
 ·exact Nat.zero_le _
 ·repeat' (first|exact trivial|with_reducible exact rfl|refine And.intro ?_ ?_)
  all_goals rfl
 intro i hi
 repeat' (first|refine zN ?_|refine zE ?_|refine zP ?_|refine pD ?_|refine zQ ?_|refine zR ?_|refine zW ?_)
 refine condI rfl (fun c=>?_) (fun c=>?_)
 ·simp only [decide_eq_true_eq] at c
  obtain rfl:i=0:=by omega
  obtain ⟨x,hx⟩:∃ x,F=[x]:=by
   match F,h2,c with
   | [x],_,_=>exact ⟨x,rfl⟩
   | [],_,c=>exact absurd c (by simp)
   | _::_::_,h2,_=>exact absurd h2 (by simp)
  subst hx
  repeat' (first|refine zN ?_|refine zE ?_|refine zP ?_|refine pD ?_|refine zQ ?_|refine zR ?_|refine zW ?_)
  refine roundI 1 rfl ?_ ?_ ?_
  ·exact Nat.le_refl _
  ·exact Nat.zero_lt_one
  ·repeat' (first|exact trivial|with_reducible exact rfl|refine And.intro ?_ ?_)
   all_goals rfl
 ·simp only [decide_eq_false_iff_not] at c
  have hie:i=F.length:=by omega
  have hM:atT F i=atM F:=by
   rw [hie]
   cases F with
   | nil=>rfl
   | cons x r=>rfl
  rw [hM]
  repeat' (first|refine zN ?_|refine zE ?_|refine zP ?_|refine pD ?_|refine zQ ?_|refine zR ?_|refine zW ?_)
  refine endR rfl ?_
  repeat' (first|exact trivial|exact rfl|refine ⟨rfl,?_⟩|refine And.intro ?_ ?_)
def sigWho:List (Nat × Spec):=[(36,isIdS),(37,atS),(38,ofS)]
theorem sigWhoOk:SigOk Tryz.prog (look sigWho):=sigCons (sigCons (sigCons sigNil Tryz.func38 (by kernel_rfl) (c:=body Tryz.f38) rfl ofMOk) Tryz.func37 (by kernel_rfl) (c:=body Tryz.f37) rfl atOk) Tryz.func36 (by kernel_rfl) (c:=body Tryz.f36) rfl isIdOk
def whoF (sw:List FcT) (n t:Int):Int:=bif isIdF n then ofF (atM (List.filter (α:=FcT) (swC t) sw)) n else 0
def whoS:Spec:=plain fun
 | [.agg cs,.int .i64 n,.int .i64 t]=>match allSl cs with
   | some [l1,l2,l3,l4,l5,l6,l7,l8,l9,l10,l11]=>outV (List.length (α:=FcT) l3≤1) (.int .i64 (whoF l3 n t))
   | _=>none
 | _=>none
theorem whoOk:SpecSound Tryz.prog 18 whoS:=by
 refine soundP (envOf sigWhoOk) Tryz.func18 (c:=body Tryz.f18) rfl (by kernel_rfl) rfl ?_
 intro args out hf hpre
 split at hf <;> try (cases hf;done)
 split at hf <;> try (cases hf;done)
 rename_i cs n t _ l1 l2 l3 l4 l5 l6 l7 l8 l9 l10 l11 hc
 cases hf
 obtain rfl:=allSl_spec hc
 refine ⟨Nat.le_of_ble_eq_true rfl,initI (args:=[.agg [.sl tFc l1,.sl tFc l2,.sl tFc l3,.sl tFc l4,.sl tFc l5,.sl tFc l6,.sl tFc l7,.sl tFc l8,.sl tFc l9,.sl tFc l10,.sl tFc l11],.int .i64 n,.int .i64 t]) rfl ?_⟩
 have h1:List.length (α:=FcT) l3≤1:=hpre
 clear hc
 repeat' (first|refine zN ?_|refine zE ?_|refine zP ?_|refine pD ?_|refine zQ ?_|refine zR ?_|refine zW ?_)
 refine condI rfl (fun c=>?_) (fun c=>?_)
 ·have c:isIdF n=false:=by have c:(!isIdF n)=true:=c;simpa using c
  repeat' (first|refine zN ?_|refine zE ?_|refine zP ?_|refine pD ?_|refine zQ ?_|refine zR ?_|refine zW ?_)
  refine endR rfl ?_
  repeat' (first|exact trivial|exact rfl|refine ⟨rfl,?_⟩|refine And.intro ?_ ?_)
  all_goals (unfold whoF;rw [c];rfl)
 ·have c:isIdF n=true:=by have c:(!isIdF n)=false:=c;simpa using c
  repeat' (first|refine zN ?_|refine zE ?_|refine zP ?_|refine pD ?_|refine pC (by exact h1) ?_|refine zQ ?_|refine zR ?_|refine zW ?_)
  refine endR rfl ?_
  repeat' (first|exact trivial|exact rfl|refine ⟨rfl,?_⟩|refine And.intro ?_ ?_)
  all_goals (unfold whoF;rw [c];rfl)
end Go.AM.YtbepaplaahcnkaaGreat.Gn
end
