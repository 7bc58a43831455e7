/- Chapter 10's scenarios. -/
import Derived.Test.YtmohhhbgcehnpaaGreatPw31
import Derived.Test.YtmohhhbgcehnpaaGreatReWK
set_option linter.all false
namespace Go.AM.YtmohhhbgcehnpaaGreat.Re
open Go.Proofs
set_option maxRecDepth 100000
set_option maxHeartbeats 4000000
abbrev Int6:=Int × Int × Int × Int × Int × Int
def shr (x:Int) (i:Nat):Int:=x.fdiv (2 ^ (min ((i:Int)).toNat (IntKind.bits .i64)))
def duAt (xs:List StT) (x0:Int) (i:Nat):Int:=sMin (getI xs tStage.dflt i)+pickF (shr x0 i) (sMax (getI xs tStage.dflt i) - sMin (getI xs tStage.dflt i)+1)
def duL (xs:List StT) (x0:Int):List Int:=(List.range xs.length).map (duAt xs x0)
def moAt (a b x1:Int) (i:Nat):Int:=a+pickF (shr x1 i) (b - a+1)
def moL (a b x1:Int) (n:Nat):List Int:=(List.range n).map (moAt a b x1)
def scG (xs:List StT) (x3:Int):StT:=getI xs tStage.dflt (pickF (x3.tdiv 5) (xs.length:Int)).toNat
def scOn (xs:List StT) (x3:Int):Bool:=decide (pickF x3 5 > 0)&&decide ((xs.length:Int) > 0)
def scT (xs:List StT) (x3 x4:Int):Int:=bif scOn xs x3 then (bif decide (pickF x4 4=0) then sTl (scG xs x3) else mTl (scG xs x3)) else -1
def scF (xs:List StT) (x3 x5:Int):Int:=bif scOn xs x3 then min (max 0 (mSt (scG xs x3)+pickF x5 80 - 40)) 1000000 else 0
def scenS:Spec:=⟨true,fun args rows=>match args,rows with
 | [.agg [.int .i64 e,.int .i64 a,.int .i64 b,.sl (.pair (.int .i64) (.pair (.int .i64) (.pair (.pair (.int .i64) (.int .i64)) (.pair (.int .i64) (.int .i64))))) xs,.sl (.pair (.int .i64) (.pair (.int .i64) (.int .i64))) ws],.agg [.int .i64 x0,.int .i64 x1,.int .i64 x2,.int .i64 x3,.int .i64 x4,.int .i64 x5]],[] =>
   some ⟨Pl.validF e a b xs ws=true,.agg [.sl tInt (duL xs x0),.sl tInt (moL a b x1 xs.length),.int .i64 (a+pickF x2 (b - a+1)),.int .i64 (scT xs x3 x4),.int .i64 (scF xs x3 x5)],[],true⟩
 | _,_=>none⟩
theorem getI_map' {α β:Type} {f:α→β} {d:α} {d':β} {l:List α} {i:Nat} (h:i < l.length):getI (l.map f) d' i=f (getI l d i):=by
 unfold getI
 rw [List.getD_eq_getElem?_getD,List.getD_eq_getElem?_getD,List.getElem?_map,List.getElem?_eq_getElem h]
 rfl
def sigPkL:List (Nat × Spec):=[(17,pickP)]
theorem sigPkLOk:SigOk Tryz.prog (look sigPkL):=sigCons sigNil Tryz.func17 (by kernel_rfl) (c:=body Tryz.f17) rfl pickLOk
theorem scenOk:SpecSound Tryz.prog 20 scenS:=by
 refine soundR (envOf sigPkLOk) Tryz.func20 (c:=body Tryz.f20) rfl (by kernel_rfl) rfl ?_
 intro args rows out hf hpre
 split at hf <;> try (cases hf;done)
 rename_i e a b xs ws x0 x1 x2 x3 x4 x5
 cases hf
 refine ⟨Nat.le_of_ble_eq_true rfl,initI (args:=[.agg [.int .i64 e,.int .i64 a,.int .i64 b,.sl tStage xs,.sl tWin ws],.agg [.int .i64 x0,.int .i64 x1,.int .i64 x2,.int .i64 x3,.int .i64 x4,.int .i64 x5]]) (rows:=[]) rfl ?_⟩
 have F:=Pl.valid_facts hpre
 have hab:=F.ab
 have hn:=F.n
 have bp:=fun (c n:Int) (h:0 < n)=>pick_b (c:=c) (n:=n) h
 repeat' (first|refine zN ?_|refine zE ?_|refine zP ?_|refine pD ?_|refine zS ?_|refine zR ?_|refine zO ?_|refine zB ?_|refine zX ?_|refine zT ?_|refine skipI rfl ?_)
 refine loopI (σ:=Nat) (fun i=>[(6,.int .i64 i)]) (fun i=>[(5,.box [.own 3000,.own 3001,.int .i64 0,.int .i64 (-1),.int .i64 0]),(3000,.seq tInt ((List.range i).map (duAt xs x0))),(3001,.seq tInt ((List.range i).map (moAt a b x1)))]) (fun i=>i≤xs.length) (fun i=>xs.length - i) 0 rfl (fun _=>rfl) rfl ?_ ?_ ?_
 ·exact Nat.zero_le _
 ·repeat' (first|exact trivial|with_reducible exact rfl|refine And.intro ?_ ?_)
  all_goals rfl
 intro i hi
 repeat' (first|refine zN ?_|refine zE ?_|refine zP ?_|refine pD ?_|refine zS ?_|refine zR ?_|refine zO ?_|refine zB ?_|refine zX ?_|refine zT ?_|refine skipI rfl ?_)
 refine condI rfl (fun c1=>?_) (fun c1=>?_)
 ·simp only [decide_eq_true_eq] at c1
  have hil:i < xs.length:=by omega
  have hin:((i:Int)).toNat=i:=by omega
  have hS:=F.st i hil
  unfold Pl.StOk at hS
  obtain ⟨y,hy⟩:∃ y:StT,y=getI xs tStage.dflt i:=⟨_,rfl⟩
  have hy':getI xs tStage.dflt ((i:Int)).toNat=y:=by rw [hin];exact hy.symm
  have m0:1≤y.1:=by rw [hy];exact hS.1.1
  have m1:y.1≤y.2.1:=by rw [hy];exact hS.1.2.1
  have m2:y.2.1≤10000:=by rw [hy];exact hS.1.2.2
  have p1:=bp (shr x0 i) (y.2.1 - y.1+1) (by omega)
  have p2:=bp (shr x1 i) (b - a+1) (by omega)
  have hl1:((List.range i).map (duAt xs x0)).length=i:=by rw [List.length_map,List.length_range]
  have hl2:((List.range i).map (moAt a b x1)).length=i:=by rw [List.length_map,List.length_range]
  repeat' (first|refine zN ?_|refine zE ?_|refine zP ?_|refine zS ?_|refine zO ?_|refine zB ?_|refine zX ?_|refine zT ?_|refine skipI rfl ?_)
  refine zR ?_
  repeat' (first|with_reducible refine pN ?_|refine pD ?_|refine pC (by first|(simp only [hin];omega)|(simp only [hy'];unfold In64;omega)|(simp only [hy'];omega)|(simp only [hl1,List.length_cons,List.length_nil];omega)|(simp only [hy'];show In64 (y.1+pickF (shr x0 i) (y.2.1 - y.1+1));unfold In64;omega)) ?_)
  repeat with_reducible refine cN ?_
  repeat' (first|refine zN ?_|refine zE ?_|refine zP ?_|refine pD ?_|refine pC (by first|(unfold In64;omega)|omega|(simp only [hl2,List.length_cons,List.length_nil];omega)|(show In64 (a+pickF (shr x1 i) (b - a+1));unfold In64;omega)) ?_|refine zS ?_|refine zR ?_|refine zO ?_|refine zB ?_|refine zX ?_|refine zT ?_|refine skipI rfl ?_)
  refine roundI (i+1) rfl ?_ ?_ ?_
  ·show i+1≤xs.length
   omega
  ·show xs.length - (i+1) < xs.length - i
   omega
  ·repeat' (first|exact trivial|with_reducible exact rfl|refine And.intro ?_ ?_)
   all_goals (first|rfl|(rw [List.range_succ,List.map_append,List.map_cons];simp only [hin];rfl)|(rw [List.range_succ,List.map_append,List.map_cons];rfl))
 ·simp only [decide_eq_false_iff_not] at c1
  rw [show i=xs.length by omega]
  refine freezeI 3000 rfl ?_
  refine freezeI 3001 rfl ?_
  have p3:=bp x2 (b - a+1) (by omega)
  obtain ⟨T,hT⟩:∃ T,T=scT xs x3 x4:=⟨_,rfl⟩
  obtain ⟨A,hA⟩:∃ A,A=scF xs x3 x5:=⟨_,rfl⟩
  rw [← hT,← hA]
  unfold scT at hT
  unfold scF at hA
  repeat' (first|refine zN ?_|refine zE ?_|refine zP ?_|refine pD ?_|refine pC (by first|(unfold In64;omega)|omega) ?_|refine zS ?_|refine zR ?_|refine zO ?_|refine zB ?_|refine zX ?_|refine zT ?_|refine skipI rfl ?_)
  refine condI rfl (fun c2=>?_) (fun c2=>?_)
  ·have c2':scOn xs x3=true:=c2
   rw [c2',cond_true] at hT hA
   have p4:=bp (x3.tdiv 5) (xs.length:Int) (by omega)
   obtain ⟨g,hg⟩:∃ g:StT,g=scG xs x3:=⟨_,rfl⟩
   have hgi:getI xs tStage.dflt (pickF (x3.tdiv 5) (xs.length:Int)).toNat=g:=by rw [hg];rfl
   rw [← hg] at hT hA
   have hgS:=F.st (pickF (x3.tdiv 5) (xs.length:Int)).toNat (by omega)
   unfold Pl.StOk at hgS
   have g0:0≤g.2.2.1.2:=by rw [← hgi];exact hgS.2.1.2.2.1
   have g1:g.2.2.1.2≤1000000:=by rw [← hgi];exact Int.le_trans hgS.2.1.2.2.2 (by have:=hgS.1.1;have:=hgS.1.2.1;omega)
   have p5:=bp x5 80 (by omega)
   repeat' (first|refine zN ?_|refine zE ?_|refine zP ?_|refine zS ?_|refine zO ?_|refine zB ?_|refine zX ?_|refine zT ?_|refine skipI rfl ?_)
   refine zR ?_
   repeat' (first|with_reducible refine pN ?_|refine pD ?_|refine pC (by omega) ?_)
   repeat with_reducible refine cN ?_
   simp only [hgi]
   repeat' (first|refine zN ?_|refine zE ?_|refine zP ?_|refine zS ?_|refine zO ?_|refine zB ?_|refine zX ?_|refine zT ?_|refine skipI rfl ?_)
   refine zR ?_
   repeat' (first|with_reducible refine pN ?_|refine pD ?_|refine pC (by omega) ?_)
   repeat with_reducible refine cN ?_
   repeat' (first|refine zN ?_|refine zE ?_|refine zP ?_|refine zS ?_|refine zO ?_|refine zB ?_|refine zX ?_|refine zT ?_|refine skipI rfl ?_)
   refine zR ?_
   repeat' (first|with_reducible refine pN ?_|refine pD ?_|refine pC (by omega) ?_)
   repeat with_reducible refine cN ?_
   refine condI rfl (fun c3=>?_) (fun c3=>?_)
   ·rw [show decide (pickF x4 4=0)=true from c3] at hT
    repeat' (first|refine zN ?_|refine zE ?_|refine zP ?_|refine pD ?_|refine pC (by (unfold In64;omega)) ?_|refine zS ?_|refine zR ?_|refine zO ?_|refine zB ?_|refine zX ?_|refine zT ?_|refine skipI rfl ?_)
    refine endR rfl ?_
    repeat' (first|exact trivial|exact rfl|refine ⟨rfl,?_⟩|refine And.intro ?_ ?_)
    ·exact hT
    ·exact hA
   ·rw [show decide (pickF x4 4=0)=false from c3] at hT
    repeat' (first|refine zN ?_|refine zE ?_|refine zP ?_|refine pD ?_|refine pC (by (unfold In64;omega)) ?_|refine zS ?_|refine zR ?_|refine zO ?_|refine zB ?_|refine zX ?_|refine zT ?_|refine skipI rfl ?_)
    refine endR rfl ?_
    repeat' (first|exact trivial|exact rfl|refine ⟨rfl,?_⟩|refine And.intro ?_ ?_)
    ·exact hT
    ·exact hA
  ·have c2':scOn xs x3=false:=c2
   rw [c2',cond_false] at hT hA
   repeat' (first|refine zN ?_|refine zE ?_|refine zP ?_|refine pD ?_|refine zS ?_|refine zR ?_|refine zO ?_|refine zB ?_|refine zX ?_|refine zT ?_|refine skipI rfl ?_)
   refine endR rfl ?_
   repeat' (first|exact trivial|exact rfl|refine ⟨rfl,?_⟩|refine And.intro ?_ ?_)
   ·exact hT
   ·exact hA
theorem scen_poss {e a b:Int} {xs:List tStage.El} {ws:List tWin.El} (h:Pl.validF e a b xs ws=true) (x0 x1 x2 x3 x4 x5:Int):Pl.possF e a b xs ws (duL xs x0) (moL a b x1 xs.length) (a+pickF x2 (b - a+1)) (scT xs x3 x4) (scF xs x3 x5)=true:=by
 have F:=Pl.valid_facts h
 have hab:=F.ab
 have hn:=F.n
 have p3:=pick_b (c:=x2) (n:=b - a+1) (by omega)
 unfold Pl.possF
 simp only [Bool.and_eq_true,Bool.or_eq_true,Pl.within_iff,decide_eq_true_eq,List.all_eq_true]
 refine ⟨⟨⟨⟨⟨h,by unfold duL;simp⟩,by unfold moL;simp⟩,by omega,by omega⟩,fun i hi=>?_⟩,?_⟩
 ·have hil:i < xs.length:=by simpa using hi
  have hS:=F.st i hil
  unfold Pl.StOk at hS
  have e1:getI (duL xs x0) 0 i=duAt xs x0 i:=by
   unfold duL
   rw [getI_map' (d:=0) (by simpa using hil)]
   simp [getI,List.getD,hil]
  have e2:getI (moL a b x1 xs.length) 0 i=moAt a b x1 i:=by
   unfold moL
   rw [getI_map' (d:=0) (by simpa using hil)]
   simp [getI,List.getD,hil]
  unfold Pl.fitsAt
  rw [e1,e2,Bool.and_eq_true,Pl.within_iff,Pl.within_iff]
  have m1:sMin (getI xs tStage.dflt i)≤sMax (getI xs tStage.dflt i):=hS.1.2.1
  have p1:=pick_b (c:=shr x0 i) (n:=sMax (getI xs tStage.dflt i) - sMin (getI xs tStage.dflt i)+1) (by omega)
  have p2:=pick_b (c:=shr x1 i) (n:=b - a+1) (by omega)
  refine ⟨⟨?_,?_⟩,?_,?_⟩
  ·show sMin (getI xs tStage.dflt i)≤duAt xs x0 i
   unfold duAt
   omega
  ·show duAt xs x0 i≤sMax (getI xs tStage.dflt i)
   unfold duAt
   omega
  ·unfold moAt;omega
  ·unfold moAt;omega
 ·unfold scT scF
  cases hon:scOn xs x3 with
  | false=>exact .inl ⟨rfl,rfl⟩
  | true =>
    right
    rw [cond_true,cond_true]
    have p4:=pick_b (c:=x3.tdiv 5) (n:=(xs.length:Int)) (by omega)
    have hgS:=F.st (pickF (x3.tdiv 5) (xs.length:Int)).toNat (by omega)
    unfold Pl.StOk at hgS
    refine ⟨?_,by omega,by omega⟩
    cases decide (pickF x4 4=0)
    ·exact ⟨hgS.2.1.1,hgS.2.1.2.1⟩
    ·exact ⟨hgS.2.2.1.1,hgS.2.2.1.2.1⟩
end Go.AM.YtmohhhbgcehnpaaGreat.Re
