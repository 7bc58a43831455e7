/- ReB, ReC, ReD. -/
import Derived.Test.YtbepaplaahcnkaaGreatPc21
import Derived.Test.YtbepaplaahcnkaaGreatPc19

set_option linter.all false
section
namespace Go.AM.YtbepaplaahcnkaaGreat.Re
open Go.Proofs
set_option maxRecDepth 100000
set_option maxHeartbeats 4000000
def mul64S:Spec:=plain fun
 | [.int .u64 x,.int .u64 y]=>outV (x=1∧0≤y∧y≤8) (.tup [.int .u64 0,.int .u64 y])
 | _=>none
theorem mul64Ok:SpecSound Tryz.prog 193 mul64S:=by
 refine soundP (envOf sigNil) Tryz.func193 (c:=body Tryz.f193) rfl (by kernel_rfl) rfl ?_
 intro args out hf hpre
 split at hf <;> try (cases hf;done)
 rename_i x y
 cases hf
 refine ⟨Nat.le_of_ble_eq_true rfl,initI (args:=[.int .u64 x,.int .u64 y]) rfl ?_⟩
 obtain ⟨rfl,h0,h8⟩:=hpre
 have hy:y=0∨y=1∨y=2∨y=3∨y=4∨y=5∨y=6∨y=7∨y=8:=by omega
 rcases hy with rfl|rfl|rfl|rfl|rfl|rfl|rfl|rfl|rfl
 all_goals
  repeat' (first|refine zN ?_|refine zE ?_|refine zP ?_|refine pD ?_|refine pC (by decide) ?_|refine zQ ?_|refine zR ?_|refine zW ?_)
  refine endR rfl ?_
  repeat' (first|exact trivial|decide|refine And.intro ?_ ?_)
def sigMul64:List (Nat × Spec):=[(193,mul64S)]
theorem sigMul64Ok:SigOk Tryz.prog (look sigMul64):=sigCons sigNil Tryz.func193 (by kernel_rfl) (c:=body Tryz.f193) rfl mul64Ok
theorem mulOk:SpecSound Tryz.prog 183 mul64S:=by
 refine soundP (envOf sigMul64Ok) Tryz.func183 (c:=body Tryz.f183) rfl (by kernel_rfl) rfl ?_
 intro args out hf hpre
 split at hf <;> try (cases hf;done)
 rename_i x y
 cases hf
 refine ⟨Nat.le_of_ble_eq_true rfl,initI (args:=[.int .u64 x,.int .u64 y]) rfl ?_⟩
 repeat' (first|refine zN ?_|refine zE ?_|refine zP ?_|refine pD ?_|refine zQ ?_|refine zR ?_|refine zW ?_)
 refine condF rfl ?_
 repeat' (first|refine zN ?_|refine zE ?_|refine zP ?_|refine pD ?_|refine pC (by exact hpre) ?_|refine zQ ?_|refine zR ?_|refine zW ?_)
 refine endR rfl ?_
 repeat' (first|exact trivial|exact rfl|refine ⟨rfl,?_⟩|refine And.intro ?_ ?_)
def sigMul:List (Nat × Spec):=[(183,mul64S)]
theorem sigMulOk:SigOk Tryz.prog (look sigMul):=sigCons sigNil Tryz.func183 (by kernel_rfl) (c:=body Tryz.f183) rfl mulOk
def repS:Spec:=plain fun
 | [.sl (.int .i64) [b],.int .i64 n]=>some ⟨1≤n∧n≤8,.own 0,[.seq tInt (List.replicate n.toNat b)],false⟩
 | _=>none
theorem rep_step {b:Int} {N k m:Nat} (hk:k≤N) (hm:m=min k (N - k)) :
 (List.replicate k b++List.replicate (N - k) (0:Int)).take k++(List.replicate k b++List.replicate (N - k) (0:Int)).take m++(List.replicate k b++List.replicate (N - k) (0:Int)).drop (k+m)=List.replicate (k+m) b++List.replicate (N - (k+m)) 0:=by
 have h1:(List.replicate k b++List.replicate (N - k) (0:Int)).take k=List.replicate k b:=by rw [List.take_append_of_le_length (by simp)];simp
 have h2:(List.replicate k b++List.replicate (N - k) (0:Int)).take m=List.replicate m b:=by
  rw [List.take_append_of_le_length (by simp;omega),List.take_replicate]
  congr 1
  omega
 have h3:(List.replicate k b++List.replicate (N - k) (0:Int)).drop (k+m)=List.replicate (N - (k+m)) 0:=by
  rw [List.drop_append,List.drop_eq_nil_of_le (by simp),List.nil_append,List.length_replicate,List.drop_replicate]
  congr 1
  omega
 rw [h1,h2,h3,List.replicate_append_replicate]
theorem repOk:SpecSound Tryz.prog 155 repS:=by
 refine soundP (envOf sigMulOk) Tryz.func155 (c:=body Tryz.f155) rfl (by kernel_rfl) rfl ?_
 intro args out hf hpre
 split at hf <;> try (cases hf;done)
 rename_i b n
 cases hf
 refine ⟨Nat.le_of_ble_eq_true rfl,initI (args:=[.sl tInt [b],.int .i64 n]) rfl ?_⟩
 obtain ⟨h0,h8⟩:=hpre
 obtain ⟨N,hN⟩:∃ N:Nat,n=N:=⟨n.toNat,by omega⟩
 subst hN
 have hw:IntKind.wrap .u64 (N:Int)=N:=by simp [IntKind.wrap,IntKind.signed,IntKind.bits];omega
 have hw2:IntKind.wrap .i64 (N:Int)=N:=by simp [IntKind.wrap,IntKind.signed,IntKind.bits];omega
 have hNn:((N:Nat):Int).toNat=N:=by omega
 repeat' (first|refine zN ?_|refine zE ?_|refine zP ?_|refine pD ?_|refine zQ ?_|refine zR ?_|refine zW ?_)
 refine condI rfl (fun c1=>?_) (fun c1=>?_)
 ·simp only [decide_eq_true_eq] at c1
  omega
 repeat' (first|refine zN ?_|refine zE ?_|refine zP ?_|refine pD ?_|refine pC (by (show IntKind.wrap .u64 1=1∧_;refine ⟨by decide,?_⟩;rw [hw];omega)) ?_|refine zQ ?_|refine zR ?_|refine zW ?_)
 refine condI rfl (fun c2=>?_) (fun c2=>?_)
 ·rw [hw] at c2
  simp at c2
  omega
 repeat' (first|refine zN ?_|refine zE ?_|refine zP ?_|refine pD ?_|refine pC (by first|(simp only [hw,hw2,List.length_replicate];omega)|(simp only [hw,hw2,List.length_replicate,List.length_cons,List.length_nil,hNn];omega)) ?_|refine zQ ?_|refine zR ?_|refine zW ?_)
 simp only [hw,hw2,hNn]
 refine loopI (σ:=Nat) (fun k=>[(7,.own 3000),(8,.int .i64 k)]) (fun k=>[(3000,.seq tInt (List.replicate k b++List.replicate (N - k) 0))]) (fun k=>1≤k∧k≤N) (fun k=>N - k) 1 rfl (fun _=>rfl) rfl ?_ ?_ ?_
 ·omega
 ·repeat' (first|exact trivial|with_reducible exact rfl|refine And.intro ?_ ?_)
  all_goals (first|rfl|(simp;done)|(simp;omega))
 rintro k ⟨hk1,hk2⟩
 have hlen:(List.replicate k b++List.replicate (N - k) (0:Int)).length=N:=by simp;omega
 repeat' (first|refine zN ?_|refine zE ?_|refine zP ?_|refine pD ?_|refine zQ ?_|refine zR ?_|refine zW ?_)
 refine condI rfl (fun c3=>?_) (fun c3=>?_)
 ·simp only [decide_eq_true_eq,hlen] at c3
  have hkn:((k:Nat):Int).toNat=k:=by omega
  have hk3:k < N:=by omega
  obtain ⟨m,hm⟩:∃ m,m=min k (N - k):=⟨_,rfl⟩
  have hst:=rep_step (b:=b) hk2 hm
  repeat' (first|with_reducible refine cN ?_|refine zB ?_|refine skipI rfl ?_)
  refine regH [(44,true)] rfl ?_
  repeat' (first|with_reducible refine pN ?_|refine pC (by first|omega|(simp only [hkn,hlen];omega)|(simp only [hlen];omega)) ?_)
  repeat' (first|refine zN ?_|refine zE ?_|refine zP ?_|refine pD ?_|refine zQ ?_|refine zR ?_|refine zW ?_)
  refine roundI (k+m) rfl ?_ ?_ ?_
  ·omega
  ·omega
  ·repeat' (first|exact trivial|with_reducible exact rfl|refine And.intro ?_ ?_)
   all_goals (simp only [hkn,hlen,← hm])
   ·omega
   ·exact hst.symm
 ·simp only [decide_eq_false_iff_not,hlen] at c3
  obtain rfl:k=N:=by omega
  repeat' (first|refine zN ?_|refine zE ?_|refine zP ?_|refine pD ?_|refine zQ ?_|refine zR ?_|refine zW ?_)
  refine endR rfl ?_
  repeat' (first|exact trivial|exact rfl|refine ⟨rfl,?_⟩|refine And.intro ?_ ?_)
  simp
end Go.AM.YtbepaplaahcnkaaGreat.Re
end

section
namespace Go.AM.YtbepaplaahcnkaaGreat.Re
open Go.Proofs
set_option maxRecDepth 100000
set_option maxHeartbeats 4000000
abbrev tSc:Ty:=.pair (.slice (.int .i64)) (.pair (.slice (.int .i64)) (.pair (.int .i64) (.pair (.int .i64) (.int .i64))))
abbrev ScT:=List Int × List Int × Int × Int × Int
def slowD (xs:List tStage.El):List Int:=xs.map sMax
def slowM (b:Int) (xs:List tStage.El):List Int:=List.replicate xs.length b
def sigSlow:List (Nat × Spec):=[(155,repS)]
theorem sigSlowOk:SigOk Tryz.prog (look sigSlow):=sigCons sigNil Tryz.func155 (by kernel_rfl) (c:=body Tryz.f155) rfl repOk
def slowestS:Spec:=plain fun
 | [.agg [.int .i64 e,.int .i64 a,.int .i64 b,.sl (.pair (.int .i64) (.pair (.int .i64) (.pair (.pair (.int .i64) (.int .i64)) (.pair (.int .i64) (.int .i64))))) xs,.sl (.pair (.int .i64) (.pair (.int .i64) (.int .i64))) ws]] =>
   some ⟨1≤xs.length∧xs.length≤8,.agg [.own 0,.own 1,.int .i64 b,.int .i64 (-1),.int .i64 0],[.seq tInt (slowD xs),.seq tInt (slowM b xs)],false⟩
 | _=>none
theorem slowestOk:SpecSound Tryz.prog 94 slowestS:=by
 refine soundP (envOf sigSlowOk) Tryz.func94 (c:=body Tryz.f94) rfl (by kernel_rfl) rfl ?_
 intro args out hf hpre
 split at hf <;> try (cases hf;done)
 rename_i e a b xs ws
 cases hf
 refine ⟨Nat.le_of_ble_eq_true rfl,initI (args:=[.agg [.int .i64 e,.int .i64 a,.int .i64 b,.sl tStage xs,.sl tWin ws]]) rfl ?_⟩
 obtain ⟨h1,h8⟩:=hpre
 repeat' (first|refine zN ?_|refine zE ?_|refine zP ?_|refine pD ?_|refine pC (by (show 1≤_∧_≤_;omega)) ?_|refine zQ ?_|refine zR ?_|refine zW ?_)
 refine loopI (σ:=Nat) (fun i=>[(19,.int .i64 i)]) (fun i=>[(3,.box [.own 3000,.own 3001,.int .i64 b,.int .i64 (-1),.int .i64 0]),(3000,.seq tInt (slowD (xs.take i))),(3001,.seq tInt (slowM b xs))]) (fun i=>i≤xs.length) (fun i=>xs.length - i) 0 rfl (fun _=>rfl) rfl ?_ ?_ ?_
 ·exact Nat.zero_le _
 ·repeat' (first|exact trivial|exact rfl|refine ⟨rfl,?_⟩|refine And.intro ?_ ?_)
 intro i hi
 repeat' (first|refine zN ?_|refine zE ?_|refine zP ?_|refine pD ?_|refine zQ ?_|refine zR ?_|refine zW ?_)
 refine condI rfl (fun c1=>?_) (fun c1=>?_)
 ·simp only [decide_eq_true_eq] at c1
  have hil:i < xs.length:=by omega
  have hin:((i:Int)).toNat=i:=by omega
  have hlt:(slowD (xs.take i)).length=i:=by unfold slowD;rw [List.length_map,List.length_take];omega
  repeat' (first|refine zN ?_|refine zE ?_|refine zP ?_|refine pD ?_|refine pC (by (simp only [hlt,List.length_cons,List.length_nil];omega)) ?_|refine zQ ?_|refine zR ?_|refine zW ?_)
  refine roundI (i+1) rfl ?_ ?_ ?_
  ·show i+1≤xs.length
   omega
  ·show xs.length - (i+1) < xs.length - i
   omega
  ·repeat' (first|exact trivial|with_reducible exact rfl|refine And.intro ?_ ?_)
   all_goals (first|rfl|(unfold slowD;rw [take_getI (d:=tStage.dflt) hil,List.map_append];rfl))
 ·simp only [decide_eq_false_iff_not] at c1
  repeat' (first|refine zN ?_|refine zE ?_|refine zP ?_|refine pD ?_|refine zQ ?_|refine zR ?_|refine zW ?_)
  refine endR rfl ?_
  repeat' (first|exact trivial|exact rfl|refine ⟨rfl,?_⟩|refine And.intro ?_ ?_)
  rw [List.take_of_length_le (by omega)]
def sigFailing:List (Nat × Spec):=[(94,slowestS)]
theorem sigFailingOk:SigOk Tryz.prog (look sigFailing):=sigCons sigNil Tryz.func94 (by kernel_rfl) (c:=body Tryz.f94) rfl slowestOk
def failingS:Spec:=plain fun
 | [.agg [.int .i64 e,.int .i64 a,.int .i64 b,.sl (.pair (.int .i64) (.pair (.int .i64) (.pair (.pair (.int .i64) (.int .i64)) (.pair (.int .i64) (.int .i64))))) xs,.sl (.pair (.int .i64) (.pair (.int .i64) (.int .i64))) ws],.int .i64 tl,.int .i64 fa] =>
   some ⟨1≤xs.length∧xs.length≤8,.agg [.own 0,.own 1,.int .i64 b,.int .i64 tl,.int .i64 fa],[.seq tInt (slowD xs),.seq tInt (slowM b xs)],false⟩
 | _=>none
theorem failingOk:SpecSound Tryz.prog 95 failingS:=by
 refine soundP (envOf sigFailingOk) Tryz.func95 (c:=body Tryz.f95) rfl (by kernel_rfl) rfl ?_
 intro args out hf hpre
 split at hf <;> try (cases hf;done)
 rename_i e a b xs ws tl fa
 cases hf
 refine ⟨Nat.le_of_ble_eq_true rfl,initI (args:=[.agg [.int .i64 e,.int .i64 a,.int .i64 b,.sl tStage xs,.sl tWin ws],.int .i64 tl,.int .i64 fa]) rfl ?_⟩
 repeat' (first|refine zN ?_|refine zE ?_|refine zP ?_|refine pD ?_|refine pC (by exact hpre) ?_|refine zQ ?_|refine zR ?_|refine zW ?_)
 refine endR rfl ?_
 repeat' (first|exact trivial|exact rfl|refine ⟨rfl,?_⟩|refine And.intro ?_ ?_)
def mainSc (b:Int) (xs:List tStage.El) (x:tStage.El):ScT:=(slowD xs,slowM b xs,b,mTl x,mSt x+sMax x - 1)
def winSc (b:Int) (xs:List tStage.El) (w:tWin.El):ScT :=
 ((slowD xs).set w.1.toNat (sMin (getI xs tStage.dflt w.1.toNat)),slowM b xs,b,mTl (getI xs tStage.dflt w.2.1.toNat),mSt (getI xs tStage.dflt w.2.1.toNat))
def critL (b:Int) (xs:List tStage.El) (ws:List tWin.El):List ScT:=((slowD xs,slowM b xs,b,-1,0)::xs.map (mainSc b xs))++ws.map (winSc b xs)
def critItS:Spec:=⟨true,fun args rows=>match args,rows with
 | [.own 0,.ptr 2 0],[.yp 1,.yld (.pair (.slice (.int .i64)) (.pair (.slice (.int .i64)) (.pair (.int .i64) (.pair (.int .i64) (.int .i64))))) false Y p,
    .box [.int .i64 e,.int .i64 a,.int .i64 b,.sl (.pair (.int .i64) (.pair (.int .i64) (.pair (.pair (.int .i64) (.int .i64)) (.pair (.int .i64) (.int .i64))))) xs,.sl (.pair (.int .i64) (.pair (.int .i64) (.int .i64))) ws]] =>
   some ⟨((1≤xs.length∧xs.length≤8)∧WinP xs ws)∧YGo Y p (critL b xs ws),.tup [],
    [.yp 3,.dead,.box [.int .i64 e,.int .i64 a,.int .i64 b,.sl tStage xs,.sl tWin ws],.yld tSc false Y (cut Y.cont p (critL b xs ws)).1],true⟩
 | _,_=>none⟩
def sigCrit:List (Nat × Spec):=[(94,slowestS),(95,failingS)]
theorem sigCritOk:SigOk Tryz.prog (look sigCrit):=sigCons (sigCons sigNil Tryz.func95 (by kernel_rfl) (c:=body Tryz.f95) rfl failingOk)
 Tryz.func94 (by kernel_rfl) (c:=body Tryz.f94) rfl slowestOk
theorem critItOk:SpecSound Tryz.prog 93 critItS:=by
 refine soundR (envOf sigCritOk) Tryz.func93 (c:=body Tryz.f93) rfl (by kernel_rfl) rfl ?_
 intro args rows out hf hpre
 split at hf <;> try (cases hf;done)
 rename_i Y p e a b xs ws
 cases hf
 refine ⟨Nat.le_of_ble_eq_true rfl,initI (args:=[.own 0,.ptr 2 0]) (rows:=[.yp 1,.yld tSc false Y p,.box [.int .i64 e,.int .i64 a,.int .i64 b,.sl tStage xs,.sl tWin ws]]) rfl ?_⟩
 obtain ⟨⟨hn,hlw,hsm,hws⟩,hgo⟩:=hpre
 obtain ⟨tot,htot⟩:∃ tot,tot=(cut Y.cont p (critL b xs ws)).1:=⟨_,rfl⟩
 rw [← htot]
 obtain ⟨hgo1,hgo2⟩:Y.ok (p++[(slowD xs,slowM b xs,b,-1,0)])∧(Y.cont (p++[(slowD xs,slowM b xs,b,-1,0)])=true→YGo Y (p++[(slowD xs,slowM b xs,b,-1,0)]) (xs.map (mainSc b xs)++ws.map (winSc b xs))):=hgo
 have htot:tot=(bif Y.cont (p++[(slowD xs,slowM b xs,b,-1,0)]) then cut Y.cont (p++[(slowD xs,slowM b xs,b,-1,0)]) (xs.map (mainSc b xs)++ws.map (winSc b xs)) else (p++[(slowD xs,slowM b xs,b,-1,0)],false)).1:=htot
 have hS:∀ i,i < xs.length→StSm (getI xs tStage.dflt i).1 (getI xs tStage.dflt i).2.1 (getI xs tStage.dflt i).2.2.1.2 (getI xs tStage.dflt i).2.2.2.2:=fun i hi=>hsm _ (Pl.getI_mem hi)
 have hW:∀ i,i < ws.length→WiSm xs.length (getI ws tWin.dflt i).1 (getI ws tWin.dflt i).2.1 (getI ws tWin.dflt i).2.2:=fun i hi=>hws _ (Pl.getI_mem hi)
 have hsl:(slowD xs).length=xs.length:=by unfold slowD;rw [List.length_map]
 repeat' (first|refine zN ?_|refine zE ?_|refine zP ?_|refine pD ?_|refine pC (by first|exact hn|exact hgo1) ?_|refine zQ ?_|refine zR ?_|refine zW ?_)
 refine condI rfl (fun c1=>?_) (fun c1=>?_)
 ·rw [Bool.not_eq_true'] at c1
  rw [c1] at htot
  repeat' (first|refine zN ?_|refine zE ?_|refine zP ?_|refine pD ?_|refine zQ ?_|refine zR ?_|refine zW ?_)
  refine endR rfl ?_
  repeat' (first|exact trivial|exact rfl|refine ⟨rfl,?_⟩|refine And.intro ?_ ?_)
  exact htot
 rw [Bool.not_eq_false'] at c1
 rw [c1] at htot
 have hgo2:=hgo2 c1
 repeat' (first|refine zN ?_|refine zE ?_|refine zP ?_|refine pD ?_|refine zQ ?_|refine zR ?_|refine zW ?_)
 refine loopI (σ:=Nat × List ScT) (fun s=>[(17,.int .i64 s.1)]) (fun s=>[(100000,.yp 3000),(3000,.yld tSc false Y s.2)]) (fun s=>s.1≤xs.length∧YGo Y s.2 ((xs.drop s.1).map (mainSc b xs)++ws.map (winSc b xs))∧tot=(cut Y.cont s.2 ((xs.drop s.1).map (mainSc b xs)++ws.map (winSc b xs))).1) (fun s=>xs.length - s.1) (0,p++[(slowD xs,slowM b xs,b,-1,0)]) rfl (fun _=>rfl) rfl ?_ ?_ ?_
 ·exact ⟨Nat.zero_le _,hgo2,htot⟩
 ·repeat' (first|exact trivial|exact rfl|refine ⟨rfl,?_⟩|refine And.intro ?_ ?_)
 rintro ⟨i,q⟩ ⟨hi,hq1,hq2⟩
 dsimp only at hi hq1 hq2 ⊢
 repeat' (first|refine zN ?_|refine zE ?_|refine zP ?_|refine pD ?_|refine zQ ?_|refine zR ?_|refine zW ?_)
 refine condI rfl (fun c2=>?_) (fun c2=>?_)
 ·simp only [decide_eq_true_eq] at c2
  have hil:i < xs.length:=by omega
  have hin:((i:Int)).toNat=i:=by omega
  have hSi:=hS i hil
  unfold StSm at hSi
  rw [drop_getI (d:=tStage.dflt) hil] at hq1 hq2
  obtain ⟨hk1,hk2⟩:Y.ok (q++[mainSc b xs (getI xs tStage.dflt i)])∧(Y.cont (q++[mainSc b xs (getI xs tStage.dflt i)])=true→YGo Y (q++[mainSc b xs (getI xs tStage.dflt i)]) ((xs.drop (i+1)).map (mainSc b xs)++ws.map (winSc b xs))):=hq1
  have hk3:tot=(bif Y.cont (q++[mainSc b xs (getI xs tStage.dflt i)]) then cut Y.cont (q++[mainSc b xs (getI xs tStage.dflt i)]) ((xs.drop (i+1)).map (mainSc b xs)++ws.map (winSc b xs)) else (q++[mainSc b xs (getI xs tStage.dflt i)],false)).1:=hq2
  repeat' (first|refine zN ?_|refine zE ?_|refine zP ?_|refine pD ?_|refine pC (by first|exact hn|exact hk1|(simp only [hin];unfold In64;omega)) ?_|refine zQ ?_|refine zR ?_|refine zW ?_)
  refine condI rfl (fun c3=>?_) (fun c3=>?_)
  ·simp only [hin] at c3
   have c3':Y.cont (q++[mainSc b xs (getI xs tStage.dflt i)])=false:=(Bool.not_eq_true' _).mp c3
   rw [c3'] at hk3
   repeat' (first|refine zN ?_|refine zE ?_|refine zP ?_|refine pD ?_|refine zQ ?_|refine zR ?_|refine zW ?_)
   refine endR rfl ?_
   repeat' (first|exact trivial|exact rfl|refine ⟨rfl,?_⟩|refine And.intro ?_ ?_)
   simp only [hin]
   exact hk3
  ·simp only [hin] at c3
   have c3':Y.cont (q++[mainSc b xs (getI xs tStage.dflt i)])=true:=(Bool.not_eq_false' _).mp c3
   rw [c3'] at hk3
   repeat' (first|refine zN ?_|refine zE ?_|refine zP ?_|refine pD ?_|refine zQ ?_|refine zR ?_|refine zW ?_)
   refine roundI (i+1,q++[mainSc b xs (getI xs tStage.dflt i)]) rfl ?_ ?_ ?_
   ·exact ⟨by show i+1≤xs.length;omega,hk2 c3',hk3⟩
   ·show xs.length - (i+1) < xs.length - i
    omega
   ·repeat' (first|exact trivial|with_reducible exact rfl|refine And.intro ?_ ?_)
    all_goals (simp only [hin];rfl)
 ·simp only [decide_eq_false_iff_not] at c2
  rw [List.drop_eq_nil_of_le (by omega)] at hq1 hq2
  have hq1:YGo Y q (ws.map (winSc b xs)):=hq1
  have hq2:tot=(cut Y.cont q (ws.map (winSc b xs))).1:=hq2
  repeat' (first|refine zN ?_|refine zE ?_|refine zP ?_|refine pD ?_|refine zQ ?_|refine zR ?_|refine zW ?_)
  refine loopI (σ:=Nat × List ScT) (fun s=>[(40,.int .i64 s.1)]) (fun s=>[(100000,.yp 3000),(3000,.yld tSc false Y s.2)]) (fun s=>s.1≤ws.length∧YGo Y s.2 ((ws.drop s.1).map (winSc b xs))∧tot=(cut Y.cont s.2 ((ws.drop s.1).map (winSc b xs))).1) (fun s=>ws.length - s.1) (0,q) rfl (fun _=>rfl) rfl ?_ ?_ ?_
  ·exact ⟨Nat.zero_le _,hq1,hq2⟩
  ·repeat' (first|exact trivial|exact rfl|refine ⟨rfl,?_⟩|refine And.intro ?_ ?_)
  rintro ⟨k,r⟩ ⟨hk,hr1,hr2⟩
  dsimp only at hk hr1 hr2 ⊢
  repeat' (first|refine zN ?_|refine zE ?_|refine zP ?_|refine pD ?_|refine zQ ?_|refine zR ?_|refine zW ?_)
  refine condI rfl (fun c4=>?_) (fun c4=>?_)
  ·simp only [decide_eq_true_eq] at c4
   have hkl:k < ws.length:=by omega
   have hkn:((k:Int)).toNat=k:=by omega
   have hWk:=hW k hkl
   unfold WiSm at hWk
   rw [drop_getI (d:=tWin.dflt) hkl] at hr1 hr2
   obtain ⟨hm1,hm2⟩:Y.ok (r++[winSc b xs (getI ws tWin.dflt k)])∧(Y.cont (r++[winSc b xs (getI ws tWin.dflt k)])=true→YGo Y (r++[winSc b xs (getI ws tWin.dflt k)]) ((ws.drop (k+1)).map (winSc b xs))):=hr1
   have hm3:tot=(bif Y.cont (r++[winSc b xs (getI ws tWin.dflt k)]) then cut Y.cont (r++[winSc b xs (getI ws tWin.dflt k)]) ((ws.drop (k+1)).map (winSc b xs)) else (r++[winSc b xs (getI ws tWin.dflt k)],false)).1:=hr2
   repeat' (first|refine zN ?_|refine zE ?_|refine zP ?_|refine pD ?_|refine pC (by first|exact hn|exact hm1|(simp only [hkn,hsl];omega)) ?_|refine zQ ?_|refine zR ?_|refine zW ?_)
   refine condI rfl (fun c5=>?_) (fun c5=>?_)
   ·simp only [hkn] at c5
    have c5':Y.cont (r++[winSc b xs (getI ws tWin.dflt k)])=false:=(Bool.not_eq_true' _).mp c5
    rw [c5'] at hm3
    repeat' (first|refine zN ?_|refine zE ?_|refine zP ?_|refine pD ?_|refine zQ ?_|refine zR ?_|refine zW ?_)
    refine endR rfl ?_
    repeat' (first|exact trivial|exact rfl|refine ⟨rfl,?_⟩|refine And.intro ?_ ?_)
    simp only [hkn]
    exact hm3
   ·simp only [hkn] at c5
    have c5':Y.cont (r++[winSc b xs (getI ws tWin.dflt k)])=true:=(Bool.not_eq_false' _).mp c5
    rw [c5'] at hm3
    repeat' (first|refine zN ?_|refine zE ?_|refine zP ?_|refine pD ?_|refine zQ ?_|refine zR ?_|refine zW ?_)
    refine roundI (k+1,r++[winSc b xs (getI ws tWin.dflt k)]) rfl ?_ ?_ ?_
    ·exact ⟨by show k+1≤ws.length;omega,hm2 c5',hm3⟩
    ·show ws.length - (k+1) < ws.length - k
     omega
    ·repeat' (first|exact trivial|with_reducible exact rfl|refine And.intro ?_ ?_)
     all_goals (simp only [hkn];rfl)
  ·simp only [decide_eq_false_iff_not] at c4
   rw [List.drop_eq_nil_of_le (by omega)] at hr2
   repeat' (first|refine zN ?_|refine zE ?_|refine zP ?_|refine pD ?_|refine zQ ?_|refine zR ?_|refine zW ?_)
   refine endN rfl ?_
   repeat' (first|exact trivial|with_reducible exact rfl|refine And.intro ?_ ?_)
   exact hr2
end Go.AM.YtbepaplaahcnkaaGreat.Re
end

section
namespace Go.AM.YtbepaplaahcnkaaGreat.Re
open Go.Proofs
set_option maxRecDepth 100000
set_option maxHeartbeats 4000000
def critS:Spec:=⟨true,fun args rows=>match args,rows with
 | [.agg [.int .i64 e,.int .i64 a,.int .i64 b,.sl (.pair (.int .i64) (.pair (.int .i64) (.pair (.pair (.int .i64) (.int .i64)) (.pair (.int .i64) (.int .i64))))) xs,.sl (.pair (.int .i64) (.pair (.int .i64) (.int .i64))) ws]],[] =>
   some ⟨True,.fn 93 [] [.ptr 0 0],[.box [.int .i64 e,.int .i64 a,.int .i64 b,.sl tStage xs,.sl tWin ws]],true⟩
 | _,_=>none⟩
theorem critOk:SpecSound Tryz.prog 29 critS:=by
 refine soundR (envOf sigNil) Tryz.func29 (c:=body Tryz.f29) rfl (by kernel_rfl) rfl ?_
 intro args rows out hf hpre
 split at hf <;> try (cases hf;done)
 rename_i e a b xs ws
 cases hf
 refine ⟨Nat.le_of_ble_eq_true rfl,initI (args:=[.agg [.int .i64 e,.int .i64 a,.int .i64 b,.sl tStage xs,.sl tWin ws]]) (rows:=[]) rfl ?_⟩
 repeat' (first|refine zN ?_|refine zE ?_|refine zP ?_|refine pD ?_|refine zQ ?_|refine zR ?_|refine zW ?_)
 refine endR rfl ?_
 repeat' (first|exact trivial|exact rfl|refine ⟨rfl,?_⟩|refine And.intro ?_ ?_)
def sigCheck:List (Nat × Spec):=[(27,isSafeS),(28,Pl.validS),(29,critS),(93,critItS),(30,Pl.runS)]
theorem sigCheckOk:SigOk Tryz.prog (look sigCheck):=sigCons (sigCons (sigCons (sigCons (sigCons sigNil
 Tryz.func30 (by kernel_rfl) (c:=body Tryz.f30) rfl Pl.runOk)
 Tryz.func93 (by kernel_rfl) (c:=body Tryz.f93) rfl critItOk)
 Tryz.func29 (by kernel_rfl) (c:=body Tryz.f29) rfl critOk)
 Tryz.func28 (by kernel_rfl) (c:=body Tryz.f28) rfl Pl.validOk)
 Tryz.func27 (by kernel_rfl) (c:=body Tryz.f27) rfl isSafeOk
def lateSc (e a b:Int) (xs:List tStage.El) (ws:List tWin.El) (s:ScT):Bool:=decide ((Pl.runF e a b xs ws s.1 s.2.1 s.2.2.1 s.2.2.2.1 s.2.2.2.2).2.1.1≠0)
def lateJ (e a b:Int) (xs:List tStage.El) (ws:List tWin.El) (q:List ScT):Option AExit:=match q.getLast? with
 | some s=>bif lateSc e a b xs ws s then some .ret else none
 | none=>none
def lastSc (e a b:Int) (xs:List tStage.El) (ws:List tWin.El) (q:List ScT):ScT:=match lateJ e a b xs ws q with
 | some _=>q.getLast?.getD ([],[],0,0,0)
 | none=>([],[],0,0,0)
def checkS:Spec:=plain fun
 | [.agg [.int .i64 e,.int .i64 a,.int .i64 b,.sl (.pair (.int .i64) (.pair (.int .i64) (.pair (.pair (.int .i64) (.int .i64)) (.pair (.int .i64) (.int .i64))))) xs,.sl (.pair (.int .i64) (.pair (.int .i64) (.int .i64))) ws]] =>
   outV True (.tup [.agg [.ext .any,.ext .any,.ext .any,.ext .any,.ext .any],.bool (safeF e a b xs ws)])
 | _=>none
theorem checkOk:SpecSound Tryz.prog 13 checkS:=by
 refine soundP (envOf sigCheckOk) Tryz.func13 (c:=body Tryz.f13) rfl (by kernel_rfl) rfl ?_
 intro args out hf hpre
 split at hf <;> try (cases hf;done)
 rename_i e a b xs ws
 cases hf
 refine ⟨Nat.le_of_ble_eq_true rfl,initI (args:=[.agg [.int .i64 e,.int .i64 a,.int .i64 b,.sl tStage xs,.sl tWin ws]]) rfl ?_⟩
 repeat' (first|refine zN ?_|refine zE ?_|refine zP ?_|refine pD ?_|refine zQ ?_|refine zR ?_|refine zW ?_)
 refine condI rfl (fun c1=>?_) (fun c1=>?_)
 ·repeat' (first|refine zN ?_|refine zE ?_|refine zP ?_|refine pD ?_|refine zQ ?_|refine zR ?_|refine zW ?_)
  refine endR rfl ?_
  repeat' (first|exact trivial|exact rfl|refine ⟨rfl,?_⟩|refine And.intro ?_ ?_)
  exact c1
 repeat' (first|refine zN ?_|refine zE ?_|refine zP ?_|refine pD ?_|refine zQ ?_|refine zR ?_|refine zW ?_)
 refine condI rfl (fun c2=>?_) (fun c2=>?_)
 ·have F:=Pl.valid_facts c2
  obtain ⟨hs1,hs2⟩:=facts_slots F
  repeat' (first|refine zN ?_|refine zE ?_|refine zP ?_|refine pD ?_|refine zQ ?_|refine zR ?_|refine zW ?_)
  refine rangeI (tSc) false (fun q=>[(2,.box [.sl tInt (lastSc e a b xs ws q).1,.sl tInt (lastSc e a b xs ws q).2.1,.int .i64 (lastSc e a b xs ws q).2.2.1,.int .i64 (lastSc e a b xs ws q).2.2.2.1,.int .i64 (lastSc e a b xs ws q).2.2.2.2])]) (lateJ e a b xs ws) (critL b xs ws) 14 rfl rfl rfl rfl rfl rfl rfl rfl rfl (fun _=>rfl) (fun _=>rfl) (fun _=>rfl) rfl rfl rfl ?_ ?_ ?_ ?_ ?_ ?_
  ·exact ⟨rfl,rfl,rfl,by repeat' (first|exact trivial|exact rfl|refine And.intro ?_ ?_),by repeat' (first|exact trivial|exact rfl|refine And.intro ?_ ?_),rfl,rfl,rfl⟩
  ·repeat' (first|exact trivial|exact rfl|refine ⟨rfl,?_⟩|refine And.intro ?_ ?_)
  ·rfl
  ·intro J
   exact ⟨_,_,rfl,fun h=>⟨⟨F.n,hs2⟩,h⟩,rfl,rfl⟩
  ·intro l q x hq hjq hok
   refine ⟨_,rfl,?_⟩
   have hlast:lateJ e a b xs ws (q++[x])=bif lateSc e a b xs ws x then some .ret else none:=by unfold lateJ;rw [List.getLast?_concat]
   repeat' (first|refine zN ?_|refine zE ?_|refine zP ?_|refine pD ?_|refine zQ ?_|refine zR ?_|refine zW ?_)
   refine asN ?_
   repeat' (first|refine zN ?_|refine zE ?_|refine zP ?_|refine pD ?_|refine pC (by (show xs.length≤_;have:=F.n;omega)) ?_|refine zQ ?_|refine zR ?_|refine zW ?_)
   refine condI rfl (fun c3=>?_) (fun c3=>?_)
   ·have hl:lateJ e a b xs ws (q++[x])=some .ret:=by rw [hlast];unfold lateSc;rw [show decide ((Pl.runF e a b xs ws x.1 x.2.1 x.2.2.1 x.2.2.2.1 x.2.2.2.2).2.1.1≠0)=true from c3];rfl
    have hls:lastSc e a b xs ws (q++[x])=x:=by unfold lastSc;rw [hl,List.getLast?_concat];rfl
    repeat' (first|refine zN ?_|refine zE ?_|refine zP ?_|refine pD ?_|refine zQ ?_|refine zR ?_|refine zW ?_)
    refine yR rfl hl ?_
    rw [hls]
    repeat' (first|exact trivial|exact rfl|refine ⟨rfl,?_⟩|refine And.intro ?_ ?_)
   ·have hl:lateJ e a b xs ws (q++[x])=none:=by rw [hlast];unfold lateSc;rw [show decide ((Pl.runF e a b xs ws x.1 x.2.1 x.2.2.1 x.2.2.2.1 x.2.2.2.2).2.1.1≠0)=false from c3];rfl
    have hls:lastSc e a b xs ws (q++[x])=lastSc e a b xs ws q:=by unfold lastSc;rw [hl,hjq]
    repeat' (first|refine zN ?_|refine zE ?_|refine zP ?_|refine pD ?_|refine zQ ?_|refine zR ?_|refine zW ?_)
    refine yN rfl hl ?_
    rw [hls]
    repeat' (first|exact trivial|exact rfl|refine ⟨rfl,?_⟩|refine And.intro ?_ ?_)
  ·obtain ⟨pf,hpf⟩:∃ pf,pf=(cut (contOf (lateJ e a b xs ws)) [] (critL b xs ws)).1:=⟨_,rfl⟩
   rw [← hpf]
   cases hjf:lateJ e a b xs ws pf with
   | none =>
     repeat' (first|refine zN ?_|refine zE ?_|refine zP ?_|refine pD ?_|refine zQ ?_|refine zR ?_|refine zW ?_)
     refine endR rfl ?_
     repeat' (first|exact trivial|exact rfl|refine ⟨rfl,?_⟩|refine And.intro ?_ ?_)
     exact c1
   | some ex =>
     have hex:ex=.ret:=by
      unfold lateJ at hjf
      split at hjf
      ·rename_i s _
       cases hl:lateSc e a b xs ws s
       ·rw [hl] at hjf;cases hjf
       ·rw [hl] at hjf;exact (Option.some.inj hjf).symm
      ·cases hjf
     subst hex
     repeat' (first|refine zN ?_|refine zE ?_|refine zP ?_|refine pD ?_|refine zQ ?_|refine zR ?_|refine zW ?_)
     refine endR rfl ?_
     repeat' (first|exact trivial|exact rfl|refine ⟨rfl,?_⟩|refine And.intro ?_ ?_)
     exact c1
 ·repeat' (first|refine zN ?_|refine zE ?_|refine zP ?_|refine pD ?_|refine zQ ?_|refine zR ?_|refine zW ?_)
  refine endR rfl ?_
  repeat' (first|exact trivial|exact rfl|refine ⟨rfl,?_⟩|refine And.intro ?_ ?_)
  exact c1
end Go.AM.YtbepaplaahcnkaaGreat.Re
end
