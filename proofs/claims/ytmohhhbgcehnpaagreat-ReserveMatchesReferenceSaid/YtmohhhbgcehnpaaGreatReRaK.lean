/- The reference's plans: within, Valid, Possible (of possible scenarios), Run. -/
import Derived.Test.YtmohhhbgcehnpaaGreatPm26
set_option linter.all false
namespace Go.AM.YtmohhhbgcehnpaaGreat.Re
open Go.Proofs
set_option maxRecDepth 100000
set_option maxHeartbeats 8000000
def rWinS:Spec:=plain fun
 | [.int .i64 n,.int .i64 lo,.int .i64 hi]=>outV True (.bool (Pl.withinF n lo hi))
 | _=>none
theorem rWinOk:SpecSound Tryz.prog 135 rWinS:=by
 refine soundP (envOf sigNil) Tryz.func135 (c:=body Tryz.f135) rfl (by kernel_rfl) rfl ?_
 intro args out hf hpre
 split at hf <;> try (cases hf;done)
 rename_i n lo hi
 cases hf
 refine ⟨Nat.le_of_ble_eq_true rfl,initI (args:=[.int .i64 n,.int .i64 lo,.int .i64 hi]) rfl ?_⟩
 repeat' (first|refine zN ?_|refine zE ?_|refine zP ?_|refine pD ?_|refine zS ?_|refine zR ?_|refine zO ?_|refine zB ?_|refine zX ?_|refine zT ?_|refine skipI rfl ?_)
 refine endR rfl ?_
 repeat' (first|exact trivial|exact rfl|refine ⟨rfl,?_⟩|refine And.intro ?_ ?_)
def rValidS:Spec:=plain fun
 | [.agg [.int .i64 e,.int .i64 a,.int .i64 b,.sl (.pair (.int .i64) (.pair (.int .i64) (.pair (.pair (.int .i64) (.int .i64)) (.pair (.int .i64) (.int .i64))))) xs,.sl (.pair (.int .i64) (.pair (.int .i64) (.int .i64))) ws]] =>
   outV (Pl.validF e a b xs ws=true) (.bool true)
 | _=>none
def sigRV:List (Nat × Spec):=[(135,rWinS)]
theorem sigRVOk:SigOk Tryz.prog (look sigRV):=sigCons sigNil Tryz.func135 (by kernel_rfl) (c:=body Tryz.f135) rfl rWinOk
def WiAft (k:Nat) (f0 t0 f t:Int):Prop:=0 < k→¬ f < f0∧¬ (f0=f∧t≤t0)
theorem winF_aft {n:Nat} {f0 t0 l0 f t l:Int} (h:Pl.winF n (f0,t0,l0) (f,t,l)=true):¬ f < f0∧¬ (f0=f∧t≤t0):=by
 unfold Pl.winF at h
 simp only [Bool.and_eq_true,Bool.or_eq_true,decide_eq_true_eq] at h
 obtain ⟨⟨⟨⟨h10,_⟩,_⟩,_⟩,_⟩:=h
 have h11:f0 < f∨(f0=f∧t0 < t):=h10
 omega
theorem valid_order {e a b:Int} {xs:List tStage.El} {ws:List tWin.El} (h:Pl.validF e a b xs ws=true) (k:Nat) (hk:k < ws.length):WiAft k (getI ws tWin.dflt (k - 1)).1 (getI ws tWin.dflt (k - 1)).2.1 (getI ws tWin.dflt k).1 (getI ws tWin.dflt k).2.1:=by
 intro h0
 unfold Pl.validF at h
 simp only [Bool.and_eq_true,Bool.not_eq_true',List.any_eq_false] at h
 obtain ⟨_,_,h7⟩:=h
 have hk':k < (Pl.duo (-1,0,0) ws).length:=by rw [Pl.duo_length];exact hk
 have h8:=h7 _ (Pl.getI_mem (d:=((-1,0,0),(-1,0,0))) hk')
 rw [Pl.duo_get hk] at h8
 obtain ⟨j,rfl⟩:∃ j,k=j+1:=⟨k - 1,by omega⟩
 have h9:Pl.ahead (-1,0,0) ws (j+1)=getI ws tWin.dflt j:=rfl
 rw [h9] at h8
 rw [show j+1 - 1=j by omega]
 unfold Pl.badW at h8
 simp only [Bool.not_eq_true',Bool.not_eq_false] at h8
 exact winF_aft h8
theorem rValidOk:SpecSound Tryz.prog 108 rValidS:=by
 refine soundP (envOf sigRVOk) Tryz.func108 (c:=body Tryz.f108) rfl (by kernel_rfl) rfl ?_
 intro args out hf hpre
 split at hf <;> try (cases hf;done)
 rename_i e a b xs ws
 cases hf
 refine ⟨Nat.le_of_ble_eq_true rfl,initI (args:=[.agg [.int .i64 e,.int .i64 a,.int .i64 b,.sl tStage xs,.sl tWin ws]]) rfl ?_⟩
 have hv:Pl.validF e a b xs ws=true:=hpre
 have F:=Pl.valid_facts hv
 have hF1:=F.e
 have hF2:=F.ab
 have hF3:=F.n
 have hF4:=F.w
 repeat' (first|refine zN ?_|refine zE ?_|refine zP ?_|refine pD ?_|refine zS ?_|refine zR ?_|refine zO ?_|refine zB ?_|refine zX ?_|refine zT ?_|refine skipI rfl ?_)
 refine condI rfl (fun c1=>?_) (fun c1=>?_)
 ·exfalso
  simp only [Bool.or_eq_true,Bool.not_eq_true',decide_eq_true_eq,Pl.withinF,Bool.and_eq_false_iff,decide_eq_false_iff_not] at c1
  omega
 repeat' (first|refine zN ?_|refine zE ?_|refine zP ?_|refine pD ?_|refine zS ?_|refine zR ?_|refine zO ?_|refine zB ?_|refine zX ?_|refine zT ?_|refine skipI rfl ?_)
 refine loopI (σ:=Nat) (fun i=>[(3,.int .i64 i)]) (fun i=>[]) (fun i=>i≤xs.length) (fun i=>xs.length - i) 0 rfl (fun _=>rfl) rfl ?_ ?_ ?_
 ·exact Nat.zero_le _
 ·repeat' (first|exact trivial|exact rfl|refine ⟨rfl,?_⟩|refine And.intro ?_ ?_)
 intro i hi
 repeat' (first|refine zN ?_|refine zE ?_|refine zP ?_|refine pD ?_|refine zS ?_|refine zR ?_|refine zO ?_|refine zB ?_|refine zX ?_|refine zT ?_|refine skipI rfl ?_)
 refine condI rfl (fun c2=>?_) (fun c2=>?_)
 ·simp only [decide_eq_true_eq] at c2
  have hil:i < xs.length:=by omega
  have hin:((i:Int)).toNat=i:=by omega
  have S:=F.st i hil
  unfold Pl.StOk at S
  repeat' (first|refine zN ?_|refine zE ?_|refine zP ?_|refine zS ?_|refine zO ?_|refine zB ?_|refine zX ?_|refine zT ?_|refine skipI rfl ?_)
  refine zR ?_
  repeat' (first|with_reducible refine pN ?_|refine pD ?_|refine pC (by omega) ?_)
  repeat with_reducible refine cN ?_
  simp only [hin]
  obtain ⟨x,hx⟩:∃ x:StT,x=getI xs tStage.dflt i:=⟨_,rfl⟩
  rw [← hx] at S ⊢
  obtain ⟨mn,mx,⟨mt,ms⟩,st,ss⟩:=x
  dsimp only at S ⊢
  repeat' (first|refine zN ?_|refine zE ?_|refine zP ?_|refine pD ?_|refine zS ?_|refine zR ?_|refine zO ?_|refine zB ?_|refine zX ?_|refine zT ?_|refine skipI rfl ?_)
  refine condI rfl (fun c3=>?_) (fun c3=>?_)
  ·exfalso
   simp only [Bool.or_eq_true,Bool.not_eq_true',decide_eq_true_eq,Pl.withinF,Bool.and_eq_false_iff,decide_eq_false_iff_not] at c3
   omega
  repeat' (first|refine zN ?_|refine zE ?_|refine zP ?_|refine pD ?_|refine pC (by first|(first|(unfold In64;omega)|(intros;unfold In64;omega))) ?_|refine zS ?_|refine zR ?_|refine zO ?_|refine zB ?_|refine zX ?_|refine zT ?_|refine skipI rfl ?_)
  refine condI rfl (fun c4=>?_) (fun c4=>?_)
  ·exfalso
   simp only [Bool.or_eq_true,Bool.not_eq_true',decide_eq_true_eq,Pl.withinF,Bool.and_eq_false_iff,decide_eq_false_iff_not] at c4
   omega
  repeat' (first|refine zN ?_|refine zE ?_|refine zP ?_|refine pD ?_|refine zS ?_|refine zR ?_|refine zO ?_|refine zB ?_|refine zX ?_|refine zT ?_|refine skipI rfl ?_)
  refine roundI (i+1) rfl ?_ ?_ ?_
  ·show i+1≤xs.length
   omega
  ·show xs.length - (i+1) < xs.length - i
   omega
  ·repeat' (first|exact trivial|with_reducible exact rfl|refine And.intro ?_ ?_)
   all_goals rfl
 repeat' (first|refine zN ?_|refine zE ?_|refine zP ?_|refine pD ?_|refine zS ?_|refine zR ?_|refine zO ?_|refine zB ?_|refine zX ?_|refine zT ?_|refine skipI rfl ?_)
 refine loopI (σ:=Nat) (fun i=>[(5,.int .i64 i)]) (fun i=>[]) (fun i=>i≤ws.length) (fun i=>ws.length - i) 0 rfl (fun _=>rfl) rfl ?_ ?_ ?_
 ·exact Nat.zero_le _
 ·repeat' (first|exact trivial|exact rfl|refine ⟨rfl,?_⟩|refine And.intro ?_ ?_)
 intro i hi
 repeat' (first|refine zN ?_|refine zE ?_|refine zP ?_|refine pD ?_|refine zS ?_|refine zR ?_|refine zO ?_|refine zB ?_|refine zX ?_|refine zT ?_|refine skipI rfl ?_)
 refine condI rfl (fun c5=>?_) (fun c5=>?_)
 ·simp only [decide_eq_true_eq] at c5
  have hil:i < ws.length:=by omega
  have hin:((i:Int)).toNat=i:=by omega
  have S:=F.ws i hil
  have V:=valid_order hv i hil
  unfold Pl.WiOk at S
  unfold WiAft at V
  repeat' (first|refine zN ?_|refine zE ?_|refine zP ?_|refine zS ?_|refine zO ?_|refine zB ?_|refine zX ?_|refine zT ?_|refine skipI rfl ?_)
  refine zR ?_
  repeat' (first|with_reducible refine pN ?_|refine pD ?_|refine pC (by omega) ?_)
  repeat with_reducible refine cN ?_
  simp only [hin]
  obtain ⟨x,hx⟩:∃ x:WiT,x=getI ws tWin.dflt i:=⟨_,rfl⟩
  obtain ⟨y,hy⟩:∃ x:WiT,x=getI ws tWin.dflt (i - 1):=⟨_,rfl⟩
  rw [← hx] at S V ⊢
  rw [← hy] at V
  obtain ⟨f,t,l⟩:=x
  obtain ⟨f0,t0,l0⟩:=y
  dsimp only at S V ⊢
  repeat' (first|refine zN ?_|refine zE ?_|refine zP ?_|refine pD ?_|refine zS ?_|refine zR ?_|refine zO ?_|refine zB ?_|refine zX ?_|refine zT ?_|refine skipI rfl ?_)
  refine condI rfl (fun c6=>?_) (fun c6=>?_)
  ·exfalso
   simp only [Bool.or_eq_true,Bool.not_eq_true',decide_eq_true_eq,Pl.withinF,Bool.and_eq_false_iff,decide_eq_false_iff_not] at c6
   omega
  have hin1:((i:Int) - 1).toNat=i - 1:=by omega
  have hy':getI ws tWin.dflt ((i:Int) - 1).toNat=(f0,t0,l0):=by rw [hin1];exact hy.symm
  repeat' (first|refine zN ?_|refine zE ?_|refine zP ?_|refine pD ?_|refine pC (by first|(first|(intros;simp only [decide_eq_true_eq] at *;omega)|(intros;unfold In64;omega))) ?_|refine zS ?_|refine zR ?_|refine zO ?_|refine zB ?_|refine zX ?_|refine zT ?_|refine skipI rfl ?_)
  refine condI rfl (fun c7=>?_) (fun c7=>?_)
  ·exfalso
   simp only [hy',Bool.and_eq_true,Bool.or_eq_true,decide_eq_true_eq] at c7
   obtain ⟨c8,c9⟩:=c7
   have V:=V (by omega)
   omega
  repeat' (first|refine zN ?_|refine zE ?_|refine zP ?_|refine pD ?_|refine zS ?_|refine zR ?_|refine zO ?_|refine zB ?_|refine zX ?_|refine zT ?_|refine skipI rfl ?_)
  refine roundI (i+1) rfl ?_ ?_ ?_
  ·show i+1≤ws.length
   omega
  ·show ws.length - (i+1) < ws.length - i
   omega
  ·repeat' (first|exact trivial|with_reducible exact rfl|refine And.intro ?_ ?_)
   all_goals rfl
 repeat' (first|refine zN ?_|refine zE ?_|refine zP ?_|refine pD ?_|refine zS ?_|refine zR ?_|refine zO ?_|refine zB ?_|refine zX ?_|refine zT ?_|refine skipI rfl ?_)
 refine endR rfl ?_
 repeat' (first|exact trivial|exact rfl|refine ⟨rfl,?_⟩|refine And.intro ?_ ?_)
def rPossS:Spec:=plain fun
 | [.agg [.int .i64 e,.int .i64 a,.int .i64 b,.sl (.pair (.int .i64) (.pair (.int .i64) (.pair (.pair (.int .i64) (.int .i64)) (.pair (.int .i64) (.int .i64))))) xs,.sl (.pair (.int .i64) (.pair (.int .i64) (.int .i64))) ws],
  .agg [.sl (.int .i64) du,.sl (.int .i64) mo,.int .i64 de,.int .i64 tl,.int .i64 fa]]=>outV (Pl.possF e a b xs ws du mo de tl fa=true) (.bool true)
 | _=>none
def sigRP:List (Nat × Spec):=[(135,rWinS),(108,rValidS)]
theorem sigRPOk:SigOk Tryz.prog (look sigRP):=sigCons (sigCons sigNil Tryz.func108 (by kernel_rfl) (c:=body Tryz.f108) rfl rValidOk) Tryz.func135 (by kernel_rfl) (c:=body Tryz.f135) rfl rWinOk
theorem poss_valid {e a b:Int} {xs:List tStage.El} {ws:List tWin.El} {du mo:List Int} {de tl fa:Int} (h:Pl.possF e a b xs ws du mo de tl fa=true):Pl.validF e a b xs ws=true:=by
 unfold Pl.possF at h
 simp only [Bool.and_eq_true] at h
 exact h.1.1.1.1.1
theorem rPossOk:SpecSound Tryz.prog 137 rPossS:=by
 refine soundP (envOf sigRPOk) Tryz.func137 (c:=body Tryz.f137) rfl (by kernel_rfl) rfl ?_
 intro args out hf hpre
 split at hf <;> try (cases hf;done)
 rename_i e a b xs ws du mo de tl fa
 cases hf
 refine ⟨Nat.le_of_ble_eq_true rfl,initI (args:=[.agg [.int .i64 e,.int .i64 a,.int .i64 b,.sl tStage xs,.sl tWin ws],.agg [.sl tInt du,.sl tInt mo,.int .i64 de,.int .i64 tl,.int .i64 fa]]) rfl ?_⟩
 have hp:Pl.possF e a b xs ws du mo de tl fa=true:=hpre
 have hv:=poss_valid hp
 have C:=Pl.poss_facts hp
 have h1:=C.dul
 have h2:=C.mol
 have h3:=C.deb
 have h4:=C.tlb
 have h5:=C.n
 repeat' (first|refine zN ?_|refine zE ?_|refine zP ?_|refine pD ?_|refine pC (by (exact hv)) ?_|refine zS ?_|refine zR ?_|refine zO ?_|refine zB ?_|refine zX ?_|refine zT ?_|refine skipI rfl ?_)
 refine condI rfl (fun c1=>?_) (fun c1=>?_)
 ·exfalso
  simp only [Bool.or_eq_true,Bool.not_eq_true',decide_eq_true_eq,Pl.withinF,Bool.and_eq_false_iff,decide_eq_false_iff_not,reduceCtorEq,false_or] at c1
  omega
 repeat' (first|refine zN ?_|refine zE ?_|refine zP ?_|refine pD ?_|refine zS ?_|refine zR ?_|refine zO ?_|refine zB ?_|refine zX ?_|refine zT ?_|refine skipI rfl ?_)
 refine loopI (σ:=Nat) (fun i=>[(5,.int .i64 i)]) (fun i=>[]) (fun i=>i≤xs.length) (fun i=>xs.length - i) 0 rfl (fun _=>rfl) rfl ?_ ?_ ?_
 ·exact Nat.zero_le _
 ·repeat' (first|exact trivial|exact rfl|refine ⟨rfl,?_⟩|refine And.intro ?_ ?_)
 intro i hi
 repeat' (first|refine zN ?_|refine zE ?_|refine zP ?_|refine pD ?_|refine zS ?_|refine zR ?_|refine zO ?_|refine zB ?_|refine zX ?_|refine zT ?_|refine skipI rfl ?_)
 refine condI rfl (fun c2=>?_) (fun c2=>?_)
 ·simp only [decide_eq_true_eq] at c2
  have hil:i < xs.length:=by omega
  have hin:((i:Int)).toNat=i:=by omega
  have A:=C.at' i hil
  unfold Pl.AtOk at A
  obtain ⟨x,hx⟩:∃ x:StT,x=getI xs tStage.dflt i:=⟨_,rfl⟩
  obtain ⟨dui,hdui⟩:∃ d:Int,d=getI du 0 i:=⟨_,rfl⟩
  obtain ⟨moi,hmoi⟩:∃ d:Int,d=getI mo 0 i:=⟨_,rfl⟩
  rw [← hx,← hdui,← hmoi] at A
  have hx':getI xs tStage.dflt ((i:Int)).toNat=x:=by rw [hin];exact hx.symm
  have hdui':getI du tInt.dflt ((i:Int)).toNat=dui:=by rw [hin];exact hdui.symm
  have hmoi':getI mo tInt.dflt ((i:Int)).toNat=moi:=by rw [hin];exact hmoi.symm
  obtain ⟨mn,mx,⟨mt,ms⟩,st,ss⟩:=x
  repeat' (first|refine zN ?_|refine zE ?_|refine zP ?_|refine pD ?_|refine pC (by first|(first|omega|(intros;omega))) ?_|refine zS ?_|refine zR ?_|refine zO ?_|refine zB ?_|refine zX ?_|refine zT ?_|refine skipI rfl ?_)
  refine condI rfl (fun c3=>?_) (fun c3=>?_)
  ·exfalso
   simp only [hx',hdui',hmoi',Bool.or_eq_true,Bool.not_eq_true',decide_eq_true_eq,Pl.withinF,Bool.and_eq_false_iff,decide_eq_false_iff_not] at c3
   dsimp only at A
   omega
  repeat' (first|refine zN ?_|refine zE ?_|refine zP ?_|refine pD ?_|refine zS ?_|refine zR ?_|refine zO ?_|refine zB ?_|refine zX ?_|refine zT ?_|refine skipI rfl ?_)
  refine roundI (i+1) rfl ?_ ?_ ?_
  ·show i+1≤xs.length
   omega
  ·show xs.length - (i+1) < xs.length - i
   omega
  ·repeat' (first|exact trivial|with_reducible exact rfl|refine And.intro ?_ ?_)
   all_goals rfl
 repeat' (first|refine zN ?_|refine zE ?_|refine zP ?_|refine pD ?_|refine zS ?_|refine zR ?_|refine zO ?_|refine zB ?_|refine zX ?_|refine zT ?_|refine skipI rfl ?_)
 refine endR rfl ?_
 repeat' (first|exact trivial|exact rfl|refine ⟨rfl,?_⟩|refine And.intro ?_ ?_)
 refine Eq.symm ?_
 simp only [Bool.or_eq_true,Bool.and_eq_true,decide_eq_true_eq,Pl.withinF]
 omega
end Go.AM.YtmohhhbgcehnpaaGreat.Re
