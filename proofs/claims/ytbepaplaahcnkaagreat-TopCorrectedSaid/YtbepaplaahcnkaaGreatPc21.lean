/- PlF, ReA. -/
import Derived.Test.YtbepaplaahcnkaaGreatPc20
import Derived.Test.YtbepaplaahcnkaaGreatPc17

set_option linter.all false
section
namespace Go.AM.YtbepaplaahcnkaaGreat.Pl
open Go.Proofs
set_option maxRecDepth 100000
set_option maxHeartbeats 8000000
theorem getI_mem {α:Type} {xs:List α} {d:α} {i:Nat} (h:i < xs.length):getI xs d i∈xs:=by
 simp [getI,List.getD,List.getElem?_eq_getElem h]
def StOk (mn mx mt ms st ss:Int):Prop:=(1≤mn∧mn≤mx∧mx≤10000)∧(0≤mt∧mt≤59∧0≤ms∧ms≤1000000 - mx)∧(0≤st∧st≤59∧0≤ss∧ss≤1000000 - mx)∧mt≠st
def WiOk (n:Nat) (f t l:Int):Prop:=0≤f∧f < t∧t < (n:Int)∧0≤l∧l≤1000000
def EndOk (n:Int):Prop:=0≤n∧n≤2000000
structure Facts (e a b:Int) (xs:List tStage.El) (ws:List tWin.El):Prop where
 e:0≤e∧e≤1000000
 ab:0≤a∧a≤b∧b≤10000
 n:1≤xs.length∧xs.length≤8
 w:ws.length≤20
 st:∀ i,i < xs.length→StOk (getI xs tStage.dflt i).1 (getI xs tStage.dflt i).2.1 (getI xs tStage.dflt i).2.2.1.1 (getI xs tStage.dflt i).2.2.1.2 (getI xs tStage.dflt i).2.2.2.1 (getI xs tStage.dflt i).2.2.2.2
 ws:∀ k,k < ws.length→WiOk xs.length (getI ws tWin.dflt k).1 (getI ws tWin.dflt k).2.1 (getI ws tWin.dflt k).2.2
theorem within_iff {n lo hi:Int}:withinF n lo hi=true↔lo≤n∧n≤hi:=by simp [withinF]
theorem valid_facts {e a b:Int} {xs:List tStage.El} {ws:List tWin.El} (h:validF e a b xs ws=true):Facts e a b xs ws:=by
 unfold validF at h
 simp only [Bool.and_eq_true,within_iff,decide_eq_true_eq,Bool.not_eq_true',List.any_eq_false] at h
 obtain ⟨⟨⟨⟨⟨h1,h2⟩,h3⟩,h4⟩,h5⟩,h6,h7⟩:=h
 refine ⟨h1,⟨h2.1,h2.2,h3⟩,⟨by omega,by omega⟩,by omega,fun i hi=>?_,fun k hk=>?_⟩
 ·have h8:=h6 _ (getI_mem (d:=tStage.dflt) hi)
  unfold badSt isStageF isSlotF at h8
  simp only [Bool.not_eq_true',Bool.not_eq_false,Bool.and_eq_true,within_iff,decide_eq_true_eq] at h8
  obtain ⟨⟨⟨⟨h9,h10⟩,h11,h12⟩,h13,h14⟩,h15⟩:=h8
  exact ⟨⟨h9.1,h9.2,h10⟩,⟨h11.1,h11.2,h12.1,h12.2⟩,⟨h13.1,h13.2,h14.1,h14.2⟩,h15⟩
 ·have hk':k < (duo (-1,0,0) ws).length:=by rw [duo_length];exact hk
  have h8:=h7 _ (getI_mem (d:=((-1,0,0),(-1,0,0))) hk')
  rw [duo_get hk] at h8
  unfold badW winF at h8
  simp only [Bool.not_eq_true',Bool.not_eq_false,Bool.and_eq_true,within_iff,decide_eq_true_eq] at h8
  obtain ⟨⟨⟨⟨_,h9⟩,h10⟩,h11⟩,h12⟩:=h8
  exact ⟨h9,h10,h11,h12.1,h12.2⟩
def AtOk (mn mx a b du mo:Int):Prop:=(mn≤du∧du≤mx)∧a≤mo∧mo≤b
structure Chance (e a b:Int) (xs:List tStage.El) (ws:List tWin.El) (du mo:List Int) (de tl fa:Int):Prop extends Facts e a b xs ws where
 dul:du.length=xs.length
 mol:mo.length=xs.length
 deb:a≤de∧de≤b
 at':∀ i,i < xs.length→AtOk (getI xs tStage.dflt i).1 (getI xs tStage.dflt i).2.1 a b (getI du 0 i) (getI mo 0 i)
 tlb:(tl=-1∧fa=0)∨(0≤tl∧tl≤59∧0≤fa∧fa≤1000000)
theorem poss_facts {e a b:Int} {xs:List tStage.El} {ws:List tWin.El} {du mo:List Int} {de tl fa:Int} (h:possF e a b xs ws du mo de tl fa=true):Chance e a b xs ws du mo de tl fa:=by
 unfold possF at h
 simp only [Bool.and_eq_true,Bool.or_eq_true,within_iff,decide_eq_true_eq] at h
 obtain ⟨⟨⟨⟨⟨h1,h2⟩,h3⟩,h4⟩,h5⟩,h6⟩:=h
 refine ⟨valid_facts h1,h2,h3,h4,fun i hi=>?_,?_⟩
 ·have:=List.all_eq_true.1 h5 i (by simpa using hi)
  unfold fitsAt at this
  unfold AtOk
  simpa only [Bool.and_eq_true,within_iff] using this
 ·rcases h6 with h6|h6
  ·exact .inl h6
  ·exact .inr ⟨h6.1.1,h6.1.2,h6.2.1,h6.2.2⟩
def lateW (i:Nat) (start:Int) (out:List tVisit.El) (w:tWin.El):Bool :=
 decide (w.2.1=(i:Int))&&decide (w.2.2 < start - (getI out tVisit.dflt w.1.toNat).2.2.2)
def reachedAt (xs:List tStage.El) (du mo:List Int) (de tl fa:Int) (i:Nat) (t:Int):(Int × Int) × Bool :=
 reachedF (getI xs tStage.dflt i).2.2.1.1 (getI xs tStage.dflt i).2.2.1.2 (getI xs tStage.dflt i).2.2.2.1 (getI xs tStage.dflt i).2.2.2.2 de tl fa t (getI mo 0 i) (getI du 0 i)
def runG (xs:List tStage.El) (ws:List tWin.El) (du mo:List Int) (de tl fa:Int):Nat→Nat→List tVisit.El→Int→List tVisit.El × Int × Int
 | 0,_,out,_=>(out,0,0)
 | n+1,i,out,t =>
   let r:=reachedAt xs du mo de tl fa i t
   if r.2 then
    let end':=r.1.2+getI du 0 i
    let out':=out++[((i:Int),r.1.1,r.1.2,end')]
    let k:=idxF (lateW i r.1.2 out') ws
    if k < 0 then runG xs ws du mo de tl fa n (i+1) out' end' else (out',2,k)
   else (out,1,(i:Int))
def runF (e a b:Int) (xs:List tStage.El) (ws:List tWin.El) (du mo:List Int) (de tl fa:Int):List tVisit.El × (Int × Int) × Int :=
 if possF e a b xs ws du mo de tl fa then ((runG xs ws du mo de tl fa xs.length 0 [] e).1,(runG xs ws du mo de tl fa xs.length 0 [] e).2,0) else ([],(0,0),80)
def runS:Spec:=plain fun
 | [.agg [.int .i64 e,.int .i64 a,.int .i64 b,.sl (.pair (.int .i64) (.pair (.int .i64) (.pair (.pair (.int .i64) (.int .i64)) (.pair (.int .i64) (.int .i64))))) xs,.sl (.pair (.int .i64) (.pair (.int .i64) (.int .i64))) ws],
    .agg [.sl (.int .i64) du,.sl (.int .i64) mo,.int .i64 de,.int .i64 tl,.int .i64 fa]] =>
   some ⟨xs.length≤1000000000000,.tup [.own 0,.agg [.int .i64 (runF e a b xs ws du mo de tl fa).2.1.1,.int .i64 (runF e a b xs ws du mo de tl fa).2.1.2],.int .i64 (runF e a b xs ws du mo de tl fa).2.2],[.seq tVisit (runF e a b xs ws du mo de tl fa).1],false⟩
 | _=>none
def sigRun:List (Nat × Spec):=[(96,possS),(97,reachedS)]
theorem sigRunOk:SigOk Tryz.prog (look sigRun):=sigCons (sigCons sigNil Tryz.func97 (by kernel_rfl) (c:=body Tryz.f97) rfl reachedOk) Tryz.func96 (by kernel_rfl) (c:=body Tryz.f96) rfl possOk
theorem reachedF_slot {mt ms st ss de tl fa t mv du:Int}:(reachedF mt ms st ss de tl fa t mv du).1=(mt,ms)∨(reachedF mt ms st ss de tl fa t mv du).1=(st,ss):=by
 unfold reachedF
 repeat' split
 all_goals simp
theorem idxOk {n:Nat} {f t l:Int} {i m:Nat} (W:WiOk n f t l) (h:decide (t=(i:Int))=true) (hm:m=i+1):0≤f∧f < (m:Int)∧f.toNat < m:=by
 unfold WiOk at W
 rw [decide_eq_true_eq] at h
 omega
theorem runOk:SpecSound Tryz.prog 30 runS:=by
 refine soundP (envOf sigRunOk) Tryz.func30 (c:=body Tryz.f30) rfl (by kernel_rfl) rfl ?_
 intro args out hf hpre
 split at hf <;> try (cases hf;done)
 rename_i e a b xs ws du mo de tl fa
 cases hf
 refine ⟨Nat.le_of_ble_eq_true rfl,initI (args:=[.agg [.int .i64 e,.int .i64 a,.int .i64 b,.sl tStage xs,.sl tWin ws],.agg [.sl tInt du,.sl tInt mo,.int .i64 de,.int .i64 tl,.int .i64 fa]]) rfl ?_⟩
 change xs.length≤1000000000000 at hpre
 repeat' (first|refine zN ?_|refine zE ?_|refine zP ?_|refine pD ?_|refine pC (by exact hpre) ?_|refine zQ ?_|refine zR ?_|refine zW ?_)
 refine condI rfl (fun c1=>?_) (fun c1=>?_)
 ·rw [Bool.not_eq_true'] at c1
  have hr:runF e a b xs ws du mo de tl fa=([],(0,0),80):=by unfold runF;rw [c1];rfl
  repeat' (first|refine zN ?_|refine zE ?_|refine zP ?_|refine pD ?_|refine zQ ?_|refine zR ?_|refine zW ?_)
  rw [hr]
  refine endR rfl ?_
  repeat' (first|exact trivial|exact rfl|refine ⟨rfl,?_⟩|refine And.intro ?_ ?_)
 ·rw [Bool.not_eq_false'] at c1
  have F:=poss_facts c1
  have hr:runF e a b xs ws du mo de tl fa=((runG xs ws du mo de tl fa xs.length 0 [] e).1,(runG xs ws du mo de tl fa xs.length 0 [] e).2,0):=by unfold runF;rw [c1];rfl
  obtain ⟨tot,htot⟩:∃ tot,tot=runG xs ws du mo de tl fa xs.length 0 [] e:=⟨_,rfl⟩
  rw [← htot] at hr
  have hn:=F.n
  have hab:=F.ab
  have hde:=F.deb
  have hfa:Sm fa:=by unfold Sm;rcases F.tlb with h|h <;> omega
  have hde':Sm de:=by unfold Sm;omega
  repeat' (first|refine zN ?_|refine zE ?_|refine zP ?_|refine pD ?_|refine zQ ?_|refine zR ?_|refine zW ?_)
  refine loopI (σ:=Nat × List tVisit.El × Int) (fun s=>[(7,.own 7000),(9,.int .i64 s.2.2),(26,.int .i64 s.1)]) (fun s=>[(7000,.seq tVisit s.2.1)]) (fun s=>s.1≤xs.length∧s.2.1.length=s.1∧0≤s.2.2∧s.2.2≤2000000∧(∀ j,j < s.2.1.length→EndOk (getI s.2.1 tVisit.dflt j).2.2.2)∧runG xs ws du mo de tl fa (xs.length - s.1) s.1 s.2.1 s.2.2=tot) (fun s=>xs.length - s.1) (0,[],e) rfl (fun _=>rfl) rfl ?_ ?_ ?_
  ·exact ⟨Nat.zero_le _,rfl,F.e.1,(by have:=F.e.2;show e≤2000000;omega),(fun j hj=>by simp at hj),htot.symm⟩
  ·repeat' (first|exact trivial|exact rfl|refine ⟨rfl,?_⟩|refine And.intro ?_ ?_)
  rintro ⟨i,out,t⟩ ⟨hi,hlen,ht1,ht2,hends,hrun⟩
  dsimp only at hi hlen ht1 ht2 hends hrun ⊢
  repeat' (first|refine zN ?_|refine zE ?_|refine zP ?_|refine pD ?_|refine zQ ?_|refine zR ?_|refine zW ?_)
  refine condI rfl (fun c2=>?_) (fun c2=>?_)
  ·simp only [decide_eq_true_eq] at c2
   have hlt:i < xs.length:=by omega
   have hin:((i:Int)).toNat=i:=by omega
   obtain ⟨m,hm⟩:∃ m,xs.length - i=m+1:=⟨xs.length - i - 1,by omega⟩
   have S:=F.st i hlt
   unfold StOk at S
   have A:=F.at' i hlt
   unfold AtOk at A
   have hl1:=F.dul
   have hl2:=F.mol
   have hms:Sm (getI xs tStage.dflt i).2.2.1.2:=by unfold Sm;omega
   have hmv:Sm (getI mo 0 i):=by unfold Sm;omega
   have hdu:Sm (getI du 0 i):=by unfold Sm;omega
   have ht:Sm t:=by unfold Sm;omega
   obtain ⟨r,hrr⟩:∃ r,r=reachedAt xs du mo de tl fa i t:=⟨_,rfl⟩
   have hslot:0≤r.1.2∧r.1.2≤1000000:=by
    rw [hrr]
    rcases reachedF_slot (mt:=(getI xs tStage.dflt i).2.2.1.1) (ms:=(getI xs tStage.dflt i).2.2.1.2) (st:=(getI xs tStage.dflt i).2.2.2.1) (ss:=(getI xs tStage.dflt i).2.2.2.2) (de:=de) (tl:=tl) (fa:=fa) (t:=t) (mv:=getI mo 0 i) (du:=getI du 0 i) with h|h
    ·unfold reachedAt;rw [h];dsimp only;omega
    ·unfold reachedAt;rw [h];dsimp only;omega
   rw [hm,runG] at hrun
   rw [← hrr] at hrun
   dsimp only at hrun
   unfold reachedAt at hrr
   repeat' (first|refine zN ?_|refine zE ?_|refine zP ?_|refine pD ?_|refine pC (by exact ⟨hms,hde',hfa,ht,hmv,hdu⟩) ?_|refine zQ ?_|refine zR ?_|refine zW ?_)
   generalize hq:reachedF _ _ _ _ _ _ _ _ _ _=q
   obtain rfl:q=r:=hq.symm.trans hrr.symm
   refine condI rfl (fun c3=>?_) (fun c3=>?_)
   ·have c3':q.2=false:=by rw [Bool.not_eq_true'] at c3;exact c3
    rw [c3'] at hrun
    simp only [Bool.false_eq_true,if_false] at hrun
    repeat' (first|refine zN ?_|refine zE ?_|refine zP ?_|refine pD ?_|refine zQ ?_|refine zR ?_|refine zW ?_)
    rw [hr,← hrun]
    refine endR rfl ?_
    repeat' (first|exact trivial|exact rfl|refine ⟨rfl,?_⟩|refine And.intro ?_ ?_)
   ·have c3':q.2=true:=by rw [Bool.not_eq_false'] at c3;exact c3
    rw [c3'] at hrun
    simp only [if_true] at hrun
    obtain ⟨out',hout⟩:∃ x,x=out++[((i:Int),q.1.1,q.1.2,q.1.2+getI du 0 i)]:=⟨_,rfl⟩
    rw [← hout] at hrun
    have he1:0≤q.1.2+getI du 0 i∧q.1.2+getI du 0 i≤2000000:=by omega
    have hlen':out'.length=i+1:=by rw [hout,List.length_append,hlen];rfl
    have hends':∀ j,j < out'.length→EndOk (getI out' tVisit.dflt j).2.2.2:=fun j hj=>by
     by_cases hji:j < out.length
     ·have h1:getI out' tVisit.dflt j=getI out tVisit.dflt j:=by rw [hout];simp [getI,List.getD,List.getElem?_append_left hji]
      rw [h1];exact hends j hji
     ·have h1:getI out' tVisit.dflt j=((i:Int),q.1.1,q.1.2,q.1.2+getI du 0 i):=by
       rw [hout];simp [getI,List.getD,List.getElem?_append_right (show out.length≤j by omega),show j - out.length=0 by omega]
      rw [h1];exact he1
    repeat' (first|refine zN ?_|refine zE ?_|refine zP ?_|refine pD ?_|refine pC (by first|(show In64 (q.1.2+getI du 0 i);omega)|(show (out.length+1) * 32≤140737488355328;omega)) ?_|refine zQ ?_|refine zR ?_|refine zW ?_)
    refine loopI (σ:=Nat) (fun k=>[(7,.own 6900),(73,.int .i64 k)]) (fun k=>[(6900,.seq tVisit out')]) (fun k=>k≤ws.length∧∀ j,j < k→lateW i q.1.2 out' (getI ws tWin.dflt j)=false) (fun k=>ws.length - k) 0 rfl (fun _=>rfl) rfl ?_ ?_ ?_
    ·exact ⟨Nat.zero_le _,fun j hj=>by omega⟩
    ·repeat' (first|exact trivial|with_reducible exact rfl|refine And.intro ?_ ?_)
     all_goals first|exact hout|rfl
    rintro k ⟨hk,hb⟩
    repeat' (first|refine zN ?_|refine zE ?_|refine zP ?_|refine pD ?_|refine zQ ?_|refine zR ?_|refine zW ?_)
    refine condI rfl (fun c4=>?_) (fun c4=>?_)
    ·simp only [decide_eq_true_eq] at c4
     have hkl:k < ws.length:=by omega
     have hkn:((k:Int)).toNat=k:=by omega
     have Wk:=F.ws k hkl
     have hw20:=F.w
     have hidx:(getI ws tWin.dflt k).2.1=(i:Int)→0≤(getI ws tWin.dflt k).1∧(getI ws tWin.dflt k).1 < out'.length∧(getI ws tWin.dflt k).1.toNat < out'.length:=fun h5=>idxOk Wk (by rw [decide_eq_true_eq];exact h5) hlen'
     have hdiff:(getI ws tWin.dflt k).2.1=(i:Int)→In64 (q.1.2 - (getI out' tVisit.dflt (getI ws tWin.dflt k).1.toNat).2.2.2):=fun h5=>by
      have:=hends' _ (hidx h5).2.2
      unfold EndOk at this
      unfold In64
      omega
     repeat' (first|refine zN ?_|refine zE ?_|refine zP ?_|refine pD ?_|refine pC (by first|exact fun h=>(hidx (of_decide_eq_true h)).1|exact fun h=>(hidx (of_decide_eq_true h)).2.1|exact fun h=>(hidx (of_decide_eq_true h)).2.2|exact fun h=>hdiff (of_decide_eq_true h)) ?_|refine zQ ?_|refine zR ?_|refine zW ?_)
     refine condI rfl (fun c5=>?_) (fun c5=>?_)
     ·have c5':lateW i q.1.2 out' (getI ws tWin.dflt k)=true:=c5
      have hk2:idxF (lateW i q.1.2 out') ws=(k:Int):=idxF_found (d:=tWin.dflt) hkl hb c5'
      rw [hk2,if_neg (by omega)] at hrun
      repeat' (first|refine zN ?_|refine zE ?_|refine zP ?_|refine pD ?_|refine zQ ?_|refine zR ?_|refine zW ?_)
      rw [hr,← hrun]
      refine endR rfl ?_
      repeat' (first|exact trivial|exact rfl|refine ⟨rfl,?_⟩|refine And.intro ?_ ?_)
     ·have c5':lateW i q.1.2 out' (getI ws tWin.dflt k)=false:=c5
      repeat' (first|refine zN ?_|refine zE ?_|refine zP ?_|refine pD ?_|refine zQ ?_|refine zR ?_|refine zW ?_)
      refine roundI (k+1) rfl ?_ ?_ ?_
      ·refine ⟨by omega,fun j hj=>?_⟩
       by_cases hjk:j=k
       ·subst hjk;exact c5'
       ·exact hb j (by omega)
      ·show ws.length - (k+1) < ws.length - k
       omega
      ·repeat' (first|exact trivial|exact rfl|refine ⟨rfl,?_⟩|refine And.intro ?_ ?_)
    ·simp only [decide_eq_false_iff_not] at c4
     have hnone:idxF (lateW i q.1.2 out') ws=-1:=idxF_none (d:=tWin.dflt) fun j hj=>hb j (by omega)
     rw [hnone] at hrun
     repeat' (first|refine zN ?_|refine zE ?_|refine zP ?_|refine pD ?_|refine zQ ?_|refine zR ?_|refine zW ?_)
     refine roundI (i+1,out',q.1.2+getI du 0 i) rfl ?_ ?_ ?_
     ·refine ⟨by show i+1≤xs.length;omega,hlen',he1.1,he1.2,hends',?_⟩
      show runG xs ws du mo de tl fa (xs.length - (i+1)) (i+1) out' (q.1.2+getI du 0 i)=tot
      rw [show xs.length - (i+1)=m by omega]
      exact hrun
     ·show xs.length - (i+1) < xs.length - i
      omega
     ·repeat' (first|exact trivial|with_reducible exact rfl|refine And.intro ?_ ?_)
      all_goals rfl
  ·simp only [decide_eq_false_iff_not] at c2
   have hie:i=xs.length:=by omega
   subst hie
   rw [Nat.sub_self] at hrun
   have htt:tot=(out,0,0):=hrun.symm
   repeat' (first|refine zN ?_|refine zE ?_|refine zP ?_|refine pD ?_|refine zQ ?_|refine zR ?_|refine zW ?_)
   rw [hr,htt]
   refine endR rfl ?_
   repeat' (first|exact trivial|exact rfl|refine ⟨rfl,?_⟩|refine And.intro ?_ ?_)
end Go.AM.YtbepaplaahcnkaaGreat.Pl
end

section
namespace Go.AM.YtbepaplaahcnkaaGreat.Re
open Go.Proofs
set_option maxRecDepth 100000
set_option maxHeartbeats 4000000
abbrev tStage:Ty:=.pair (.int .i64) (.pair (.int .i64) (.pair (.pair (.int .i64) (.int .i64)) (.pair (.int .i64) (.int .i64))))
abbrev tWin:Ty:=.pair (.int .i64) (.pair (.int .i64) (.int .i64))
abbrev StT:=Int × Int × (Int × Int) × (Int × Int)
abbrev WiT:=Int × Int × Int
def sMin (x:StT):Int:=x.1
def sMax (x:StT):Int:=x.2.1
def mTl (x:StT):Int:=x.2.2.1.1
def mSt (x:StT):Int:=x.2.2.1.2
def sSt (x:StT):Int:=x.2.2.2.2
def needS:Spec:=⟨true,fun args rows=>match args,rows with
 | [.ptr 0 0,.int .i64 o,.int .i64 b],[.box [.nilsl]]=>some ⟨In64 (b - o),.tup [],[.box [.own 1],.seq tInt [b - o]],true⟩
 | [.ptr 0 0,.int .i64 o,.int .i64 b],[.box [.own 1],.seq (.int .i64) xs]=>some ⟨In64 (b - o)∧xs.length≤1000000,.tup [],[.box [.own 2],.dead,.seq tInt (xs++[b - o])],true⟩
 | _,_=>none⟩
theorem needOk:SpecSound Tryz.prog 149 needS:=by
 refine soundR (envOf sigNil) Tryz.func149 (c:=body Tryz.f149) rfl (by kernel_rfl) rfl ?_
 intro args rows out hf hpre
 split at hf <;> try (cases hf;done)
 ·rename_i o b
  cases hf
  change In64 (b - o) at hpre
  refine ⟨Nat.le_of_ble_eq_true rfl,initI (args:=[.ptr 0 0,.int .i64 o,.int .i64 b]) (rows:=[.box [.nilsl]]) rfl ?_⟩
  repeat' (first|refine zN ?_|refine zE ?_|refine zP ?_|refine pD ?_|refine pC (by exact hpre) ?_|refine zQ ?_|refine zR ?_|refine zW ?_)
  refine endN rfl ?_
  repeat' (first|exact trivial|exact rfl|refine ⟨rfl,?_⟩|refine And.intro ?_ ?_)
 ·rename_i o b xs
  cases hf
  obtain ⟨hp1,hp2⟩:=hpre
  refine ⟨Nat.le_of_ble_eq_true rfl,initI (args:=[.ptr 0 0,.int .i64 o,.int .i64 b]) (rows:=[.box [.own 1],.seq tInt xs]) rfl ?_⟩
  repeat' (first|refine zN ?_|refine zE ?_|refine zP ?_|refine pD ?_|refine pC (by first|exact hp1|(simp only [List.length_cons,List.length_nil];omega)) ?_|refine zQ ?_|refine zR ?_|refine zW ?_)
  refine endN rfl ?_
  repeat' (first|exact trivial|exact rfl|refine ⟨rfl,?_⟩|refine And.intro ?_ ?_)
def negB (n:Int):Bool:=decide (n < 0)
def negS:Spec:=plain fun
 | [.int .i64 n]=>outV True (.bool (negB n))
 | _=>none
theorem negOk:SpecSound Tryz.prog 151 negS:=by
 refine soundP (envOf sigNil) Tryz.func151 (c:=body Tryz.f151) rfl (by kernel_rfl) rfl ?_
 intro args out hf hpre
 split at hf <;> try (cases hf;done)
 rename_i n
 cases hf
 refine ⟨Nat.le_of_ble_eq_true rfl,initI (args:=[.int .i64 n]) rfl ?_⟩
 repeat' (first|refine zN ?_|refine zE ?_|refine zP ?_|refine pD ?_|refine zQ ?_|refine zR ?_|refine zW ?_)
 refine endR rfl ?_
 repeat' (first|exact trivial|exact rfl|refine ⟨rfl,?_⟩|refine And.intro ?_ ?_)
def sigNeg:List (Nat × Spec):=[(151,negS)]
theorem sigNegOk:SigOk Tryz.prog (look sigNeg):=sigCons sigNil Tryz.func151 (by kernel_rfl) (c:=body Tryz.f151) rfl negOk
def idxNegS:Spec:=plain fun
 | [.sl (.int .i64) xs,.fn 151 [] []]=>outV (xs.length≤1000000000000) (.int .i64 (idxF negB xs))
 | _=>none
theorem idxNegOk:SpecSound Tryz.prog 182 idxNegS:=by
 refine soundP (envOf sigNegOk) Tryz.func182 (c:=body Tryz.f182) rfl (by kernel_rfl) rfl ?_
 intro args out hf hpre
 split at hf <;> try (cases hf;done)
 rename_i xs
 cases hf
 refine ⟨Nat.le_of_ble_eq_true rfl,initI (args:=[.sl tInt xs,.fn 151 [] []]) rfl ?_⟩
 change xs.length≤1000000000000 at hpre
 repeat' (first|refine zN ?_|refine zE ?_|refine zP ?_|refine pD ?_|refine zQ ?_|refine zR ?_|refine zW ?_)
 refine loopI (σ:=Nat) (fun i=>[(8,.int .i64 i)]) (fun i=>[]) (fun i=>i≤xs.length∧∀ j,j < i→negB (getI xs 0 j)=false) (fun i=>xs.length - i) 0 rfl (fun _=>rfl) rfl ?_ ?_ ?_
 ·exact ⟨Nat.zero_le _,fun j hj=>by omega⟩
 ·repeat' (first|exact trivial|exact rfl|refine ⟨rfl,?_⟩|refine And.intro ?_ ?_)
 rintro i ⟨hi,hb⟩
 repeat' (first|refine zN ?_|refine zE ?_|refine zP ?_|refine pD ?_|refine zQ ?_|refine zR ?_|refine zW ?_)
 refine condI rfl (fun c1=>?_) (fun c1=>?_)
 ·simp only [decide_eq_true_eq] at c1
  have hil:i < xs.length:=by omega
  repeat' (first|refine zN ?_|refine zE ?_|refine zP ?_|refine pD ?_|refine zQ ?_|refine zR ?_|refine zW ?_)
  refine condI rfl (fun c2=>?_) (fun c2=>?_)
  ·repeat' (first|refine zN ?_|refine zE ?_|refine zP ?_|refine pD ?_|refine zQ ?_|refine zR ?_|refine zW ?_)
   refine endR rfl ?_
   repeat' (first|exact trivial|exact rfl|refine ⟨rfl,?_⟩|refine And.intro ?_ ?_)
   exact idxF_found (d:=0) hil hb c2
  ·repeat' (first|refine zN ?_|refine zE ?_|refine zP ?_|refine pD ?_|refine zQ ?_|refine zR ?_|refine zW ?_)
   refine roundI (i+1) rfl ?_ ?_ ?_
   ·refine ⟨by show i+1≤xs.length;omega,fun j hj=>?_⟩
    by_cases hji:j=i
    ·subst hji;exact c2
    ·exact hb j (by omega)
   ·show xs.length - (i+1) < xs.length - i
    omega
   ·repeat' (first|exact trivial|with_reducible exact rfl|refine And.intro ?_ ?_)
    all_goals rfl
 ·simp only [decide_eq_false_iff_not] at c1
  repeat' (first|refine zN ?_|refine zE ?_|refine zP ?_|refine pD ?_|refine zQ ?_|refine zR ?_|refine zW ?_)
  refine endR rfl ?_
  repeat' (first|exact trivial|exact rfl|refine ⟨rfl,?_⟩|refine And.intro ?_ ?_)
  exact idxF_none (d:=0) fun j hj=>hb j (by omega)
def sigIdxNeg:List (Nat × Spec):=[(182,idxNegS)]
theorem sigIdxNegOk:SigOk Tryz.prog (look sigIdxNeg):=sigCons sigNil Tryz.func182 (by kernel_rfl) (c:=body Tryz.f182) rfl idxNegOk
def anyNegS:Spec:=plain fun
 | [.sl (.int .i64) xs,.fn 151 [] []]=>outV (xs.length≤1000000000000) (.bool (xs.any negB))
 | _=>none
theorem anyNegOk:SpecSound Tryz.prog 150 anyNegS:=by
 refine soundP (envOf sigIdxNegOk) Tryz.func150 (c:=body Tryz.f150) rfl (by kernel_rfl) rfl ?_
 intro args out hf hpre
 split at hf <;> try (cases hf;done)
 rename_i xs
 cases hf
 refine ⟨Nat.le_of_ble_eq_true rfl,initI (args:=[.sl tInt xs,.fn 151 [] []]) rfl ?_⟩
 change xs.length≤1000000000000 at hpre
 repeat' (first|refine zN ?_|refine zE ?_|refine zP ?_|refine pD ?_|refine pC (by exact hpre) ?_|refine zQ ?_|refine zR ?_|refine zW ?_)
 refine endR rfl ?_
 repeat' (first|exact trivial|exact rfl|refine ⟨rfl,?_⟩|refine And.intro ?_ ?_)
 exact idxF_any.symm
def sigAnyNeg:List (Nat × Spec):=[(150,anyNegS)]
theorem sigAnyNegOk:SigOk Tryz.prog (look sigAnyNeg):=sigCons sigNil Tryz.func150 (by kernel_rfl) (c:=body Tryz.f150) rfl anyNegOk
def missS:Spec:=plain fun
 | [.sl (.int .i64) xs]=>outV (xs.length≤1000000000000) (.bool (xs.any negB))
 | _=>none
theorem missOk:SpecSound Tryz.prog 84 missS:=by
 refine soundP (envOf sigAnyNegOk) Tryz.func84 (c:=body Tryz.f84) rfl (by kernel_rfl) rfl ?_
 intro args out hf hpre
 split at hf <;> try (cases hf;done)
 rename_i xs
 cases hf
 refine ⟨Nat.le_of_ble_eq_true rfl,initI (args:=[.sl tInt xs]) rfl ?_⟩
 change xs.length≤1000000000000 at hpre
 repeat' (first|refine zN ?_|refine zE ?_|refine zP ?_|refine pD ?_|refine pC (by exact hpre) ?_|refine zQ ?_|refine zR ?_|refine zW ?_)
 refine endR rfl ?_
 repeat' (first|exact trivial|exact rfl|refine ⟨rfl,?_⟩|refine And.intro ?_ ?_)
def slotsG (b:Int):List StT→List Int
 | []=>[]
 | [x]=>[sSt x - (mSt x+sMax x - 1+b)]
 | x::y::r=>[sSt x - (mSt x+sMax x - 1+b),mSt y - (mSt x+sMax x+b),(if mTl y=mTl x then sSt y else mSt y) - (sSt x+sMax x+b)]++slotsG b (y::r)
def slotsF (e b:Int) (xs:List StT):List Int:=(mSt (getI xs tStage.dflt 0) - (e+b))::slotsG b xs
def winM (xs:List StT) (w:WiT):Int:=mSt (getI xs tStage.dflt w.1.toNat)+sMin (getI xs tStage.dflt w.1.toNat)+w.2.2 - sSt (getI xs tStage.dflt w.2.1.toNat)
def windowsF (xs:List StT) (ws:List WiT):List Int:=ws.map (winM xs)
theorem slotsG_len {b:Int}:∀ {xs:List StT},(slotsG b xs).length≤3 * xs.length
 | []=>by simp [slotsG]
 | [x]=>by simp [slotsG]
 | x::y::r=>by
   have:=slotsG_len (b:=b) (xs:=y::r)
   simp only [slotsG,List.length_append,List.length_cons,List.length_nil] at *
   omega
def sigM:List (Nat × Spec):=[(149,needS)]
theorem sigMOk:SigOk Tryz.prog (look sigM):=sigCons sigNil Tryz.func149 (by kernel_rfl) (c:=body Tryz.f149) rfl needOk
theorem drop_getI {α:Type} {d:α} {l:List α} {i:Nat} (h:i < l.length):l.drop i=getI l d i::l.drop (i+1):=by
 rw [List.drop_eq_getElem_cons h]
 congr 1
 simp [getI,List.getD,List.getElem?_eq_getElem h]
def StSm (mn mx ms ss:Int):Prop:=(0≤mn∧mn≤1000000)∧(0≤mx∧mx≤1000000)∧(0≤ms∧ms≤2000000)∧0≤ss∧ss≤2000000
def SlotsP (e b:Int) (xs:List tStage.El):Prop:=(0≤e∧e≤1000000)∧(0≤b∧b≤1000000)∧(1≤xs.length∧xs.length≤1000)∧∀ x∈xs,StSm x.1 x.2.1 x.2.2.1.2 x.2.2.2.2
def slotsS:Spec:=plain fun
 | [.agg [.int .i64 e,.int .i64 a,.int .i64 b,.sl (.pair (.int .i64) (.pair (.int .i64) (.pair (.pair (.int .i64) (.int .i64)) (.pair (.int .i64) (.int .i64))))) xs,.sl (.pair (.int .i64) (.pair (.int .i64) (.int .i64))) ws]] =>
   some ⟨SlotsP e b xs,.own 0,[.seq tInt (slotsF e b xs)],false⟩
 | _=>none
theorem slotsG_cons {b:Int} {x y:StT} {r:List StT}:slotsG b (x::y::r)=[sSt x - (mSt x+sMax x - 1+b),mSt y - (mSt x+sMax x+b),(if mTl y=mTl x then sSt y else mSt y) - (sSt x+sMax x+b)]++slotsG b (y::r):=rfl
theorem slotsOk:SpecSound Tryz.prog 83 slotsS:=by
 refine soundP (envOf sigMOk) Tryz.func83 (c:=body Tryz.f83) rfl (by kernel_rfl) rfl ?_
 intro args out hf hpre
 split at hf <;> try (cases hf;done)
 rename_i e a b xs ws
 cases hf
 refine ⟨Nat.le_of_ble_eq_true rfl,initI (args:=[.agg [.int .i64 e,.int .i64 a,.int .i64 b,.sl tStage xs,.sl tWin ws]]) rfl ?_⟩
 obtain ⟨he,hb,hn,hsm⟩:=hpre
 have hn0:0 < xs.length:=hn.1
 have hS:∀ i,i < xs.length→StSm (getI xs tStage.dflt i).1 (getI xs tStage.dflt i).2.1 (getI xs tStage.dflt i).2.2.1.2 (getI xs tStage.dflt i).2.2.2.2:=fun i hi=>hsm _ (Pl.getI_mem hi)
 have hS0:=hS 0 hn0
 unfold StSm at hS0
 repeat' (first|refine zN ?_|refine zE ?_|refine zP ?_|refine pD ?_|refine pC (by (show In64 _;simp only [Int.toNat_zero];unfold In64;omega)) ?_|refine zQ ?_|refine zR ?_|refine zW ?_)
 refine loopI (σ:=Nat × List Int) (fun s=>[(22,.int .i64 s.1)]) (fun s=>[(2,.box [.own 3000]),(3000,.seq tInt s.2)]) (fun s=>s.1 < xs.length∧s.2.length≤3 * s.1+1∧s.2++slotsG b (xs.drop s.1)=slotsF e b xs) (fun s=>xs.length - s.1) (0,[mSt (getI xs tStage.dflt 0) - (e+b)]) rfl (fun _=>rfl) rfl ?_ ?_ ?_
 ·exact ⟨hn0,by simp,rfl⟩
 ·repeat' (first|exact trivial|exact rfl|refine ⟨rfl,?_⟩|refine And.intro ?_ ?_)
 rintro ⟨i,acc⟩ ⟨hi,hl,hinv⟩
 dsimp only at hi hl hinv ⊢
 have hSi:=hS i hi
 unfold StSm at hSi
 repeat' (first|refine zN ?_|refine zE ?_|refine zP ?_|refine pD ?_|refine zQ ?_|refine zR ?_|refine zW ?_)
 refine condI rfl (fun c1=>?_) (fun c1=>?_)
 ·have hin:((i:Int)).toNat=i:=by omega
  repeat' (first|refine zN ?_|refine zE ?_|refine zP ?_|refine zQ ?_|refine zW ?_)
  refine zR ?_
  repeat' (first|with_reducible refine pN ?_|refine pD ?_|refine pC (by (show In64 _∧_;refine ⟨?_,?_⟩;(unfold In64;omega);(show acc.length≤_;omega))) ?_)
  repeat with_reducible refine cN ?_
  repeat' (first|refine zN ?_|refine zE ?_|refine zP ?_|refine zQ ?_|refine zW ?_)
  refine zR ?_
  repeat' (first|with_reducible refine pN ?_|refine pD ?_|refine pC (by (show In64 _∧_;refine ⟨?_,?_⟩;(unfold In64;omega);(show acc.length≤_;omega))) ?_)
  repeat with_reducible refine cN ?_
  repeat' (first|refine zN ?_|refine zE ?_|refine zP ?_|refine zQ ?_|refine zW ?_)
  refine zR ?_
  repeat' (first|with_reducible refine pN ?_|refine pD ?_|refine pC (by (show In64 _∧_;refine ⟨?_,?_⟩;(unfold In64;omega);(show acc.length≤_;omega))) ?_)
  repeat with_reducible refine cN ?_
  refine condI rfl (fun c2=>?_) (fun c2=>?_)
  ·simp only [decide_eq_true_eq] at c2
   have hlen:i+1=xs.length:=by omega
   repeat' (first|refine zN ?_|refine zE ?_|refine zP ?_|refine pD ?_|refine zQ ?_|refine zR ?_|refine zW ?_)
   refine endR rfl ?_
   repeat' (first|exact trivial|exact rfl|refine ⟨rfl,?_⟩|refine And.intro ?_ ?_)
   rw [hin,← hinv,drop_getI (d:=tStage.dflt) hi,List.drop_eq_nil_of_le (by omega)]
   rfl
  ·simp only [decide_eq_false_iff_not] at c2
   have hi1:i+1 < xs.length:=by omega
   have hin1:((i:Int)+1).toNat=i+1:=by omega
   have hSj:=hS (i+1) hi1
   unfold StSm at hSj
   have hgo:slotsG b (xs.drop i)=[sSt (getI xs tStage.dflt i) - (mSt (getI xs tStage.dflt i)+sMax (getI xs tStage.dflt i) - 1+b),mSt (getI xs tStage.dflt (i+1)) - (mSt (getI xs tStage.dflt i)+sMax (getI xs tStage.dflt i)+b),(if mTl (getI xs tStage.dflt (i+1))=mTl (getI xs tStage.dflt i) then sSt (getI xs tStage.dflt (i+1)) else mSt (getI xs tStage.dflt (i+1))) - (sSt (getI xs tStage.dflt i)+sMax (getI xs tStage.dflt i)+b)]++slotsG b (xs.drop (i+1)):=by
    rw [drop_getI (d:=tStage.dflt) hi,drop_getI (d:=tStage.dflt) hi1]
    exact slotsG_cons
   repeat' (first|refine zN ?_|refine zE ?_|refine zP ?_|refine zQ ?_|refine zW ?_)
   refine zR ?_
   repeat' (first|with_reducible refine pN ?_|refine pD ?_|refine pC (by (show In64 _∧_;refine ⟨?_,?_⟩;(simp only [hin,hin1];unfold In64;omega);(simp only [List.length_append,List.length_cons,List.length_nil];omega))) ?_)
   repeat with_reducible refine cN ?_
   repeat' (first|refine zN ?_|refine zE ?_|refine zP ?_|refine zQ ?_|refine zW ?_)
   refine zR ?_
   repeat' (first|with_reducible refine pN ?_|refine pD ?_|refine pC (by (show In64 _∧_;refine ⟨?_,?_⟩;(simp only [hin,hin1];unfold In64;omega);(simp only [List.length_append,List.length_cons,List.length_nil];omega))) ?_)
   repeat with_reducible refine cN ?_
   repeat' (first|refine zN ?_|refine zE ?_|refine zP ?_|refine zQ ?_|refine zW ?_)
   refine zR ?_
   repeat' (first|with_reducible refine pN ?_|refine pD ?_|refine pC (by (show In64 _∧_;refine ⟨?_,?_⟩;(simp only [hin,hin1];unfold In64;omega);(simp only [List.length_append,List.length_cons,List.length_nil];omega))) ?_)
   repeat with_reducible refine cN ?_
   repeat' (first|refine zN ?_|refine zE ?_|refine zP ?_|refine zQ ?_|refine zW ?_)
   refine zR ?_
   repeat' (first|with_reducible refine pN ?_|refine pD ?_|refine pC (by (show In64 _∧_;refine ⟨?_,?_⟩;(simp only [hin,hin1];unfold In64;omega);(simp only [List.length_append,List.length_cons,List.length_nil];omega))) ?_)
   repeat with_reducible refine cN ?_
   refine condI rfl (fun c3=>?_) (fun c3=>?_)
   ·have c3':mTl (getI xs tStage.dflt (i+1))=mTl (getI xs tStage.dflt i):=by
     simp only [decide_eq_true_eq,hin,hin1] at c3
     exact c3
    rw [if_pos c3'] at hgo
    repeat' (first|refine zN ?_|refine zE ?_|refine zP ?_|refine pD ?_|refine pC (by (show In64 _∧_;refine ⟨?_,?_⟩;(simp only [hin,hin1];unfold In64;omega);(simp only [List.length_append,List.length_cons,List.length_nil];omega))) ?_|refine zQ ?_|refine zR ?_|refine zW ?_)
    refine roundI (i+1,acc++[sSt (getI xs tStage.dflt i) - (mSt (getI xs tStage.dflt i)+sMax (getI xs tStage.dflt i) - 1+b),mSt (getI xs tStage.dflt (i+1)) - (mSt (getI xs tStage.dflt i)+sMax (getI xs tStage.dflt i)+b),sSt (getI xs tStage.dflt (i+1)) - (sSt (getI xs tStage.dflt i)+sMax (getI xs tStage.dflt i)+b)]) rfl ?_ ?_ ?_
    ·refine ⟨hi1,by simp only [List.length_append,List.length_cons,List.length_nil];omega,?_⟩
     rw [hgo,← List.append_assoc] at hinv
     exact hinv
    ·show xs.length - (i+1) < xs.length - i
     omega
    ·repeat' (first|exact trivial|with_reducible exact rfl|refine And.intro ?_ ?_)
     all_goals (simp only [hin,hin1,List.append_assoc];rfl)
   ·have c3':¬ mTl (getI xs tStage.dflt (i+1))=mTl (getI xs tStage.dflt i):=by
     simp only [decide_eq_false_iff_not,hin,hin1] at c3
     exact c3
    rw [if_neg c3'] at hgo
    repeat' (first|refine zN ?_|refine zE ?_|refine zP ?_|refine pD ?_|refine pC (by (show In64 _∧_;refine ⟨?_,?_⟩;(simp only [hin,hin1];unfold In64;omega);(simp only [List.length_append,List.length_cons,List.length_nil];omega))) ?_|refine zQ ?_|refine zR ?_|refine zW ?_)
    refine roundI (i+1,acc++[sSt (getI xs tStage.dflt i) - (mSt (getI xs tStage.dflt i)+sMax (getI xs tStage.dflt i) - 1+b),mSt (getI xs tStage.dflt (i+1)) - (mSt (getI xs tStage.dflt i)+sMax (getI xs tStage.dflt i)+b),mSt (getI xs tStage.dflt (i+1)) - (sSt (getI xs tStage.dflt i)+sMax (getI xs tStage.dflt i)+b)]) rfl ?_ ?_ ?_
    ·refine ⟨hi1,by simp only [List.length_append,List.length_cons,List.length_nil];omega,?_⟩
     rw [hgo,← List.append_assoc] at hinv
     exact hinv
    ·show xs.length - (i+1) < xs.length - i
     omega
    ·repeat' (first|exact trivial|with_reducible exact rfl|refine And.intro ?_ ?_)
     all_goals (simp only [hin,hin1,List.append_assoc];rfl)
 ·simp only [decide_eq_false_iff_not] at c1
  omega
def WiSm (n:Nat) (f t l:Int):Prop:=0≤f∧f < (n:Int)∧0≤t∧t < (n:Int)∧0≤l∧l≤1000000
def WinP (xs:List tStage.El) (ws:List tWin.El):Prop:=ws.length≤1000∧(∀ x∈xs,StSm x.1 x.2.1 x.2.2.1.2 x.2.2.2.2)∧∀ w∈ws,WiSm xs.length w.1 w.2.1 w.2.2
def windowsS:Spec:=plain fun
 | [.agg [.int .i64 e,.int .i64 a,.int .i64 b,.sl (.pair (.int .i64) (.pair (.int .i64) (.pair (.pair (.int .i64) (.int .i64)) (.pair (.int .i64) (.int .i64))))) xs,.sl (.pair (.int .i64) (.pair (.int .i64) (.int .i64))) ws]] =>
   some ⟨WinP xs ws,.own 0,[.seq tInt (windowsF xs ws)],false⟩
 | _=>none
theorem take_getI {α:Type} {d:α} {l:List α} {i:Nat} (h:i < l.length):l.take (i+1)=l.take i++[getI l d i]:=by
 rw [List.take_succ_eq_append_getElem h]
 simp [getI,List.getD,List.getElem?_eq_getElem h]
theorem windowsOk:SpecSound Tryz.prog 85 windowsS:=by
 refine soundP (envOf sigMOk) Tryz.func85 (c:=body Tryz.f85) rfl (by kernel_rfl) rfl ?_
 intro args out hf hpre
 split at hf <;> try (cases hf;done)
 rename_i e a b xs ws
 cases hf
 refine ⟨Nat.le_of_ble_eq_true rfl,initI (args:=[.agg [.int .i64 e,.int .i64 a,.int .i64 b,.sl tStage xs,.sl tWin ws]]) rfl ?_⟩
 obtain ⟨hl,hsm,hws⟩:=hpre
 have hS:∀ i,i < xs.length→StSm (getI xs tStage.dflt i).1 (getI xs tStage.dflt i).2.1 (getI xs tStage.dflt i).2.2.1.2 (getI xs tStage.dflt i).2.2.2.2:=fun i hi=>hsm _ (Pl.getI_mem hi)
 have hW:∀ i,i < ws.length→WiSm xs.length (getI ws tWin.dflt i).1 (getI ws tWin.dflt i).2.1 (getI ws tWin.dflt i).2.2:=fun i hi=>hws _ (Pl.getI_mem hi)
 repeat' (first|refine zN ?_|refine zE ?_|refine zP ?_|refine pD ?_|refine zQ ?_|refine zR ?_|refine zW ?_)
 refine loopI (σ:=Nat) (fun i=>[(9,.int .i64 i)]) (fun i=>[(2,.box [.own 3000]),(3000,.seq tInt (windowsF xs (ws.take i)))]) (fun i=>i≤ws.length) (fun i=>ws.length - i) 0 rfl (fun _=>rfl) rfl ?_ ?_ ?_
 ·exact Nat.zero_le _
 ·repeat' (first|exact trivial|exact rfl|refine ⟨rfl,?_⟩|refine And.intro ?_ ?_)
 intro i hi
 repeat' (first|refine zN ?_|refine zE ?_|refine zP ?_|refine pD ?_|refine zQ ?_|refine zR ?_|refine zW ?_)
 refine condI rfl (fun c1=>?_) (fun c1=>?_)
 ·simp only [decide_eq_true_eq] at c1
  have hil:i < ws.length:=by omega
  have hin:((i:Int)).toNat=i:=by omega
  have hWi:=hW i hil
  have hlt:(windowsF xs (ws.take i)).length=i:=by unfold windowsF;rw [List.length_map,List.length_take];omega
  unfold WiSm at hWi
  have hf1:=hS (getI ws tWin.dflt i).1.toNat (by omega)
  have hf2:=hS (getI ws tWin.dflt i).2.1.toNat (by omega)
  unfold StSm at hf1 hf2
  repeat' (first|refine zN ?_|refine zE ?_|refine zP ?_|refine pD ?_|refine pC (by first|(simp only [hin];omega)|(show In64 _∧_;refine ⟨?_,?_⟩;(simp only [hin];unfold In64;omega);(rw [hlt];omega))) ?_|refine zQ ?_|refine zR ?_|refine zW ?_)
  refine roundI (i+1) rfl ?_ ?_ ?_
  ·show i+1≤ws.length
   omega
  ·show ws.length - (i+1) < ws.length - i
   omega
  ·repeat' (first|exact trivial|with_reducible exact rfl|refine And.intro ?_ ?_)
   all_goals (first|rfl|(unfold windowsF;rw [take_getI (d:=tWin.dflt) hil,List.map_append];simp only [hin];rfl)|(unfold windowsF;rw [take_getI (d:=tWin.dflt) hil,List.map_append];rfl))
 ·simp only [decide_eq_false_iff_not] at c1
  repeat' (first|refine zN ?_|refine zE ?_|refine zP ?_|refine pD ?_|refine zQ ?_|refine zR ?_|refine zW ?_)
  refine endR rfl ?_
  repeat' (first|exact trivial|exact rfl|refine ⟨rfl,?_⟩|refine And.intro ?_ ?_)
  rw [List.take_of_length_le (by omega)]
def safeF (e a b:Int) (xs:List tStage.El) (ws:List tWin.El):Bool:=Pl.validF e a b xs ws&&!(slotsF e b xs).any negB&&!(windowsF xs ws).any negB
def sigSafe:List (Nat × Spec):=[(28,Pl.validS),(83,slotsS),(85,windowsS),(84,missS)]
theorem sigSafeOk:SigOk Tryz.prog (look sigSafe):=sigCons (sigCons (sigCons (sigCons sigNil
 Tryz.func84 (by kernel_rfl) (c:=body Tryz.f84) rfl missOk)
 Tryz.func85 (by kernel_rfl) (c:=body Tryz.f85) rfl windowsOk)
 Tryz.func83 (by kernel_rfl) (c:=body Tryz.f83) rfl slotsOk)
 Tryz.func28 (by kernel_rfl) (c:=body Tryz.f28) rfl Pl.validOk
def isSafeS:Spec:=plain fun
 | [.agg [.int .i64 e,.int .i64 a,.int .i64 b,.sl (.pair (.int .i64) (.pair (.int .i64) (.pair (.pair (.int .i64) (.int .i64)) (.pair (.int .i64) (.int .i64))))) xs,.sl (.pair (.int .i64) (.pair (.int .i64) (.int .i64))) ws]] =>
   outV True (.bool (safeF e a b xs ws))
 | _=>none
theorem facts_slots {e a b:Int} {xs:List tStage.El} {ws:List tWin.El} (F:Pl.Facts e a b xs ws):SlotsP e b xs∧WinP xs ws:=by
 have hsm:∀ x∈xs,StSm x.1 x.2.1 x.2.2.1.2 x.2.2.2.2:=fun x hx=>by
  obtain ⟨i,hi,rfl⟩:=List.getElem_of_mem hx
  have:=F.st i hi
  have e:getI xs tStage.dflt i=xs[i]:=by simp [getI,List.getD,List.getElem?_eq_getElem hi]
  rw [e] at this
  unfold Pl.StOk at this
  unfold StSm
  omega
 have h1:=F.e
 have h2:=F.ab
 have h3:=F.n
 refine ⟨⟨h1,by omega,by omega,hsm⟩,by have:=F.w;omega,hsm,fun w hw=>?_⟩
 obtain ⟨i,hi,rfl⟩:=List.getElem_of_mem hw
 have:=F.ws i hi
 have e:getI ws tWin.dflt i=ws[i]:=by simp [getI,List.getD,List.getElem?_eq_getElem hi]
 rw [e] at this
 unfold Pl.WiOk at this
 unfold WiSm
 omega
theorem isSafeOk:SpecSound Tryz.prog 27 isSafeS:=by
 refine soundP (envOf sigSafeOk) Tryz.func27 (c:=body Tryz.f27) rfl (by kernel_rfl) rfl ?_
 intro args out hf hpre
 split at hf <;> try (cases hf;done)
 rename_i e a b xs ws
 cases hf
 refine ⟨Nat.le_of_ble_eq_true rfl,initI (args:=[.agg [.int .i64 e,.int .i64 a,.int .i64 b,.sl tStage xs,.sl tWin ws]]) rfl ?_⟩
 refine zS ?_
 refine zR ?_
 repeat' (first|with_reducible refine pN ?_|refine pD ?_|fail)
 with_reducible refine cN ?_
 cases hv:Pl.validF e a b xs ws with
 | false =>
   refine zS ?_
   refine regH [(5,false),(11,false)] rfl ?_
   repeat' (first|with_reducible refine pN ?_|refine pC (by first|exact hv|rfl|trivial) ?_)
   repeat' (first|refine zN ?_|refine zE ?_|refine zP ?_|refine pD ?_|refine zQ ?_|refine zR ?_|refine zW ?_)
   refine endR rfl ?_
   repeat' (first|exact trivial|exact rfl|refine ⟨rfl,?_⟩|refine And.intro ?_ ?_)
   unfold safeF
   rw [hv]
   rfl
 | true =>
   have F:=Pl.valid_facts hv
   obtain ⟨h1,h2⟩:=facts_slots F
   have hl1:(slotsF e b xs).length≤1000000000000:=by
    have:=slotsG_len (b:=b) (xs:=xs)
    have h3:=h1.2.2.1.2
    show (slotsG b xs).length+1≤_
    omega
   have hl2:(windowsF xs ws).length≤1000000000000:=by
    have:=h2.1
    unfold windowsF
    rw [List.length_map]
    omega
   cases hm:(slotsF e b xs).any negB with
   | true =>
     refine zS ?_
     refine regH [(5,true),(11,false)] rfl ?_
     repeat' (first|with_reducible refine pN ?_|refine pC (by first|exact hv|exact h1|exact hl1|(rw [hm];rfl)|rfl|trivial) ?_)
     repeat' (first|refine zN ?_|refine zE ?_|refine zP ?_|refine pD ?_|refine zQ ?_|refine zR ?_|refine zW ?_)
     refine endR rfl ?_
     repeat' (first|exact trivial|exact rfl|refine ⟨rfl,?_⟩|refine And.intro ?_ ?_)
     unfold safeF
     rw [hv,hm]
     rfl
   | false =>
     refine zS ?_
     refine regH [(5,true),(11,true)] rfl ?_
     repeat' (first|with_reducible refine pN ?_|refine pC (by first|exact hv|exact h1|exact h2|exact hl1|exact hl2|(rw [hm];rfl)|rfl|trivial) ?_)
     repeat' (first|refine zN ?_|refine zE ?_|refine zP ?_|refine pD ?_|refine zQ ?_|refine zR ?_|refine zW ?_)
     refine endR rfl ?_
     repeat' (first|exact trivial|exact rfl|refine ⟨rfl,?_⟩|refine And.intro ?_ ?_)
     unfold safeF
     rw [hv,hm]
     rfl
end Go.AM.YtbepaplaahcnkaaGreat.Re
end
