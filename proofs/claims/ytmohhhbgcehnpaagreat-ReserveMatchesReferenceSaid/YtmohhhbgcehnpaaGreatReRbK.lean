/- The reference's Run, of possible scenarios. -/
import Derived.Test.YtmohhhbgcehnpaaGreatReRaK
set_option linter.all false
namespace Go.AM.YtmohhhbgcehnpaaGreat.Re
open Go.Proofs
open Go.AM.YtmohhhbgcehnpaaGreat.Pl (runG reachedAt reachedF lateW StOk AtOk WiOk EndOk tVisit getI_mem late_eq reachedF_slot)
set_option maxRecDepth 100000
set_option maxHeartbeats 8000000
def rRunS:Spec:=plain fun
 | [.agg [.int .i64 e,.int .i64 a,.int .i64 b,.sl (.pair (.int .i64) (.pair (.int .i64) (.pair (.pair (.int .i64) (.int .i64)) (.pair (.int .i64) (.int .i64))))) xs,.sl (.pair (.int .i64) (.pair (.int .i64) (.int .i64))) ws],
    .agg [.sl (.int .i64) du,.sl (.int .i64) mo,.int .i64 de,.int .i64 tl,.int .i64 fa]] =>
   some ⟨Pl.possF e a b xs ws du mo de tl fa=true,.tup [.own 0,.agg [.int .i64 (runG xs ws du mo de tl fa xs.length 0 [] e).2.1,.int .i64 (runG xs ws du mo de tl fa xs.length 0 [] e).2.2],.int .i64 0],[.seq tVisit (runG xs ws du mo de tl fa xs.length 0 [] e).1],false⟩
 | _=>none
def sigRR:List (Nat × Spec):=[(137,rPossS)]
theorem sigRROk:SigOk Tryz.prog (look sigRR):=sigCons sigNil Tryz.func137 (by kernel_rfl) (c:=body Tryz.f137) rfl rPossOk
theorem rRunOk:SpecSound Tryz.prog 110 rRunS:=by
 refine soundP (envOf sigRROk) Tryz.func110 (c:=body Tryz.f110) rfl (by kernel_rfl) rfl ?_
 intro args out hf hpre
 split at hf <;> try (cases hf;done)
 rename_i e a b xs ws du mo de tl fa
 cases hf
 refine ⟨Nat.le_of_ble_eq_true rfl,initI (args:=[.agg [.int .i64 e,.int .i64 a,.int .i64 b,.sl tStage xs,.sl tWin ws],.agg [.sl tInt du,.sl tInt mo,.int .i64 de,.int .i64 tl,.int .i64 fa]]) rfl ?_⟩
 have hp:Pl.possF e a b xs ws du mo de tl fa=true:=hpre
 have F:=Pl.poss_facts hp
 obtain ⟨tot,htot⟩:∃ tot,tot=runG xs ws du mo de tl fa xs.length 0 [] e:=⟨_,rfl⟩
 rw [← htot]
 have hn:=F.n
 have hab:=F.ab
 have hde:=F.deb
 have hl1:=F.dul
 have hl2:=F.mol
 have hw20:=F.w
 have hfa:-1≤fa∧fa≤1000000:=by rcases F.tlb with h|h <;> omega
 repeat' (first|refine zN ?_|refine zE ?_|refine zP ?_|refine pD ?_|refine pC (by (exact hp)) ?_|refine zS ?_|refine zR ?_|refine zO ?_|refine zB ?_|refine zX ?_|refine zT ?_|refine skipI rfl ?_)
 refine condF rfl ?_
 repeat' (first|refine zN ?_|refine zE ?_|refine zP ?_|refine pD ?_|refine zS ?_|refine zR ?_|refine zO ?_|refine zB ?_|refine zX ?_|refine zT ?_|refine skipI rfl ?_)
 refine loopI (σ:=Nat × List tVisit.El × Int) (fun s=>[(7,.own 7000),(8,.int .i64 s.2.2),(9,.int .i64 s.1)]) (fun s=>[(7000,.seq tVisit s.2.1)]) (fun s=>s.1≤xs.length∧s.2.1.length=s.1∧0≤s.2.2∧s.2.2≤2000000∧(∀ j,j < s.2.1.length→EndOk (getI s.2.1 tVisit.dflt j).2.2.2)∧runG xs ws du mo de tl fa (xs.length - s.1) s.1 s.2.1 s.2.2=tot) (fun s=>xs.length - s.1) (0,[],e) rfl (fun _=>rfl) rfl ?_ ?_ ?_
 ·exact ⟨Nat.zero_le _,rfl,F.e.1,(by have:=F.e.2;show e≤2000000;omega),(fun j hj=>by simp at hj),htot.symm⟩
 ·repeat' (first|exact trivial|exact rfl|refine ⟨rfl,?_⟩|refine And.intro ?_ ?_)
 rintro ⟨i,out,t⟩ ⟨hi,hlen,ht1,ht2,hends,hrun⟩
 dsimp only at hi hlen ht1 ht2 hends hrun ⊢
 repeat' (first|refine zN ?_|refine zE ?_|refine zP ?_|refine pD ?_|refine zS ?_|refine zR ?_|refine zO ?_|refine zB ?_|refine zX ?_|refine zT ?_|refine skipI rfl ?_)
 refine condI rfl (fun c2=>?_) (fun c2=>?_)
 ·simp only [decide_eq_true_eq] at c2
  have hlt:i < xs.length:=by omega
  have hin:((i:Int)).toNat=i:=by omega
  obtain ⟨m,hm⟩:∃ m,xs.length - i=m+1:=⟨xs.length - i - 1,by omega⟩
  have S:=F.st i hlt
  have A:=F.at' i hlt
  obtain ⟨q,hq⟩:∃ q,q=reachedAt xs du mo de tl fa i t:=⟨_,rfl⟩
  have hq':q=reachedF (getI xs tStage.dflt i).2.2.1.1 (getI xs tStage.dflt i).2.2.1.2 (getI xs tStage.dflt i).2.2.2.1 (getI xs tStage.dflt i).2.2.2.2 de tl fa t (getI mo 0 i) (getI du 0 i):=hq
  rw [hm,runG] at hrun
  rw [← hq] at hrun
  dsimp only at hrun
  unfold reachedF at hq'
  obtain ⟨dui,hdui⟩:∃ d:Int,d=getI du 0 i:=⟨_,rfl⟩
  obtain ⟨moi,hmoi⟩:∃ d:Int,d=getI mo 0 i:=⟨_,rfl⟩
  obtain ⟨x,hx⟩:∃ x:StT,x=getI xs tStage.dflt i:=⟨_,rfl⟩
  rw [← hdui] at hrun
  rw [← hx,← hmoi,← hdui] at hq' A
  rw [← hx] at S
  have hdui':getI du tInt.dflt ((i:Int)).toNat=dui:=by rw [hin];exact hdui.symm
  have hmoi':getI mo tInt.dflt ((i:Int)).toNat=moi:=by rw [hin];exact hmoi.symm
  have hx':getI xs tStage.dflt ((i:Int)).toNat=x:=by rw [hin];exact hx.symm
  obtain ⟨mn,mx,⟨mt,ms⟩,st,ss⟩:=x
  unfold StOk at S
  unfold AtOk at A
  dsimp only at S A hq'
  repeat' (first|refine zN ?_|refine zE ?_|refine zP ?_|refine zS ?_|refine zO ?_|refine zB ?_|refine zX ?_|refine zT ?_|refine skipI rfl ?_)
  refine zR ?_
  repeat' (first|with_reducible refine pN ?_|refine pD ?_|refine pC (by (simp only [hmoi'];unfold In64;omega)) ?_)
  repeat with_reducible refine cN ?_
  repeat' (first|refine zN ?_|refine zE ?_|refine zP ?_|refine zS ?_|refine zO ?_|refine zB ?_|refine zX ?_|refine zT ?_|refine skipI rfl ?_)
  refine zR ?_
  repeat' (first|with_reducible refine pN ?_|refine pD ?_|refine pC (by (simp only [hmoi'];unfold In64;omega)) ?_)
  repeat with_reducible refine cN ?_
  repeat' (first|refine zN ?_|refine zE ?_|refine zP ?_|refine zS ?_|refine zO ?_|refine zB ?_|refine zX ?_|refine zT ?_|refine skipI rfl ?_)
  refine zR ?_
  repeat' (first|with_reducible refine pN ?_|refine pD ?_|refine pC (by (simp only [hmoi'];unfold In64;omega)) ?_)
  repeat with_reducible refine cN ?_
  simp only [hmoi',hx']
  repeat' (first|refine zN ?_|refine zE ?_|refine zP ?_|refine zS ?_|refine zO ?_|refine zB ?_|refine zX ?_|refine zT ?_|refine skipI rfl ?_)
  refine zR ?_
  repeat' (first|with_reducible refine pN ?_|refine pD ?_|refine pC (by (simp only [hdui'];intros;unfold In64;omega)) ?_)
  repeat with_reducible refine cN ?_
  simp only [hdui']
  have hts:q.2=false→tot=(out,1,(i:Int)):=fun h=>by
   rw [h] at hrun
   simp only [Bool.false_eq_true,if_false] at hrun
   exact hrun.symm
  repeat' (first|with_reducible refine cN ?_|refine zS ?_|refine skipI rfl ?_)
  refine joinC (σ:=(Int × Int) × Int) (fun s=>[(12,.int .i64 s.2)]) (fun s=>[(11,.box [.int .i64 s.1.1,.int .i64 s.1.2])]) (fun s=>(q=(s.1,decide (s.2≤s.1.2))∧0≤s.1.2∧s.1.2≤1000000)∧-10000000≤s.2∧s.2≤10000000) (fun _=>rfl) ?_ (fun s hs=>?_)
  ·refine condI rfl (fun c3=>?_) (fun c3=>?_)
   ·simp only [Bool.and_eq_true,decide_eq_true_eq] at c3
    rw [if_pos c3] at hq'
    repeat' (first|refine zN ?_|refine zE ?_|refine zP ?_|refine pD ?_|refine zS ?_|refine zR ?_|refine zO ?_|refine zB ?_|refine zX ?_|refine zT ?_|refine skipI rfl ?_)
    refine condI rfl (fun c4=>?_) (fun c4=>?_)
    ·simp only [Bool.and_eq_true,decide_eq_true_eq] at c4
     rw [if_neg (by omega),if_pos c4.2] at hq'
     repeat' (first|refine zN ?_|refine zE ?_|refine zP ?_|refine pD ?_|refine pC (by (unfold In64;omega)) ?_|refine zS ?_|refine zR ?_|refine zO ?_|refine zB ?_|refine zX ?_|refine zT ?_|refine skipI rfl ?_)
     refine meetI ((st,ss),max (t+moi) fa+de) rfl ⟨⟨hq',by dsimp only;omega⟩,by dsimp only;omega⟩ ?_
     repeat' (first|exact trivial|with_reducible exact rfl|refine And.intro ?_ ?_)
    ·simp only [Bool.and_eq_false_iff,decide_eq_false_iff_not] at c4
     repeat' (first|refine zN ?_|refine zE ?_|refine zP ?_|refine pD ?_|refine zS ?_|refine zR ?_|refine zO ?_|refine zB ?_|refine zX ?_|refine zT ?_|refine skipI rfl ?_)
     refine condI rfl (fun c5=>?_) (fun c5=>?_)
     ·simp only [decide_eq_true_eq] at c5
      rw [if_neg (by omega),if_neg (by omega)] at hq'
      repeat' (first|refine zN ?_|refine zE ?_|refine zP ?_|refine pD ?_|refine zS ?_|refine zR ?_|refine zO ?_|refine zB ?_|refine zX ?_|refine zT ?_|refine skipI rfl ?_)
      refine condI rfl (fun c6=>?_) (fun c6=>?_)
      ·simp only [decide_eq_true_eq] at c6
       rw [if_pos (by omega)] at hq'
       rw [hts (by rw [hq'])]
       repeat' (first|refine zN ?_|refine zE ?_|refine zP ?_|refine pD ?_|refine zS ?_|refine zR ?_|refine zO ?_|refine zB ?_|refine zX ?_|refine zT ?_|refine skipI rfl ?_)
       refine endR rfl ?_
       repeat' (first|exact trivial|exact rfl|refine ⟨rfl,?_⟩|refine And.intro ?_ ?_)
      ·simp only [decide_eq_false_iff_not] at c6
       rw [if_neg (by omega)] at hq'
       repeat' (first|refine zN ?_|refine zE ?_|refine zP ?_|refine pD ?_|refine pC (by (unfold In64;omega)) ?_|refine zS ?_|refine zR ?_|refine zO ?_|refine zB ?_|refine zX ?_|refine zT ?_|refine skipI rfl ?_)
       refine meetI ((st,ss),fa+de) rfl ⟨⟨hq',by dsimp only;omega⟩,by dsimp only;omega⟩ ?_
       repeat' (first|exact trivial|with_reducible exact rfl|refine And.intro ?_ ?_)
     ·simp only [decide_eq_false_iff_not] at c5
      rw [if_pos (by omega)] at hq'
      repeat' (first|refine zN ?_|refine zE ?_|refine zP ?_|refine pD ?_|refine zS ?_|refine zR ?_|refine zO ?_|refine zB ?_|refine zX ?_|refine zT ?_|refine skipI rfl ?_)
      refine meetI ((st,ss),t+moi) rfl ⟨⟨hq',by dsimp only;omega⟩,by dsimp only;omega⟩ ?_
      repeat' (first|exact trivial|with_reducible exact rfl|refine And.intro ?_ ?_)
   ·have c3:¬ (tl=mt∧fa < ms+dui):=by
     rintro ⟨h1,h2⟩
     simp [h1,h2] at c3
    rw [if_neg c3] at hq'
    repeat' (first|refine zN ?_|refine zE ?_|refine zP ?_|refine pD ?_|refine zS ?_|refine zR ?_|refine zO ?_|refine zB ?_|refine zX ?_|refine zT ?_|refine skipI rfl ?_)
    refine meetI ((mt,ms),t+moi) rfl ⟨⟨hq',by dsimp only;omega⟩,by dsimp only;omega⟩ ?_
    repeat' (first|exact trivial|with_reducible exact rfl|refine And.intro ?_ ?_)
  obtain ⟨⟨tool,start⟩,there⟩:=s
  obtain ⟨⟨hq2,hs1,hs2⟩,hs3,hs4⟩:=hs
  dsimp only at hq2 hs1 hs2 hs3 hs4 ⊢
  repeat' (first|refine zN ?_|refine zE ?_|refine zP ?_|refine pD ?_|refine zS ?_|refine zR ?_|refine zO ?_|refine zB ?_|refine zX ?_|refine zT ?_|refine skipI rfl ?_)
  refine condI rfl (fun c7=>?_) (fun c7=>?_)
  ·simp only [decide_eq_true_eq] at c7
   rw [hts (by rw [hq2];exact decide_eq_false (by omega))]
   repeat' (first|refine zN ?_|refine zE ?_|refine zP ?_|refine pD ?_|refine zS ?_|refine zR ?_|refine zO ?_|refine zB ?_|refine zX ?_|refine zT ?_|refine skipI rfl ?_)
   refine endR rfl ?_
   repeat' (first|exact trivial|exact rfl|refine ⟨rfl,?_⟩|refine And.intro ?_ ?_)
  ·simp only [decide_eq_false_iff_not] at c7
   rw [hq2,show decide (there≤start)=true from decide_eq_true (by omega)] at hrun
   simp only [if_true] at hrun
   obtain ⟨out',hout⟩:∃ x,x=out++[((i:Int),tool,start,start+dui)]:=⟨_,rfl⟩
   rw [← hout] at hrun
   have he1:0≤start+dui∧start+dui≤2000000:=by omega
   have hlen':out'.length=i+1:=by rw [hout,List.length_append,hlen];rfl
   have hends':∀ j,j < out'.length→EndOk (getI out' tVisit.dflt j).2.2.2:=fun j hj=>by
    by_cases hji:j < out.length
    ·have h1:getI out' tVisit.dflt j=getI out tVisit.dflt j:=by rw [hout];simp [getI,List.getD,List.getElem?_append_left hji]
     rw [h1];exact hends j hji
    ·have h1:getI out' tVisit.dflt j=((i:Int),tool,start,start+dui):=by
      rw [hout];simp [getI,List.getD,List.getElem?_append_right (show out.length≤j by omega),show j - out.length=0 by omega]
     rw [h1];exact he1
   repeat' (first|refine zN ?_|refine zE ?_|refine zP ?_|refine zS ?_|refine zO ?_|refine zB ?_|refine zX ?_|refine zT ?_|refine skipI rfl ?_)
   refine zR ?_
   repeat' (first|with_reducible refine pN ?_|refine pD ?_|refine pC (by (simp only [hdui'];unfold In64;omega)) ?_)
   repeat with_reducible refine cN ?_
   simp only [hdui']
   repeat' (first|refine zN ?_|refine zE ?_|refine zP ?_|refine pD ?_|refine pC (by first|(first|(unfold In64;omega)|(simp only [List.length_cons,List.length_nil];omega)|omega)) ?_|refine zS ?_|refine zR ?_|refine zO ?_|refine zB ?_|refine zX ?_|refine zT ?_|refine skipI rfl ?_)
   refine loopI (σ:=Nat) (fun k=>[(7,.own 6900),(13,.int .i64 k)]) (fun k=>[(6900,.seq tVisit out')]) (fun k=>k≤ws.length∧∀ j,j < k→lateW i start out' (getI ws tWin.dflt j)=false) (fun k=>ws.length - k) 0 rfl (fun _=>rfl) rfl ?_ ?_ ?_
   ·exact ⟨Nat.zero_le _,fun j hj=>by omega⟩
   ·repeat' (first|exact trivial|with_reducible exact rfl|refine And.intro ?_ ?_)
    all_goals first|exact hout|rfl
   rintro k ⟨hk,hb⟩
   repeat' (first|refine zN ?_|refine zE ?_|refine zP ?_|refine pD ?_|refine zS ?_|refine zR ?_|refine zO ?_|refine zB ?_|refine zX ?_|refine zT ?_|refine skipI rfl ?_)
   refine condI rfl (fun c8=>?_) (fun c8=>?_)
   ·simp only [decide_eq_true_eq] at c8
    have hkl:k < ws.length:=by omega
    have hkn:((k:Int)).toNat=k:=by omega
    have Wk:=F.ws k hkl
    obtain ⟨w,hw⟩:∃ w:WiT,w=getI ws tWin.dflt k:=⟨_,rfl⟩
    have hidx:(getI ws tWin.dflt k).2.1=(i:Int)→0≤(getI ws tWin.dflt k).1∧(getI ws tWin.dflt k).1 < out'.length∧(getI ws tWin.dflt k).1.toNat < out'.length:=fun h5=>Pl.idxOk Wk (by rw [decide_eq_true_eq];exact h5) hlen'
    have hdiff:(getI ws tWin.dflt k).2.1=(i:Int)→In64 (start - (getI out' tVisit.dflt (getI ws tWin.dflt k).1.toNat).2.2.2):=fun h5=>by
     have:=hends' _ (hidx h5).2.2
     unfold EndOk at this
     unfold In64
     omega
    repeat' (first|refine zN ?_|refine zE ?_|refine zP ?_|refine zS ?_|refine zO ?_|refine zB ?_|refine zX ?_|refine zT ?_|refine skipI rfl ?_)
    refine zR ?_
    repeat' (first|with_reducible refine pN ?_|refine pD ?_|refine pC (by omega) ?_)
    repeat with_reducible refine cN ?_
    simp only [hkn]
    repeat' (first|refine zN ?_|refine zE ?_|refine zP ?_|refine pD ?_|refine pC (by first|exact fun h=>(hidx (of_decide_eq_true h)).1|exact fun h=>(hidx (of_decide_eq_true h)).2.1|exact fun h=>(hidx (of_decide_eq_true h)).2.2|exact fun h=>hdiff (of_decide_eq_true h)) ?_|refine zS ?_|refine zR ?_|refine zO ?_|refine zB ?_|refine zX ?_|refine zT ?_|refine skipI rfl ?_)
    refine condI rfl (fun c9=>?_) (fun c9=>?_)
    ·have c9':lateW i start out' (getI ws tWin.dflt k)=true:=c9
     have hk2:idxF (lateW i start out') ws=(k:Int):=idxF_found (d:=tWin.dflt) hkl hb c9'
     rw [hk2,if_neg (by omega)] at hrun
     rw [← hrun]
     repeat' (first|refine zN ?_|refine zE ?_|refine zP ?_|refine pD ?_|refine zS ?_|refine zR ?_|refine zO ?_|refine zB ?_|refine zX ?_|refine zT ?_|refine skipI rfl ?_)
     refine endR rfl ?_
     repeat' (first|exact trivial|exact rfl|refine ⟨rfl,?_⟩|refine And.intro ?_ ?_)
    ·have c9':lateW i start out' (getI ws tWin.dflt k)=false:=c9
     repeat' (first|refine zN ?_|refine zE ?_|refine zP ?_|refine pD ?_|refine zS ?_|refine zR ?_|refine zO ?_|refine zB ?_|refine zX ?_|refine zT ?_|refine skipI rfl ?_)
     refine roundI (k+1) rfl ?_ ?_ ?_
     ·refine ⟨by show k+1≤ws.length;omega,fun j hj=>?_⟩
      by_cases hjk:j=k
      ·subst hjk;exact c9'
      ·exact hb j (by omega)
     ·show ws.length - (k+1) < ws.length - k
      omega
     ·repeat' (first|exact trivial|with_reducible exact rfl|refine And.intro ?_ ?_)
      all_goals rfl
   ·simp only [decide_eq_false_iff_not] at c8
    have hnone:idxF (lateW i start out') ws=-1:=idxF_none (d:=tWin.dflt) fun j hj=>hb j (by omega)
    rw [hnone,if_pos (by decide)] at hrun
    repeat' (first|refine zN ?_|refine zE ?_|refine zP ?_|refine pD ?_|refine zS ?_|refine zR ?_|refine zO ?_|refine zB ?_|refine zX ?_|refine zT ?_|refine skipI rfl ?_)
    refine roundI (i+1,out',start+dui) rfl ?_ ?_ ?_
    ·refine ⟨by show i+1≤xs.length;omega,hlen',he1.1,he1.2,hends',?_⟩
     show runG xs ws du mo de tl fa (xs.length - (i+1)) (i+1) out' (start+dui)=tot
     rw [show xs.length - (i+1)=m by omega]
     exact hrun
    ·show xs.length - (i+1) < xs.length - i
     omega
    ·repeat' (first|exact trivial|with_reducible exact rfl|refine And.intro ?_ ?_)
     all_goals rfl
 ·simp only [decide_eq_false_iff_not] at c2
  have hie:i=xs.length:=by omega
  subst hie
  rw [Nat.sub_self] at hrun
  have htt:tot=(out,0,0):=hrun.symm
  rw [htt]
  repeat' (first|refine zN ?_|refine zE ?_|refine zP ?_|refine pD ?_|refine zS ?_|refine zR ?_|refine zO ?_|refine zB ?_|refine zX ?_|refine zT ?_|refine skipI rfl ?_)
  refine endR rfl ?_
  repeat' (first|exact trivial|exact rfl|refine ⟨rfl,?_⟩|refine And.intro ?_ ?_)
end Go.AM.YtmohhhbgcehnpaaGreat.Re
