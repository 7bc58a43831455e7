/- A plan that certify accepts is late in no possible scenario. -/
import Derived.Test.YtmohhhbgcehnpaaGreatPm23
set_option linter.all false
namespace Go.AM.YtmohhhbgcehnpaaGreat.Re
open Go.Proofs
def Mg1 (b:Int) (x:StT):Prop:=mSt x+sMax x - 1+b≤sSt x
def Mg2 (b:Int) (x y:StT):Prop:=mSt x+sMax x+b≤mSt y∧sSt x+sMax x+b≤(if mTl y=mTl x then sSt y else mSt y)
theorem slotsG_mg {b:Int}:∀ {xs:List StT},(slotsG b xs).any negB=false→(∀ i,i < xs.length→Mg1 b (getI xs tStage.dflt i))∧∀ i,i+1 < xs.length→Mg2 b (getI xs tStage.dflt i) (getI xs tStage.dflt (i+1))
 | [],_=>⟨fun i h=>by simp at h,fun i h=>by simp at h⟩
 | [x],h=>by
   simp only [slotsG,List.any_cons,List.any_nil,Bool.or_false,negB,decide_eq_false_iff_not] at h
   refine ⟨fun i hi=>?_,fun i hi=>by simp at hi⟩
   obtain rfl:i=0:=by simpa using hi
   show mSt x+sMax x - 1+b≤sSt x
   omega
 | x::y::r,h=>by
   rw [slotsG_cons,List.any_append,Bool.or_eq_false_iff] at h
   obtain ⟨h1,h2⟩:=h
   simp only [List.any_cons,List.any_nil,Bool.or_false,Bool.or_eq_false_iff,negB,decide_eq_false_iff_not] at h1
   obtain ⟨a1,a2,a3⟩:=h1
   obtain ⟨k1,k2⟩:=slotsG_mg h2
   refine ⟨fun i hi=>?_,fun i hi=>?_⟩
   ·cases i with
    | zero=>show mSt x+sMax x - 1+b≤sSt x;omega
    | succ i=>exact k1 i (by simpa using hi)
   ·cases i with
    | zero=>exact ⟨by show mSt x+sMax x+b≤mSt y;omega,by show sSt x+sMax x+b≤(if mTl y=mTl x then sSt y else mSt y);omega⟩
    | succ i=>exact k2 i (by simpa using hi)
def VisOk (xs:List StT) (du:List Int) (tl fa:Int) (j:Nat) (v:Int × Int × Int × Int):Prop :=
 v.1=(j:Int)∧v.2.2.2=v.2.2.1+getI du 0 j ∧
  ((v.2.1=mTl (getI xs tStage.dflt j)∧v.2.2.1=mSt (getI xs tStage.dflt j)∧¬ (tl=mTl (getI xs tStage.dflt j)∧fa < mSt (getI xs tStage.dflt j)+getI du 0 j)) ∨
   (v.2.1=sTl (getI xs tStage.dflt j)∧v.2.2.1=sSt (getI xs tStage.dflt j)∧tl=mTl (getI xs tStage.dflt j)))
def InTime (b tl fa t du:Int) (y:StT):Prop:=t+b≤mSt y∨(fa < t∧(if mTl y=tl then t+b≤sSt y else t+b≤mSt y)∧(mTl y=tl→fa < mSt y+du))
theorem reach_ok {a b de tl fa t mv du:Int} {y:StT} (hb:0≤b) (hde:de≤b) (hde0:0≤de) (hmv:mv≤b) (hmx:1≤sMax y) (hdu:du≤sMax y) (h1:Mg1 b y) (h:InTime b tl fa t du y) :
 (Pl.reachedF (mTl y) (mSt y) (sTl y) (sSt y) de tl fa t mv du).2=true ∧
 (((Pl.reachedF (mTl y) (mSt y) (sTl y) (sSt y) de tl fa t mv du).1=(mTl y,mSt y)∧¬ (tl=mTl y∧fa < mSt y+du)) ∨
  ((Pl.reachedF (mTl y) (mSt y) (sTl y) (sSt y) de tl fa t mv du).1=(sTl y,sSt y)∧tl=mTl y∧fa < mSt y+du)):=by
 unfold Mg1 at h1
 unfold InTime at h
 unfold Pl.reachedF
 by_cases hl:tl=mTl y∧fa < mSt y+du
 ·rw [if_pos hl]
  obtain ⟨hl1,hl2⟩:=hl
  rw [if_pos hl1.symm] at h
  by_cases c1:fa≤t
  ·rw [if_pos c1]
   exact ⟨by rw [decide_eq_true_eq];omega,.inr ⟨rfl,hl1,hl2⟩⟩
  ·rw [if_neg c1]
   by_cases c2:fa < mSt y
   ·rw [if_pos c2]
    exact ⟨by rw [decide_eq_true_eq];omega,.inr ⟨rfl,hl1,hl2⟩⟩
   ·rw [if_neg c2,if_neg (by omega)]
    exact ⟨by rw [decide_eq_true_eq];omega,.inr ⟨rfl,hl1,hl2⟩⟩
 ·rw [if_neg hl]
  refine ⟨?_,.inl ⟨rfl,hl⟩⟩
  rw [decide_eq_true_eq]
  rcases h with h|⟨h2,h3,h4⟩
  ·omega
  ·by_cases hm:mTl y=tl
   ·exact absurd ⟨hm.symm,h4 hm⟩ hl
   ·rw [if_neg hm] at h3
    omega
theorem run_safe {e a b:Int} {xs:List tStage.El} {ws:List tWin.El} {du mo:List Int} {de tl fa:Int} (hs:safeF e a b xs ws=true) (C:Pl.Chance e a b xs ws du mo de tl fa) :
 ∀ (n i:Nat) (t:Int) (out:List Pl.tVisit.El),i+n=xs.length→(0 < n→InTime b tl fa t (getI du 0 i) (getI xs tStage.dflt i))→out.length=i→(∀ j,j < i→VisOk xs du tl fa j (getI out Pl.tVisit.dflt j)) →
  ∃ out',Pl.runG xs ws du mo de tl fa n i out t=(out',0,0)∧out'.length=xs.length∧∀ j,j < xs.length→VisOk xs du tl fa j (getI out' Pl.tVisit.dflt j)
 | 0,i,t,out,hi,_,hl,hv=>⟨out,rfl,by omega,fun j hj=>hv j (by omega)⟩
 | n+1,i,t,out,hi,ht,hl,hv=>by
   have hil:i < xs.length:=by omega
   unfold safeF at hs
   have hs':=hs
   simp only [Bool.and_eq_true,Bool.not_eq_true'] at hs
   obtain ⟨⟨hv1,hs1⟩,hs2⟩:=hs
   unfold slotsF at hs1
   rw [List.any_cons,Bool.or_eq_false_iff] at hs1
   obtain ⟨mg1,mg2⟩:=slotsG_mg hs1.2
   have hab:=C.ab
   have hde:=C.deb
   have hat:=C.at' i hil
   unfold Pl.AtOk at hat
   have hst:=C.st i hil
   unfold Pl.StOk at hst
   obtain ⟨y,hy⟩:∃ y:StT,y=getI xs tStage.dflt i:=⟨_,rfl⟩
   have hmx:1≤sMax y:=by rw [hy];exact Int.le_trans hst.1.1 hst.1.2.1
   have hduy:getI du 0 i≤sMax y:=by rw [hy];exact hat.1.2
   have hdun:sMin y≤getI du 0 i:=by rw [hy];exact hat.1.1
   have hmin:1≤sMin y:=by rw [hy];exact hst.1.1
   have hg1:Mg1 b y:=by rw [hy];exact mg1 i hil
   obtain ⟨r1,r2⟩:=reach_ok (a:=a) (b:=b) (de:=de) (tl:=tl) (fa:=fa) (t:=t) (mv:=getI mo 0 i) (du:=getI du 0 i) (y:=y) (by omega) hde.2 (by omega) hat.2.2 hmx hduy hg1 (by rw [hy];exact ht (by omega))
   have hre:Pl.reachedAt xs du mo de tl fa i t=Pl.reachedF (mTl y) (mSt y) (sTl y) (sSt y) de tl fa t (getI mo 0 i) (getI du 0 i):=by rw [hy];rfl
   obtain ⟨r,hr⟩:∃ r,r=Pl.reachedF (mTl y) (mSt y) (sTl y) (sSt y) de tl fa t (getI mo 0 i) (getI du 0 i):=⟨_,rfl⟩
   rw [← hr] at r1 r2 hre
   obtain ⟨vn,hvn⟩:∃ vn:Pl.tVisit.El,vn=((i:Int),r.1.1,r.1.2,r.1.2+getI du 0 i):=⟨_,rfl⟩
   have hvok:VisOk xs du tl fa i vn:=by
    rw [hvn]
    refine ⟨rfl,rfl,?_⟩
    rw [← hy]
    rcases r2 with ⟨h1,h2⟩|⟨h1,h2,h3⟩
    ·exact .inl ⟨by rw [h1],by rw [h1],h2⟩
    ·exact .inr ⟨by rw [h1],by rw [h1],h2⟩
   obtain ⟨out',ho⟩:∃ out',out'=out++[vn]:=⟨_,rfl⟩
   have hol:out'.length=i+1:=by rw [ho,List.length_append,hl];rfl
   have hall:∀ j,j < i+1→VisOk xs du tl fa j (getI out' Pl.tVisit.dflt j):=fun j hj=>by
    rw [ho]
    by_cases hji:j=i
    ·subst hji
     rw [show getI (out++[vn]) Pl.tVisit.dflt j=vn by simp [getI,List.getD,List.getElem?_append_right (show out.length≤j by omega),hl]]
     exact hvok
    ·rw [show getI (out++[vn]) Pl.tVisit.dflt j=getI out Pl.tVisit.dflt j by simp [getI,List.getD,List.getElem?_append_left (show j < out.length by omega)]]
     exact hv j (by omega)
   have hstart:r.1.2≤sSt y:=by
    unfold Mg1 at hg1
    rcases r2 with ⟨h1,_⟩|⟨h1,_⟩ <;> rw [h1]
    ·show mSt y≤sSt y;omega
    ·exact Int.le_refl _
   have hno:idxF (Pl.lateW i r.1.2 out') ws=-1:=by
    refine idxF_none (d:=tWin.dflt) fun k h2=>?_
    cases h3:Pl.lateW i r.1.2 out' (getI ws tWin.dflt k) with
    | false=>rfl
    | true =>
      exfalso
      have hW:=C.ws k h2
      unfold Pl.WiOk at hW
      unfold Pl.lateW at h3
      simp only [Bool.and_eq_true,decide_eq_true_eq] at h3
      obtain ⟨h4,h5⟩:=h3
      obtain ⟨w,hw⟩:∃ w:WiT,w=getI ws tWin.dflt k:=⟨_,rfl⟩
      rw [← hw] at hW h4 h5
      have k1:(0:Int)≤w.1:=hW.1
      have k2:(w.1:Int) < w.2.1:=hW.2.1
      have k4:w.2.1=(i:Int):=h4
      have hf:w.1.toNat < i:=by omega
      obtain ⟨vf,hvf⟩:∃ vf:Int × Int × Int × Int,vf=getI out' Pl.tVisit.dflt w.1.toNat:=⟨_,rfl⟩
      have k5:w.2.2 < r.1.2 - vf.2.2.2:=by rw [hvf];exact h5
      have hv3:=hall w.1.toNat (by omega)
      rw [← hvf] at hv3
      obtain ⟨v1,v2,v3⟩:=hv3
      have hm:=List.any_eq_false.1 hs2 (winM xs w) (List.mem_map.2 ⟨w,by rw [hw];exact Pl.getI_mem h2,rfl⟩)
      unfold negB at hm
      rw [decide_eq_true_eq] at hm
      have hto:w.2.1.toNat=i:=by omega
      obtain ⟨xf,hxf⟩:∃ xf:StT,xf=getI xs tStage.dflt w.1.toNat:=⟨_,rfl⟩
      have hm:¬ (mSt xf+sMin xf+w.2.2 - sSt y < 0):=by
       unfold winM at hm
       rw [hto,← hy,← hxf] at hm
       exact hm
      have hgf:=mg1 w.1.toNat (by omega)
      rw [← hxf] at hgf v3
      unfold Mg1 at hgf
      have hatf:=C.at' w.1.toNat (by omega)
      unfold Pl.AtOk at hatf
      have hstf:=C.st w.1.toNat (by omega)
      unfold Pl.StOk at hstf
      have hmn:sMin xf≤getI du 0 w.1.toNat:=by rw [hxf];exact hatf.1.1
      have hmxf:1≤sMax xf:=by rw [hxf];exact Int.le_trans hstf.1.1 hstf.1.2.1
      rcases v3 with ⟨_,h6,_⟩|⟨_,h6,_⟩ <;> omega
   have hrun:Pl.runG xs ws du mo de tl fa (n+1) i out t=Pl.runG xs ws du mo de tl fa n (i+1) out' (r.1.2+getI du 0 i):=by
    simp only [Pl.runG]
    rw [hre,if_pos r1,← hvn,← ho,hno]
    simp
   rw [hrun]
   refine run_safe hs' C n (i+1) _ out' (by omega) (fun hn=>?_) hol hall
   have hi1:i+1 < xs.length:=by omega
   obtain ⟨m1,m2⟩:=mg2 i hi1
   rw [← hy] at m1 m2
   obtain ⟨z,hz⟩:∃ z:StT,z=getI xs tStage.dflt (i+1):=⟨_,rfl⟩
   rw [← hz] at m1 m2 ⊢
   have hat1:=C.at' (i+1) hi1
   unfold Pl.AtOk at hat1
   have hst1:=C.st (i+1) hi1
   unfold Pl.StOk at hst1
   have hdz:1≤getI du 0 (i+1):=Int.le_trans hst1.1.1 hat1.1.1
   unfold InTime
   unfold Mg1 at hg1
   rcases r2 with ⟨h1,h2⟩|⟨h1,h2,h3⟩
   ·left
    rw [h1]
    show mSt y+_+b≤_
    omega
   ·right
    rw [h1]
    show fa < sSt y+_∧(if mTl z=tl then sSt y+_+b≤_ else sSt y+_+b≤_)∧_
    rw [h2]
    refine ⟨by omega,?_,fun _=>by omega⟩
    by_cases hm:mTl z=mTl y
    ·rw [if_pos hm] at m2 ⊢
     omega
    ·rw [if_neg hm] at m2 ⊢
     omega
theorem run_never {e a b:Int} {xs:List tStage.El} {ws:List tWin.El} {du mo:List Int} {de tl fa:Int} (hs:safeF e a b xs ws=true) (hp:Pl.possF e a b xs ws du mo de tl fa=true) :
 ∃ out,Pl.runF e a b xs ws du mo de tl fa=(out,(0,0),0)∧out.length=xs.length∧∀ j,j < xs.length→VisOk xs du tl fa j (getI out Pl.tVisit.dflt j):=by
 have C:=Pl.poss_facts hp
 have hs':=hs
 unfold safeF at hs
 simp only [Bool.and_eq_true,Bool.not_eq_true'] at hs
 obtain ⟨⟨hv1,hs1⟩,hs2⟩:=hs
 unfold slotsF at hs1
 rw [List.any_cons,Bool.or_eq_false_iff] at hs1
 have h0:=hs1.1
 unfold negB at h0
 rw [decide_eq_false_iff_not] at h0
 obtain ⟨out,h1,h2,h3⟩:=run_safe hs' C xs.length 0 e [] (by omega) (fun _=>.inl (by omega)) rfl (fun j hj=>by omega)
 refine ⟨out,?_,h2,h3⟩
 unfold Pl.runF
 rw [if_pos hp,h1]
end Go.AM.YtmohhhbgcehnpaaGreat.Re
