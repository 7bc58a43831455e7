/- What the reference makes is what the program makes. -/
import Derived.Test.YtmohhhbgcehnpaaGreatReReK
import Derived.Test.YtmohhhbgcehnpaaGreatReEtK
import Derived.Test.YtmohhhbgcehnpaaGreatReWK
import Derived.Test.YtmohhhbgcehnpaaGreatPm33
set_option linter.all false
namespace Go.AM.YtmohhhbgcehnpaaGreat.Re
open Go.Proofs
set_option maxRecDepth 100000
set_option maxHeartbeats 4000000
theorem valid_needs {e a b:Int} {ns:List tNeed.El} {ws:List tWin.El} (h:rvalidF e a b ns ws=true):∀ x∈ns,ascF x.1=true:=fun x hx=>by
 unfold rvalidF at h
 simp only [Bool.and_eq_true,Bool.not_eq_true'] at h
 obtain ⟨⟨_,h2⟩,_⟩:=h
 have h9:=any_false_mem h2 x hx
 unfold needBad at h9
 rw [Bool.or_eq_false_iff] at h9
 unfold ascF
 rw [h9.2]
 rfl
theorem asc_lt {ts:List Int} (h:ascF ts=true):∀ {k:Nat},k < ts.length→∀ {i:Nat},i < k→getI ts 0 i < getI ts 0 k:=by
 unfold ascF at h
 rw [Bool.not_eq_true',List.any_eq_false] at h
 have hs:∀ k,k+1 < ts.length→getI ts 0 k < getI ts 0 (k+1):=fun k hk=>by
  have:=h (k+1) (List.mem_range.2 hk)
  unfold toolBad at this
  simp only [Bool.or_eq_true,Bool.and_eq_true,decide_eq_true_eq,not_or,not_and,Nat.add_sub_cancel] at this
  have:=this.2 (by omega)
  omega
 intro k
 induction k with
 | zero=>intro _ i hi;omega
 | succ k ih =>
   intro hk i hi
   have h1:=hs k hk
   by_cases hik:i=k
   ·rw [hik];exact h1
   ·have:=ih (by omega) (i:=i) (by omega)
    omega
theorem valid_chR {e a b:Int} {ns:List tNeed.El} {ws:List tWin.El} (h:rvalidF e a b ns ws=true):chR ns=chL ns []:=by
 have hv:=valid_needs h
 unfold chR
 have h1:=chFold ns (fun x hx o=>pairs_nodup (l:=x.1) (fun i k hi hk he=>by
  have ha:=hv x hx
  by_cases h1:i < k
  ·have:=asc_lt ha hk h1;omega
  ·by_cases h2:k < i
   ·have:=asc_lt ha hi h2;omega
   ·omega) o) [[]]
 rw [h1]
 simp
theorem chL_ne:∀ {ns:List NeedT} {l ch:List PairT},ch∈chL ns l→(∀ p∈l,p.1≠p.2)→∀ p∈ch,p.1≠p.2
 | [],l,ch,h,hl=>by
   have:ch=l:=List.mem_singleton.1 h
   rw [this];exact hl
 | x::r,l,ch,h,hl=>by
   unfold chL at h
   obtain ⟨a,ha,h⟩:=List.mem_flatMap.1 h
   unfold rowOf at h
   obtain ⟨b,hb,h⟩:=List.mem_flatMap.1 h
   cases hc:decide (a≠b)
   ·rw [hc] at h;cases h
   ·rw [hc] at h
    refine chL_ne (ns:=r) (l:=l++[(a,b)]) (show ch∈chL r (l++[(a,b)]) from h) fun p hp=>?_
    rcases List.mem_append.1 hp with hp|hp
    ·exact hl p hp
    ·rw [List.mem_singleton.1 hp]
     exact of_decide_eq_true hc
def StV (x:StT):Prop:=(1≤sMin x∧sMin x≤sMax x∧sMax x≤10000)∧(0≤mTl x∧mTl x≤59∧0≤mSt x∧mSt x≤1000000 - sMax x)∧(0≤sTl x∧sTl x≤59∧0≤sSt x∧sSt x≤1000000 - sMax x)∧mTl x≠sTl x
def NdV (mn mx:Int):Prop:=1≤mn∧mn≤mx∧mx≤10000
theorem stG_v {b:Int} (hb:0≤b):∀ {ns:List NeedT} {c:CalT} {t:Int} {ch:List PairT} {xs:List StT},CalG c→stG b c t ns ch=some xs→(∀ x∈ns,NdV x.2.1 x.2.2)→(∀ p∈ch,p.1≠p.2) →
 (∀ x∈xs,StV x)∧(slotsG b xs).any negB=false∧∀ x r,xs=x::r→t+b≤mSt x
 | [],c,t,ch,xs,_,h,_,_=>by
   simp only [stG,Option.some.injEq] at h
   subst h
   exact ⟨fun x hx=>by simp at hx,rfl,fun x r h=>by cases h⟩
 | _::_,c,t,[],xs,_,h,_,_=>by simp [stG] at h
 | x::ns,c,t,p::ch,xs,hc,h,hN,hP=>by
   simp only [stG] at h
   cases h1:(firstF c p.1 (t+b) x.2.2).2 <;> rw [h1] at h
   ·cases h
   ·rw [cond_true] at h
    cases h2:(firstF (bookG c p.1 (t+b) x.2.2) p.2 ((firstF c p.1 (t+b) x.2.2).1+x.2.2 - 1+b) x.2.2).2 <;> rw [h2] at h
    ·cases h
    ·rw [cond_true,Option.map_eq_some_iff] at h
     obtain ⟨l,h3,rfl⟩:=h
     have hg1:=(bookG_good hc p.1 (t+b) x.2.2).1
     have hg2:=(bookG_good hg1 p.2 ((firstF c p.1 (t+b) x.2.2).1+x.2.2 - 1+b) x.2.2).1
     obtain ⟨⟨t0,t1,_⟩,⟨h6,h7⟩,_⟩:=first_facts hc h1
     obtain ⟨⟨s0,s1,_⟩,⟨h9,h10⟩,_⟩:=first_facts hg1 h2
     obtain ⟨k1,k2,k3⟩:=stG_v hb hg2 h3 (fun y hy=>hN y (List.mem_cons_of_mem _ hy)) (fun q hq=>hP q (List.mem_cons_of_mem _ hq))
     have hx:=hN x (List.mem_cons_self ..)
     have hp:=hP p (List.mem_cons_self ..)
     unfold NdV at hx
     generalize hm:(firstF c p.1 (t+b) x.2.2).1=m at *
     generalize hq:(firstF (bookG c p.1 (t+b) x.2.2) p.2 (m+x.2.2 - 1+b) x.2.2).1=q at *
     have hV:StV (x.2.1,x.2.2,(p.1,m),(p.2,q)):=by
      unfold StV sMin sMax mTl mSt sTl sSt
      dsimp only
      omega
     refine ⟨fun y hy=>?_,?_,fun y r hy=>?_⟩
     ·rcases List.mem_cons.1 hy with rfl|hy
      ·exact hV
      ·exact k1 y hy
     ·cases l with
      | nil =>
        show List.any [q - (m+x.2.2 - 1+b)] negB=false
        unfold negB
        simp only [List.any_cons,List.any_nil,Bool.or_false,decide_eq_false_iff_not]
        omega
      | cons y r =>
        have hy:=k3 y r rfl
        have hyV:=k1 y (List.mem_cons_self ..)
        have hy1:sSt y - (mSt y+sMax y - 1+b)∈slotsG b (y::r):=by
         cases r with
         | nil=>exact List.mem_cons_self ..
         | cons z r=>exact List.mem_append_left _ (List.mem_cons_self ..)
        have hy2:=any_false_mem k2 _ hy1
        unfold negB at hy2
        rw [decide_eq_false_iff_not] at hy2
        unfold StV at hyV
        rw [slotsG_cons,List.any_append,k2,Bool.or_false]
        show List.any [q - (m+x.2.2 - 1+b),mSt y - (m+x.2.2+b),(if mTl y=p.1 then sSt y else mSt y) - (q+x.2.2+b)] negB=false
        unfold negB
        simp only [List.any_cons,List.any_nil,Bool.or_false,Bool.or_eq_false_iff,decide_eq_false_iff_not]
        split <;> omega
     ·cases hy
      show t+b≤m
      omega
theorem winF_of {n:Nat} {f0 t0 l0 f t l:Int} (h0:f0 < f∨(f0=f∧t0 < t)) (h1:0≤f) (h2:f < t) (h3:t < (n:Int)) (h4:0≤l) (h5:l≤1000000):Pl.winF n (f0,t0,l0) (f,t,l)=true:=by
 unfold Pl.winF
 simp only [Bool.and_eq_true,Bool.or_eq_true,decide_eq_true_eq,Pl.within_iff]
 exact ⟨⟨⟨⟨h0,h1⟩,h2⟩,h3⟩,h4,h5⟩
theorem stG_valid {c:CalT} (hc:CalG c) {e a b:Int} {ns:List tNeed.El} {ws:List tWin.El} (h:rvalidF e a b ns ws=true) {ch:List PairT} (hch:ch∈chL ns []) {xs:List StT} (hx:stG b c e ns ch=some xs) :
 xs.length=ns.length∧Pl.validF e a b xs ws=true∧(slotsF e b xs).any negB=false:=by
 obtain ⟨⟨r1,r2⟩,⟨r3,r4,r5⟩,⟨r6,r7,r8⟩,r9⟩:=rvalid_facts h
 have hl:=(stG_facts hc hx).1
 obtain ⟨k1,k2,k3⟩:=stG_v (by omega) hc hx (fun x hx=>(r9 x hx).2) (chL_ne hch (fun p hp=>by simp at hp))
 refine ⟨hl,?_,?_⟩
 ·have e1:xs.any Pl.badSt=false:=by
   rw [List.any_eq_false]
   intro x hx
   have V:=k1 x hx
   unfold StV sMin sMax mTl mSt sTl sSt at V
   unfold Pl.badSt Pl.isStageF Pl.isSlotF
   simp only [Bool.not_eq_true',Bool.not_eq_false,Bool.and_eq_true,Pl.within_iff,decide_eq_true_eq]
   omega
  have e2:(Pl.duo (-1,0,0) ws).any (Pl.badW xs.length)=false:=by
   rw [List.any_eq_false]
   intro q hq
   obtain ⟨k,hk,rfl⟩:=List.getElem_of_mem hq
   have hk':k < ws.length:=by rw [Pl.duo_length] at hk;exact hk
   have hg:(Pl.duo (-1,0,0) ws)[k]=(Pl.ahead (-1,0,0) ws k,getI ws tWin.dflt k):=by
    rw [← Pl.duo_get hk']
    simp [getI,List.getD,List.getElem?_eq_getElem hk]
   rw [hg]
   unfold rvalidF at h
   simp only [Bool.and_eq_true,Bool.not_eq_true'] at h
   have hw:=any_false_mem h.2 k (List.mem_range.2 hk')
   rw [← Bool.not_eq_true,win_iff] at hw
   unfold wiR wjR at hw
   have hW:Pl.winF xs.length (Pl.ahead (-1,0,0) ws k) (getI ws tWin.dflt k)=true:=by
    cases k with
    | zero=>exact winF_of (f:=(getI ws tWin.dflt 0).1) (t:=(getI ws tWin.dflt 0).2.1) (l:=(getI ws tWin.dflt 0).2.2) (.inl (by omega)) (by omega) (by omega) (by omega) (by omega) (by omega)
    | succ k =>
      simp only [Nat.add_sub_cancel] at hw
      exact winF_of (f0:=(getI ws tWin.dflt k).1) (t0:=(getI ws tWin.dflt k).2.1) (l0:=(getI ws tWin.dflt k).2.2) (f:=(getI ws tWin.dflt (k+1)).1) (t:=(getI ws tWin.dflt (k+1)).2.1) (l:=(getI ws tWin.dflt (k+1)).2.2) (by omega) (by omega) (by omega) (by omega) (by omega) (by omega)
   unfold Pl.badW
   dsimp only
   rw [hW]
   exact Bool.false_ne_true
  unfold Pl.validF
  rw [e1,e2]
  simp only [Bool.and_eq_true,Pl.within_iff,decide_eq_true_eq,Bool.not_false,and_true]
  omega
 ·unfold slotsF
  rw [List.any_cons,k2,Bool.or_false]
  unfold negB
  rw [decide_eq_false_iff_not]
  cases xs with
  | nil=>simp at hl;omega
  | cons x r =>
    have:=k3 x r rfl
    show ¬ mSt x - (e+b) < 0
    omega
theorem mains_mono {b:Int} (hb:0≤b) {xs:List StT} (h:(slotsG b xs).any negB=false):∀ {j:Nat},j < xs.length→∀ {i:Nat},i < j→(∀ k,k < xs.length→0≤sMax (getI xs tStage.dflt k))→mSt (getI xs tStage.dflt i)+sMax (getI xs tStage.dflt i)≤mSt (getI xs tStage.dflt j):=by
 have h2:=(slotsG_mg h).2
 intro j
 induction j with
 | zero=>intro _ i hi;omega
 | succ j ih =>
   intro hj i hi hm
   have h3:=h2 j hj
   unfold Mg2 at h3
   by_cases hij:i=j
   ·rw [hij];omega
   ·have h4:=ih (by omega) (i:=i) (by omega) hm
    have h5:=hm j (by omega)
    omega
theorem okR_eq {e a b:Int} {xs:List StT} {ws:List tWin.El} (hv:Pl.validF e a b xs ws=true) (hs:(slotsF e b xs).any negB=false):okR e b xs ws=safeF e a b xs ws:=by
 have F:=Pl.valid_facts hv
 have hab:=F.ab
 cases hsf:safeF e a b xs ws with
 | true =>
   unfold okR
   rw [Bool.not_eq_true',List.any_eq_false]
   intro s hm
   have hp:=crit_poss hv s hm
   obtain ⟨out,h1,_⟩:=run_never hsf hp
   unfold Pl.runF at h1
   rw [if_pos hp] at h1
   unfold lateR
   have h2:(Pl.runG xs ws s.1 s.2.1 s.2.2.1 s.2.2.2.1 s.2.2.2.2 xs.length 0 [] e).2=(0,0):=congrArg (fun q=>q.2.1) h1
   rw [h2]
   simp
 | false =>
   unfold safeF at hsf
   rw [hv,hs,Bool.not_false,Bool.and_true,Bool.true_and,Bool.not_eq_false',List.any_eq_true] at hsf
   obtain ⟨m,hm,hneg⟩:=hsf
   unfold windowsF at hm
   obtain ⟨w,hw,rfl⟩:=List.mem_map.1 hm
   obtain ⟨k,hk,hkw⟩:=List.getElem_of_mem hw
   have hwk:getI ws tWin.dflt k=w:=by rw [← hkw];simp [getI,List.getD,List.getElem?_eq_getElem hk]
   have hmem:winSc b xs w∈critL b xs ws:=by
    unfold critL
    exact List.mem_append_right _ (List.mem_map.2 ⟨w,hw,rfl⟩)
   have hp:=crit_poss hv _ hmem
   unfold okR
   rw [Bool.not_eq_false',List.any_eq_true]
   refine ⟨winSc b xs w,hmem,?_⟩
   unfold lateR
   rw [decide_eq_true_eq]
   intro h0
   have hC:=Pl.poss_facts hp
   obtain ⟨_,R⟩:=Pl.run_spec hp
   have hr:Pl.runF e a b xs ws (winSc b xs w).1 (winSc b xs w).2.1 (winSc b xs w).2.2.1 (winSc b xs w).2.2.2.1 (winSc b xs w).2.2.2.2=((Pl.runG xs ws (winSc b xs w).1 (winSc b xs w).2.1 (winSc b xs w).2.2.1 (winSc b xs w).2.2.2.1 (winSc b xs w).2.2.2.2 xs.length 0 [] e).1,(Pl.runG xs ws (winSc b xs w).1 (winSc b xs w).2.1 (winSc b xs w).2.2.1 (winSc b xs w).2.2.2.1 (winSc b xs w).2.2.2.2 xs.length 0 [] e).2,0):=by
    unfold Pl.runF
    rw [if_pos hp]
   rw [hr] at R
   dsimp only at R
   obtain ⟨out,hout⟩:∃ out,out=(Pl.runG xs ws (winSc b xs w).1 (winSc b xs w).2.1 (winSc b xs w).2.2.1 (winSc b xs w).2.2.2.1 (winSc b xs w).2.2.2.2 xs.length 0 [] e).1:=⟨_,rfl⟩
   obtain ⟨kd,hkd⟩:∃ out,out=(Pl.runG xs ws (winSc b xs w).1 (winSc b xs w).2.1 (winSc b xs w).2.2.1 (winSc b xs w).2.2.2.1 (winSc b xs w).2.2.2.2 xs.length 0 [] e).2.1:=⟨_,rfl⟩
   rw [← hkd] at h0
   rw [← hout,← hkd] at R
   subst h0
   have hlen:out.length=xs.length:=by
    rcases R.ends with h|h|h
    ·exact h.2.2
    ·exact absurd h.1 (by decide)
    ·exact absurd h.1 (by decide)
   have W:=F.ws k hk
   rw [hwk] at W
   unfold Pl.WiOk at W
   have hkept:=R.kept k hk
   have hto:Pl.wTo ws k=w.2.1:=by unfold Pl.wTo;rw [hwk]
   have hfr:Pl.wFr ws k=w.1:=by unfold Pl.wFr;rw [hwk]
   have hli:Pl.wLi ws k=w.2.2:=by unfold Pl.wLi;rw [hwk]
   have hnl:¬ Pl.LateAt ws out k:=fun hl=>absurd (hkept (by rw [hto];omega) hl).1 (by decide)
   unfold Pl.LateAt at hnl
   rw [hto,hfr,hli] at hnl
   have V1:=(R.vis w.2.1.toNat (by omega)).1
   have V2:=R.vis w.1.toNat (by omega)
   obtain ⟨V2,_,V3⟩:=V2
   have hsx:∀ i,i < xs.length→1≤sMin (getI xs tStage.dflt i)∧sMin (getI xs tStage.dflt i)≤sMax (getI xs tStage.dflt i):=fun i hi=>by
    have S:=F.st i hi
    exact ⟨S.1.1,S.1.2.1⟩
   have hmono:=mains_mono (b:=b) (by omega) (xs:=xs) (by unfold slotsF at hs;rw [List.any_cons,Bool.or_eq_false_iff] at hs;exact hs.2) (j:=w.2.1.toNat) (by omega) (i:=w.1.toNat) (by omega) (fun k hk=>by have:=hsx k hk;omega)
   have A1:=hC.at' w.2.1.toNat (by omega)
   have A2:=hC.at' w.1.toNat (by omega)
   unfold Pl.AtOk at A1 A2
   have hd1:=hsx w.2.1.toNat (by omega)
   have hdl:(slowD xs).length=xs.length:=by unfold slowD;rw [List.length_map]
   have hdu:getI (winSc b xs w).1 0 w.1.toNat=sMin (getI xs tStage.dflt w.1.toNat):=by
    show getI ((slowD xs).set w.1.toNat (sMin (getI xs tStage.dflt w.1.toNat))) 0 w.1.toNat=_
    simp [getI,List.getD,List.getElem?_set,hdl,show w.1.toNat < xs.length by omega]
   have hs1:(Pl.vis out w.2.1.toNat).2.2.1=sSt (getI xs tStage.dflt w.2.1.toNat):=by
    obtain ⟨d1,hd1'⟩:∃ d,d=getI (winSc b xs w).1 0 w.2.1.toNat:=⟨_,rfl⟩
    unfold Pl.reachedAt Pl.reachedF at V1
    rw [← hd1'] at V1 A1
    have hlt:(winSc b xs w).2.2.2.1=(getI xs tStage.dflt w.2.1.toNat).2.2.1.1∧(winSc b xs w).2.2.2.2 < (getI xs tStage.dflt w.2.1.toNat).2.2.1.2+d1:=⟨rfl,by
     show mSt (getI xs tStage.dflt w.2.1.toNat) < mSt (getI xs tStage.dflt w.2.1.toNat)+d1
     have A1':sMin (getI xs tStage.dflt w.2.1.toNat)≤d1:=A1.1.1
     omega⟩
    rw [if_pos hlt] at V1
    split at V1
    ·exact (congrArg (fun q=>q.1.2) V1).symm
    ·split at V1
     ·exact (congrArg (fun q=>q.1.2) V1).symm
     ·split at V1
      ·have:=congrArg (fun q=>q.2) V1
       cases this
      ·exact (congrArg (fun q=>q.1.2) V1).symm
   have hs2:(Pl.vis out w.1.toNat).2.2.1=mSt (getI xs tStage.dflt w.1.toNat):=by
    unfold Pl.reachedAt Pl.reachedF at V2
    rw [hdu] at V2
    have hge:¬ ((winSc b xs w).2.2.2.1=(getI xs tStage.dflt w.1.toNat).2.2.1.1∧(winSc b xs w).2.2.2.2 < (getI xs tStage.dflt w.1.toNat).2.2.1.2+sMin (getI xs tStage.dflt w.1.toNat)):=by
     rintro ⟨_,h⟩
     have h:mSt (getI xs tStage.dflt w.2.1.toNat) < mSt (getI xs tStage.dflt w.1.toNat)+sMin (getI xs tStage.dflt w.1.toNat):=h
     have:=hsx w.1.toNat (by omega)
     omega
    rw [if_neg hge] at V2
    exact (congrArg (fun q=>q.1.2) V2).symm
   rw [hs1,V3,hs2,hdu] at hnl
   unfold negB winM at hneg
   rw [decide_eq_true_eq] at hneg
   omega
def BsV (s:BestT):Prop:=∀ y,s=some y→y.2=overG (lastG y.1)
theorem rStep_eq {c:CalT} (hc:CalG c) {e a b:Int} {ns:List tNeed.El} {ws:List tWin.El} (h:rvalidF e a b ns ws=true) {ch:List PairT} (hch:ch∈chL ns []) {s:BestT} (hs:BsV s) :
 rStep c.flatten e b ns ws s ch=stepG c e a b ns ws [] s ch∧BsV (stepG c e a b ns ws [] s ch):=by
 unfold rStep stepG
 rw [stR_eq b ns e ch hc]
 cases hx:stG b c e ns ch with
 | none=>exact ⟨rfl,hs⟩
 | some xs =>
   obtain ⟨_,hv,hsl⟩:=stG_valid hc h hch hx
   dsimp only
   rw [okR_eq hv hsl,lateAny_nil]
   have hb:∀ s:BestT,BsV s→(s.isSome&&decide (overG (lastG xs)≥overG (lastG (bStg s))))=(s.isSome&&decide (overG (lastG xs)≥bLst s)):=fun s hs=>by
    cases s with
    | none=>rfl
    | some y=>rw [show bLst (some y)=overG (lastG (bStg (some y))) from hs y rfl]
   rw [hb s hs]
   refine ⟨?_,?_⟩
   ·cases (s.isSome&&decide (overG (lastG xs)≥bLst s)) <;> cases safeF e a b xs ws <;> rfl
   ·cases (s.isSome&&decide (overG (lastG xs)≥bLst s)) <;> cases safeF e a b xs ws
    ·exact hs
    ·intro y hy
     cases hy
     rfl
    ·exact hs
    ·exact hs
theorem rFold_eq {c:CalT} (hc:CalG c) {e a b:Int} {ns:List tNeed.El} {ws:List tWin.El} (h:rvalidF e a b ns ws=true):∀ (q:List (List PairT)) (s:BestT),(∀ ch∈q,ch∈chL ns [])→BsV s→q.foldl (rStep c.flatten e b ns ws) s=q.foldl (stepG c e a b ns ws []) s
 | [],_,_,_=>rfl
 | ch::q,s,hq,hs=>by
   obtain ⟨h1,h2⟩:=rStep_eq hc h (hq ch (List.mem_cons_self ..)) hs
   rw [List.foldl_cons,List.foldl_cons,h1]
   exact rFold_eq hc h q _ (fun d hd=>hq d (List.mem_cons_of_mem _ hd)) h2
theorem rMake_eq {c:CalT} (hc:CalG c) {e a b:Int} {ns:List tNeed.El} {ws:List tWin.El}:(bif rvalidF e a b ns ws then rFold c.flatten e b ns ws (chR ns) else none)=makeG c e a b ns ws:=by
 unfold makeG
 cases h:rvalidF e a b ns ws with
 | false=>rfl
 | true =>
   rw [cond_true,cond_true]
   unfold rFold bestG foldB
   rw [valid_chR h]
   exact rFold_eq hc h _ _ (fun ch hd=>hd) (fun y hy=>by cases hy)
theorem rbP_of {c:CalT} (hc:CalG c) (hl:c.flatten.length≤80000) {e a b:Int} {ns:List tNeed.El} {ws:List tWin.El} (h3:ns.length≤3) (h:rvalidF e a b ns ws=true):RbP c.flatten e a b ns ws:=by
 obtain ⟨⟨r1,r2⟩,⟨r3,r4,r5⟩,⟨r6,r7,r8⟩,r9⟩:=rvalid_facts h
 have hch:∀ ch∈chR ns,ch∈chL ns []:=fun ch hd=>by rw [← valid_chR h];exact hd
 refine ⟨⟨h3,fun x hx=>(r9 x hx).1.2⟩,fun ch hd=>?_,fun ch hd xs hx=>?_⟩
 ·refine ⟨hl,⟨r1,r2,by omega,r5⟩,⟨by omega,?_,by omega⟩,fun x hx=>?_⟩
  ·have:=chL_len (hch ch hd)
   simpa using this
  ·obtain ⟨_,k1,k2,k3⟩:=r9 x hx
   exact ⟨Int.le_trans (Int.le_trans (by decide) k1) k2,k3⟩
 ·rw [stR_eq b ns e ch hc] at hx
  obtain ⟨k1,k2,_⟩:=stG_valid hc h (hch ch hd) hx
  exact ⟨k1,k2⟩
end Go.AM.YtmohhhbgcehnpaaGreat.Re
