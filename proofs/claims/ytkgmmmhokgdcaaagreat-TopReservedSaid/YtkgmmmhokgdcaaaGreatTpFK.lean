/- TopReserved's helpers: apart, has; segments; visits of a part of a route. -/
import Derived.Test.YtkgmmmhokgdcaaaGreatTpEK
import Derived.Test.YtkgmmmhokgdcaaaGreatReUK
import Derived.Test.YtkgmmmhokgdcaaaGreatPc36
set_option linter.all false
namespace Go.AM.YtkgmmmhokgdcaaaGreat.Fl
open Go.Proofs
theorem least {P:Nat→Prop}:∀ {n:Nat},P n→∃ d,P d∧∀ d',P d'→d≤d'
 | 0,h=>⟨0,h,fun _ _=>Nat.zero_le _⟩
 | n+1,h=>by
   by_cases h2:∃ d,d≤n∧P d
   ·obtain ⟨d,hd,hp⟩:=h2
    have:∀ m,m≤n→P m→∃ d,P d∧∀ d',P d'→d≤d':=by
     intro m
     induction m using Nat.strongRecOn with
     | _ m ih =>
       intro hm hp
       by_cases h3:∃ d,d < m∧P d
       ·obtain ⟨d,h4,h5⟩:=h3
        exact ih d h4 (by omega) h5
       ·exact ⟨m,hp,fun d' hd'=>by
        by_cases h6:d' < m
        ·exact absurd ⟨d',h6,hd'⟩ h3
        ·omega⟩
    exact this d hd hp
   ·exact ⟨n+1,h,fun d' hd'=>by
    by_cases h3:d'≤n
    ·exact absurd ⟨d',h3,hd'⟩ h2
    ·omega⟩
theorem seg_is {m:LkM} {s n:Int} (hin:∀ p∈m,LkIn n p) (hs:s < n):∃ e,IsSeg m s e∧e < n:=by
 have h0:Closed m s (s+((n - 1 - s).toNat:Int)):=fun p hp _ _=>by have:=(hin p hp).2.2;omega
 obtain ⟨d,h1,h2⟩:=least (P:=fun d=>Closed m s (s+(d:Int))) h0
 have h3:=h2 _ h0
 refine ⟨s+(d:Int),⟨by omega,h1,fun e' h4 h5=>?_⟩,by omega⟩
 have:=h2 (e' - s).toNat (by show Closed m s (s+((e' - s).toNat:Int));rw [show s+((e' - s).toNat:Int)=e' by omega];exact h5)
 omega
theorem segF_is {mn mx:Int} {ss:List StepT} {ws:List WinT} {rt:List Int} {s:Int} (hl:lineB mn mx ss ws rt=true) (h0:0≤s) (h1:s < rt.length):IsSeg (linksF rt ws) s (segF mn mx ss ws rt s)∧segF mn mx ss ws rt s < rt.length:=by
 obtain ⟨e,h2,h3⟩:=seg_is (m:=linksF rt ws) (s:=s) (n:=rt.length) linksF_in h1
 have:segF mn mx ss ws rt s=e:=by
  unfold segF
  rw [hl,show hasB rt s=true by unfold hasB;rw [decide_eq_true (show s≥0 from h0),decide_eq_true h1];rfl]
  exact segE_eq h2
 rw [this]
 exact ⟨h2,h3⟩
end Go.AM.YtkgmmmhokgdcaaaGreat.Fl
namespace Go.AM.YtkgmmmhokgdcaaaGreat.Tp
open Go.Proofs
open Go.AM.YtkgmmmhokgdcaaaGreat.Re
open Go.AM.YtkgmmmhokgdcaaaGreat.Fl (StepT hasI mem_take_succ)
set_option maxRecDepth 100000
set_option maxHeartbeats 4000000
theorem made_st' {c:CalT} (hc:CalG c) {e a b:Int} {ns:List NeedT} {ws:List tWin.El} {y:List StT × Int} (h:makeG c e a b ns ws=some y):∀ x∈y.1,StB x:=by
 unfold makeG at h
 cases hr:rvalidF e a b ns ws <;> rw [hr] at h
 ·cases h
 ·rw [cond_true] at h
  obtain ⟨ch,_,h2,_⟩:=best_some h
  exact (stG_facts hc h2).2
def apBad (l:List Bk.El) (i:Nat):Bool:=decide (1≤i)&&decide ((getI l Bk.dflt i).2.1 < (getI l Bk.dflt (i - 1)).2.2.1)
def apF (l:List Bk.El):Bool:=!(List.range l.length).any (apBad l)
def apS:Spec:=plain fun
 | [.sl (.pair (.int .i64) (.pair (.int .i64) (.pair (.int .i64) (.int .i64)))) l]=>outV True (.bool (apF l))
 | _=>none
theorem apOk:SpecSound Tryz.prog 22 apS:=by
 refine soundP (envOf sigNil) Tryz.func22 (c:=body Tryz.f22) rfl (by kernel_rfl) rfl ?_
 intro args out hf hpre
 split at hf <;> try (cases hf;done)
 rename_i l
 cases hf
 refine ⟨Nat.le_of_ble_eq_true rfl,initI (args:=[.sl Bk l]) rfl ?_⟩
 refine factSl (t:=0) (ty:=Bk) rfl (fun hxs=>?_)
 have hmx:l.length≤9223372036854775807:=by have:=hxs.1;unfold maxLen at this;exact this
 obtain ⟨r,hr⟩:∃ r,r=apF l:=⟨_,rfl⟩
 rw [← hr]
 unfold apF at hr
 repeat' (first|refine zN ?_|refine zE ?_|refine zP ?_|refine pD ?_|refine zS ?_|refine zR ?_|refine zO ?_|refine zB ?_|refine zX ?_|refine zT ?_|refine skipI rfl ?_)
 refine loopI (σ:=Nat) (fun i=>[(3,.int .i64 i)]) (fun i=>[]) (fun i=>1≤i∧(i≤l.length∨i=1)∧∀ j,j < i→apBad l j=false) (fun i=>l.length+1 - i) 1 rfl (fun _=>rfl) rfl ?_ ?_ ?_
 ·refine ⟨by omega,by omega,fun j hj=>?_⟩
  obtain rfl:j=0:=by omega
  rfl
 ·repeat' (first|exact trivial|exact rfl|refine ⟨rfl,?_⟩|refine And.intro ?_ ?_)
 rintro i ⟨hi1,hi,hb⟩
 repeat' (first|refine zN ?_|refine zE ?_|refine zP ?_|refine pD ?_|refine zS ?_|refine zR ?_|refine zO ?_|refine zB ?_|refine zX ?_|refine zT ?_|refine skipI rfl ?_)
 refine condI rfl (fun c1=>?_) (fun c1=>?_)
 ·simp only [decide_eq_true_eq] at c1
  have hil:i < l.length:=by omega
  have hin:((i:Int)).toNat=i:=by omega
  have hin1:((i:Int) - 1).toNat=i - 1:=by omega
  repeat' (first|refine zN ?_|refine zE ?_|refine zP ?_|refine pD ?_|refine pC (by first|omega|(unfold In64;omega)) ?_|refine zS ?_|refine zR ?_|refine zO ?_|refine zB ?_|refine zX ?_|refine zT ?_|refine skipI rfl ?_)
  refine condI rfl (fun c2=>?_) (fun c2=>?_)
  ·have h9:apBad l i=true:=by
    simp only [hin,hin1] at c2
    unfold apBad
    rw [decide_eq_true hi1]
    exact c2
   rw [Fl.rng_yes hil h9] at hr
   have hr:r=false:=hr
   repeat' (first|refine zN ?_|refine zE ?_|refine zP ?_|refine pD ?_|refine zS ?_|refine zR ?_|refine zO ?_|refine zB ?_|refine zX ?_|refine zT ?_|refine skipI rfl ?_)
   refine endR rfl ?_
   repeat' (first|exact trivial|exact rfl|refine ⟨rfl,?_⟩|refine And.intro ?_ ?_)
   exact hr
  ·have h9:apBad l i=false:=by
    simp only [hin,hin1] at c2
    unfold apBad
    rw [decide_eq_true hi1]
    exact c2
   repeat' (first|refine zN ?_|refine zE ?_|refine zP ?_|refine pD ?_|refine zS ?_|refine zR ?_|refine zO ?_|refine zB ?_|refine zX ?_|refine zT ?_|refine skipI rfl ?_)
   refine roundI (i+1) rfl ?_ ?_ ?_
   ·refine ⟨by omega,by omega,fun j hj=>?_⟩
    by_cases hji:j=i
    ·subst hji;exact h9
    ·exact hb j (by omega)
   ·show l.length+1 - (i+1) < l.length+1 - i
    omega
   ·repeat' (first|exact trivial|with_reducible exact rfl|refine And.intro ?_ ?_)
    all_goals rfl
 ·simp only [decide_eq_false_iff_not] at c1
  rw [Fl.rng_no (fun j hj=>hb j (by omega))] at hr
  have hr:r=true:=hr
  repeat' (first|refine zN ?_|refine zE ?_|refine zP ?_|refine pD ?_|refine zS ?_|refine zR ?_|refine zO ?_|refine zB ?_|refine zX ?_|refine zT ?_|refine skipI rfl ?_)
  refine endR rfl ?_
  repeat' (first|exact trivial|exact rfl|refine ⟨rfl,?_⟩|refine And.intro ?_ ?_)
  exact hr
theorem ap_good {t:Nat} {T:List Bk.El} (h:GoodL t T):apF T=true:=by
 unfold apF
 rw [Fl.rng_no fun i hi=>?_]
 ·rfl
 unfold apBad
 by_cases h1:1≤i
 ·have:=List.pairwise_iff_getElem.1 h.ord (i - 1) i (by omega) hi (by omega)
  have e1:getI T Bk.dflt i=T[i]:=by simp [getI,List.getD,List.getElem?_eq_getElem hi]
  have e2:getI T Bk.dflt (i - 1)=T[i - 1]:=by simp [getI,List.getD,List.getElem?_eq_getElem (show i - 1 < T.length by omega)]
  rw [e1,e2,decide_eq_false (show ¬ (T[i]).2.1 < (T[i - 1]).2.2.1 from fun h2=>by
   have h3:(T[i - 1]).2.2.1≤(T[i]).2.1:=this
   exact absurd h2 (Int.not_lt.2 h3)),Bool.and_false]
 ·rw [decide_eq_false h1,Bool.false_and]
theorem calT_ends (x:List t4.El):Re.Ends 339 (calT x):=ends_all noCal_good (fun l hl y hy=>by
 have:l=[]:=List.eq_of_mem_replicate hl
 subst this
 cases hy) (fun b hb=>by
 unfold bksT someF at hb
 obtain ⟨d,hd,rfl⟩:=List.mem_map.1 hb
 obtain ⟨y,_,rfl⟩:=List.mem_map.1 hd
 have p1:=pick_b (c:=y.2.1) (n:=300) (by omega)
 have p2:=pick_b (c:=y.2.2.1) (n:=40) (by omega)
 show pickF y.2.1 300+1+pickF y.2.2.1 40≤339
 omega)
theorem made_low {B e a b:Int} {c:CalT} (hc:CalG c) (hE:Re.Ends B c) (he:0≤e) (heB:e≤B) (hB:B≤700000) {ns:List NeedT} {ws:List tWin.El} {y:List StT × Int} (h:makeG c e a b ns ws=some y) :
 ∀ x∈y.1,mSt x+100≤1000000∧sSt x+100≤1000000:=by
 have h2:=make_sh (k:=100) (a:=a) (b:=b) (ns:=ns) (ws:=ws) hc hE (by omega) he heB (by omega)
 rw [h] at h2
 have h3:=made_st' (good_sh hc hE (by omega) (by omega)) h2
 intro x hx
 have hs:=h3 (shS 100 x) (by
  show shS 100 x∈(shY 100 y).1
  exact List.mem_map.2 ⟨x,hx,rfl⟩)
 have h0:=made_st' hc h x hx
 have k1:mSt x+100+sMax x≤1000000:=hs.m1
 have k2:sSt x+100+sMax x≤1000000:=hs.s1
 have k3:1≤sMax x:=h0.l0
 omega
theorem chosen_low {e a b:Int} {xs:List StT} {ws:List WiT} (hv:Pl.validF e a b xs ws=true) (hl:∀ x∈xs,mSt x+100≤1000000∧sSt x+100≤1000000) (y:List (Int × Int)) (tool at':Int) :
 Pl.possF e a b xs ws (Pl.cDu xs y xs.length) (Pl.cMo a b y xs.length) (Pl.cDe a b y) (Pl.cTl xs tool) (Pl.cFa xs tool at')=true:=by
 have F:=Pl.valid_facts hv
 have hn:=F.n
 refine Pl.chosen_poss hv ⟨?_,fun i hi=>?_⟩ y tool at'
 ·have:=(hl _ (Pl.getI_mem (d:=Pl.tStage.dflt) (xs:=xs) (i:=((xs.length:Int) - 1).toNat) (by omega))).2
  show sSt _+50≤1000000
  omega
 ·have:=(hl _ (Pl.getI_mem (d:=Pl.tStage.dflt) (xs:=xs) hi)).1
  show mSt _+50≤1000000
  omega
def hasIS:Spec:=plain fun
 | [.sl (.int .i64) l,.int .i64 n]=>outV True (.bool (hasI l n))
 | _=>none
theorem hasIOk:SpecSound Tryz.prog 21 hasIS:=by
 refine soundP (envOf sigNil) Tryz.func21 (c:=body Tryz.f21) rfl (by kernel_rfl) rfl ?_
 intro args out hf hpre
 split at hf <;> try (cases hf;done)
 rename_i l n
 cases hf
 refine ⟨Nat.le_of_ble_eq_true rfl,initI (args:=[.sl Fl.tInt l,.int .i64 n]) rfl ?_⟩
 refine factSl (t:=0) (ty:=Fl.tInt) rfl (fun hxs=>?_)
 have hmx:List.length (α:=Int) l≤9223372036854775807:=by have:=hxs.1;unfold maxLen at this;exact this
 repeat' (first|refine zN ?_|refine zE ?_|refine zP ?_|refine pD ?_|refine zS ?_|refine zR ?_|refine zO ?_|refine zB ?_|refine zX ?_|refine zT ?_|refine skipI rfl ?_)
 refine loopI (σ:=Nat) (fun i=>[(5,.int .i64 i)]) (fun i=>[]) (fun i=>i≤List.length (α:=Int) l∧¬ n∈List.take (α:=Int) i l) (fun i=>List.length (α:=Int) l - i) 0 rfl (fun _=>rfl) rfl ?_ ?_ ?_
 ·exact ⟨Nat.zero_le _,by simp⟩
 ·repeat' (first|exact trivial|exact rfl|refine ⟨rfl,?_⟩|refine And.intro ?_ ?_)
 rintro i ⟨hi,hb⟩
 repeat' (first|refine zN ?_|refine zE ?_|refine zP ?_|refine pD ?_|refine zS ?_|refine zR ?_|refine zO ?_|refine zB ?_|refine zX ?_|refine zT ?_|refine skipI rfl ?_)
 refine condI rfl (fun c2=>?_) (fun c2=>?_)
 ·simp only [decide_eq_true_eq] at c2
  have hil:i < List.length (α:=Int) l:=by omega
  have hin:((i:Int)).toNat=i:=by omega
  have hm:=mem_take_succ (n:=n) hil
  repeat' (first|refine zN ?_|refine zE ?_|refine zP ?_|refine pD ?_|refine zS ?_|refine zR ?_|refine zO ?_|refine zB ?_|refine zX ?_|refine zT ?_|refine skipI rfl ?_)
  simp only [hin]
  refine condI rfl (fun c3=>?_) (fun c3=>?_)
  ·simp only [decide_eq_true_eq] at c3
   have c3:getI l 0 i=n:=c3
   repeat' (first|refine zN ?_|refine zE ?_|refine zP ?_|refine pD ?_|refine zS ?_|refine zR ?_|refine zO ?_|refine zB ?_|refine zX ?_|refine zT ?_|refine skipI rfl ?_)
   refine endR rfl ?_
   repeat' (first|exact trivial|exact rfl|refine ⟨rfl,?_⟩|refine And.intro ?_ ?_)
   unfold hasI
   exact decide_eq_true (List.take_subset _ _ (hm.2 (Or.inr c3.symm)))
  ·simp only [decide_eq_false_iff_not] at c3
   have c3:¬ getI l 0 i=n:=c3
   repeat' (first|refine zN ?_|refine zE ?_|refine zP ?_|refine pD ?_|refine zS ?_|refine zR ?_|refine zO ?_|refine zB ?_|refine zX ?_|refine zT ?_|refine skipI rfl ?_)
   refine roundI (i+1) rfl ?_ ?_ ?_
   ·exact ⟨by show i+1≤List.length (α:=Int) l;omega,fun h=>(hm.1 h).elim hb fun e=>c3 e.symm⟩
   ·show List.length (α:=Int) l - (i+1) < List.length (α:=Int) l - i
    omega
   ·repeat' (first|exact trivial|with_reducible exact rfl|refine And.intro ?_ ?_)
    all_goals rfl
 ·simp only [decide_eq_false_iff_not] at c2
  rw [List.take_of_length_le (show List.length (α:=Int) l≤i by omega)] at hb
  repeat' (first|refine zN ?_|refine zE ?_|refine zP ?_|refine pD ?_|refine zS ?_|refine zR ?_|refine zO ?_|refine zB ?_|refine zX ?_|refine zT ?_|refine skipI rfl ?_)
  refine endR rfl ?_
  repeat' (first|exact trivial|exact rfl|refine ⟨rfl,?_⟩|refine And.intro ?_ ?_)
  unfold hasI
  exact decide_eq_false hb
def dvA (out:List VisT) (rt:List Int) (f j:Nat):VisT:=(getI rt 0 (f+j),(getI out Pl.tVisit.dflt j).2)
def dvL (out:List VisT) (rt:List Int) (f n:Nat):List VisT:=(List.range n).map (dvA out rt f)
theorem dv_get {out:List VisT} {rt:List Int} {f n j:Nat} (h:j < n):getI (dvL out rt f n) Fl.tVis.dflt j=dvA out rt f j:=by
 unfold dvL
 simp [getI,List.getD,List.getElem?_map,List.getElem?_range h]
theorem dv_len {out:List VisT} {rt:List Int} {f n:Nat}:(dvL out rt f n).length=n:=by unfold dvL;rw [List.length_map,List.length_range]
theorem dv_take {out:List VisT} {rt:List Int} {f n:Nat}:dvL out rt f (n+1)=dvL out rt f n++[dvA out rt f n]:=by
 unfold dvL
 rw [List.range_succ,List.map_append]
 rfl
theorem dv_fst {out:List VisT} {rt:List Int} {f t:Nat} (h1:f≤t) (h2:t < rt.length):(dvL out rt f (t+1 - f)).map Prod.fst=(rt.take (t+1)).drop f:=by
 unfold dvL
 rw [List.map_map]
 refine List.ext_getElem (by rw [List.length_map,List.length_range,List.length_drop,List.length_take];omega) fun i h3 h4=>?_
 rw [List.length_map,List.length_range] at h3
 simp only [List.getElem_map,List.getElem_range,Function.comp_apply,List.getElem_drop,List.getElem_take]
 show getI rt 0 (f+i)=_
 simp [getI,List.getD,List.getElem?_eq_getElem (show f+i < rt.length by omega)]
theorem dv_time {out:List VisT} {rt:List Int} {f n:Nat} (h:∀ j,j < n→(0≤(getI out Pl.tVisit.dflt j).2.2.1∧(getI out Pl.tVisit.dflt j).2.2.1≤1000000)∧0≤(getI out Pl.tVisit.dflt j).2.2.2∧(getI out Pl.tVisit.dflt j).2.2.2≤1000000):Fl.TimeOk (dvL out rt f n):=by
 intro v hv
 unfold dvL at hv
 obtain ⟨j,hj,rfl⟩:=List.mem_map.1 hv
 have hj:=h j (List.mem_range.1 hj)
 exact ⟨Fl.time_iff.2 hj.1,Fl.time_iff.2 hj.2⟩
theorem dv_late {mn mx:Int} {ss:List StepT} {ws:List Fl.WinT} (hv:Fl.validF mn mx ss ws=true) {out:List VisT} {rt:List Int} {f t:Nat} (h1:f≤t) (h2:t < rt.length) (ht:Fl.TimeOk (dvL out rt f (t+1 - f)))
 (hk:∀ k,k < (Fl.winAll (Fl.linksF rt ws) (f:Int) (t+1 - f) (t+1 - f)).length→∀ w:WiT,w=getI (Fl.winAll (Fl.linksF rt ws) (f:Int) (t+1 - f) (t+1 - f)) tWin.dflt k→(0≤w.1∧w.1 < ((t+1 - f:Nat):Int)∧0≤w.2.1∧w.2.1 < ((t+1 - f:Nat):Int))∧(getI out Pl.tVisit.dflt w.2.1.toNat).2.2.1 - (getI out Pl.tVisit.dflt w.1.toNat).2.2.2≤w.2.2):Fl.lateQ (Fl.watL (dvL out rt f (t+1 - f)) 0 ws)=[]:=by
 refine Fl.kept_late hv (rt:=rt) (f:=f) (t:=t) (dv_fst h1 h2) h1 h2 dv_len ht ?_
 intro e he
 obtain ⟨k,hk1,hk2⟩:=Fl.mem_getI (d:=tWin.dflt) he
 obtain ⟨⟨a1,a2,a3,a4⟩,a5⟩:=hk k hk1 e hk2.symm
 rw [dv_get (show e.2.1.toNat < t+1 - f by omega),dv_get (show e.1.toNat < t+1 - f by omega)]
 exact a5
end Go.AM.YtkgmmmhokgdcaaaGreat.Tp
