/- WnV, WnT, WnU, WnR, CaLEx, CaLFi, CaLOr, CaLFr, CaRefT, WkBase, WkPick, WkMade, WkMadeV, WkChosen, WkRun. -/
import Derived.Test.YtmohhhbgcehnpaaGreatPw35
import Derived.Test.YtmohhhbgcehnpaaGreatPw22
import Derived.Test.YtmohhhbgcehnpaaGreatPw17
import Derived.Test.YtmohhhbgcehnpaaGreatPw23

section
set_option linter.all false
namespace Go.AM.YtmohhhbgcehnpaaGreat.Fl
open Go.Proofs
set_option maxRecDepth 100000
set_option maxHeartbeats 4000000
theorem getI_left {α:Type} {l r:List α} {d:α} {i:Nat} (h:i < l.length):getI (l++r) d i=getI l d i:=by
 unfold getI List.getD;rw [List.getElem?_append_left h]
theorem getI_snoc {α:Type} {l:List α} {x d:α}:getI (l++[x]) d l.length=x:=by
 unfold getI List.getD;rw [List.getElem?_append_right (Nat.le_refl _)];simp
theorem asc_nil {lo hi:Int}:ascF [] lo hi=true:=rfl
theorem asc_snoc {l:List Int} {lo hi x:Int} (h:ascF l lo hi=true) (h1:lo≤x) (h2:x≤hi) (h3:0 < l.length→getI l 0 (l.length - 1) < x):ascF (l++[x]) lo hi=true:=by
 unfold ascF at h ⊢
 rw [Bool.not_eq_true'] at h ⊢
 refine rng_no (fun i hil0=>?_)
 rw [List.length_append,List.length_singleton] at hil0
 by_cases hil:i < l.length
 ·have h4:ascBad lo hi l i=false:=by
   rw [List.any_eq_false] at h
   simpa using h i (List.mem_range.2 hil)
  unfold ascBad at h4 ⊢
  rw [getI_left hil,getI_left (show ((i:Int) - 1).toNat < l.length by omega)]
  exact h4
 ·obtain rfl:i=l.length:=by omega
  unfold ascBad
  rw [getI_snoc]
  have e1:inW x lo hi=true:=inW_iff.2 ⟨h1,h2⟩
  rw [e1]
  by_cases h0:0 < l.length
  ·rw [getI_left (show ((l.length:Int) - 1).toNat < l.length by omega)]
   have h5:=h3 h0
   rw [show ((l.length:Int) - 1).toNat=l.length - 1 by omega,decide_eq_false (show ¬ x≤getI l 0 (l.length - 1) by omega)]
   simp
  ·rw [decide_eq_false (show ¬ (l.length:Int) > 0 by omega)]
   rfl
theorem asc_one {lo hi x:Int} (h1:lo≤x) (h2:x≤hi):ascF [x] lo hi=true:=asc_snoc (l:=[]) asc_nil h1 h2 (fun h=>absurd h (by simp))
theorem asc_two {lo hi x y:Int} (h1:lo≤x) (h2:x < y) (h3:y≤hi):ascF [x,y] lo hi=true:=asc_snoc (l:=[x]) (asc_one h1 (by omega)) (by omega) h3 (fun _=>h2)
def WOk (n:Int) (ws:List WinT):Prop:=(List.range ws.length).any (winsBad n ws)=false
theorem wok_nil {n:Int}:WOk n []:=rfl
theorem wok_snoc {n:Int} {ws:List WinT} {w:WinT} (h:WOk n ws) (h1:rwF w n=true) (h2:folF ws w=true):WOk n (ws++[w]):=by
 unfold WOk at h ⊢
 refine rng_no (fun i hi=>?_)
 rw [List.length_append,List.length_singleton] at hi
 by_cases hil:i < ws.length
 ·have h4:winsBad n ws i=false:=by
   rw [List.any_eq_false] at h
   simpa using h i (List.mem_range.2 hil)
  unfold winsBad at h4 ⊢
  rw [getI_left hil,List.take_append_of_le_length (by omega)]
  exact h4
 ·obtain rfl:i=ws.length:=by omega
  unfold winsBad
  rw [getI_snoc,List.take_left,h1,h2]
  rfl
theorem valid_of {mn mx:Int} {ss:List StepT} {ws:List WinT} (h1:0≤mn) (h2:mn≤mx) (h3:mx≤10000) (h4:1≤ss.length) (h5:ss.length≤40) (h6:ws.length≤20)
 (h7:∀ s∈ss,stepF s (ss.length:Int)=true) (h8:WOk (ss.length:Int) ws):validF mn mx ss ws=true:=by
 unfold WOk at h8
 unfold validF movF
 rw [h8,inW_iff.2 (show (1:Int)≤(ss.length:Int)∧(ss.length:Int)≤40 by omega),decide_eq_true h1,decide_eq_true h2,decide_eq_true h3,decide_eq_false (show ¬ (ws.length:Int) > 20 by omega)]
 have:ss.any (fun s=>!stepF s (ss.length:Int))=false:=by
  rw [List.any_eq_false]
  intro s hs
  rw [h7 s hs]
  exact Bool.false_ne_true
 rw [this]
 rfl
theorem step_of {s:StepT} {n:Int} (h1:(stBk s=-1∧stLm s=0)∨(0≤stBk s∧stBk s≤n - 1∧1≤stLm s∧stLm s≤9)) (h2:1≤(stTl s).length∧(stTl s).length≤8) (h3:(stNx s).length≤4)
 (h4:1≤stRc s∧stRc s≤1000000) (h5:ascF (stTl s) 0 59=true) (h6:ascF (stNx s) 0 (n - 1)=true) (h7:1≤stMn s) (h8:stMn s≤stMx s) (h9:stMx s≤10000):stepF s n=true:=by
 unfold stepF
 simp only [Bool.and_eq_true,Bool.or_eq_true,decide_eq_true_eq,inW_iff]
 refine ⟨⟨⟨⟨⟨⟨⟨?_,by omega,by omega⟩,h4⟩,h5⟩,h6⟩,h7⟩,h8⟩,h9⟩
 rcases h1 with h1|h1
 ·exact .inl h1
 ·exact .inr ⟨⟨h1.1,h1.2.1⟩,h1.2.2⟩
theorem mk_step {n:Nat} {i:Nat} {y:Int6} (hi:i < n) (hn:n≤8):stepF (mkSt n i y) n=true:=by
 have bp:=fun (c n:Int) (h:0 < n)=>pick_b (c:=c) (n:=n) h
 have p1:=bp y.1 5 (by omega)
 have p2:=bp y.2.1 30 (by omega)
 have p3:=bp (y.2.1.tdiv 30) 20 (by omega)
 have p4:=bp y.2.2.1 6 (by omega)
 have p5:=bp (y.2.2.1.tdiv 12) 3 (by omega)
 have p6:=bp (y.2.2.2.1.tdiv 12) 3 (by omega)
 have p7:=bp (y.2.2.2.2.1.tdiv 4) ((i:Int)+1) (by omega)
 have p8:=bp y.2.2.2.2.2 3 (by omega)
 refine step_of ?_ ?_ ?_ ?_ ?_ ?_ ?_ ?_ ?_
 ·show ((mkBk i y).1=-1∧(mkBk i y).2=0)∨(0≤(mkBk i y).1∧(mkBk i y).1≤(n:Int) - 1∧1≤(mkBk i y).2∧(mkBk i y).2≤9)
  unfold mkBk
  cases decide (pickF y.2.2.2.2.1 4=0)
  ·exact .inl ⟨rfl,rfl⟩
  ·exact .inr ⟨by show 0≤pickF _ _;omega,by show pickF _ _≤_;omega,by show 1≤1+pickF _ _;omega,by show 1+pickF _ _≤9;omega⟩
 ·show 1≤(mkTl y).length∧(mkTl y).length≤8
  unfold mkTl
  cases decide (pickF (y.2.2.1.tdiv 6) 2=0) <;> simp
 ·show (mkNx n i y).length≤4
  unfold mkNx
  cases decide ((i:Int) < n - 1)&&decide (pickF y.2.2.2.1 12 > 0) <;> cases decide ((i:Int)+2+pickF (y.2.2.2.1.tdiv 12) 3 < n)&&decide (pickF (y.2.2.2.1.tdiv 36) 3=0) <;> simp
 ·show 1≤1+pickF _ _∧1+pickF _ _≤1000000
  omega
 ·show ascF (mkTl y) 0 59=true
  unfold mkTl
  cases decide (pickF (y.2.2.1.tdiv 6) 2=0)
  ·exact asc_one (by omega) (by omega)
  ·exact asc_two (by omega) (by omega) (by omega)
 ·show ascF (mkNx n i y) 0 ((n:Int) - 1)=true
  unfold mkNx
  cases h1:decide ((i:Int) < n - 1)&&decide (pickF y.2.2.2.1 12 > 0)
  ·exact asc_nil
  ·rw [Bool.and_eq_true,decide_eq_true_eq] at h1
   cases h2:decide ((i:Int)+2+pickF (y.2.2.2.1.tdiv 12) 3 < n)&&decide (pickF (y.2.2.2.1.tdiv 36) 3=0)
   ·exact asc_one (by omega) (by omega)
   ·rw [Bool.and_eq_true,decide_eq_true_eq] at h2
    exact asc_two (by omega) (by omega) (by omega)
 ·show 1≤1+pickF _ _
  omega
 ·show 1+pickF _ _≤1+pickF _ _+pickF _ _
  omega
 ·show 1+pickF _ _+pickF _ _≤10000
  omega
theorem rw_of {w:WinT} {n:Int} (h1:0≤w.1∧w.1≤n - 1) (h2:0≤w.2.1∧w.2.1≤n - 1) (h3:w.1≠w.2.1) (h4:0≤w.2.2∧w.2.2≤1000000):rwF w n=true:=by
 unfold rwF
 rw [inW_iff.2 h1,inW_iff.2 h2,inW_iff.2 h4,decide_eq_false h3]
 rfl
def LimOk (k:Int) (ws:List WinT):Prop:=∀ w∈ws,0≤w.2.2∧w.2.2≤k
theorem mkN_b {x:List Int6}:1≤mkN x∧mkN x≤8:=by unfold mkN;omega
theorem mk_wins {n:Nat} (hn:1≤n):∀ {r:List Int3} {acc:List WinT},WOk n acc→LimOk 160 acc→WOk n (r.foldl (step4 n) acc)∧LimOk 160 (r.foldl (step4 n) acc)∧(r.foldl (step4 n) acc).length≤acc.length+r.length
 | [],_,h,h2=>⟨h,h2,Nat.le_refl _⟩
 | w::r,acc,h,h2=>by
   show WOk n (r.foldl (step4 n) (step4 n acc w))∧LimOk 160 (r.foldl (step4 n) (step4 n acc w))∧(r.foldl (step4 n) (step4 n acc w)).length≤acc.length+(w::r).length
   have p1:=pick_b (c:=w.1) (n:=n) (by omega)
   have p2:=pick_b (c:=w.2.1) (n:=n) (by omega)
   have p3:=pick_b (c:=w.2.2) (n:=150) (by omega)
   unfold step4
   cases hf:fit4 acc (mkW4 n w)
   ·obtain ⟨a,b,c⟩:=mk_wins hn (r:=r) (acc:=acc) h h2
    exact ⟨a,b,by simp only [List.length_cons];exact Nat.le_trans c (by omega)⟩
   ·have hok:WOk n (acc++[mkW4 n w]):=by
     unfold fit4 at hf
     rw [Bool.and_eq_true,decide_eq_true_eq] at hf
     refine wok_snoc h (rw_of ?_ ?_ hf.1 ?_) ?_
     ·show 0≤pickF w.1 n∧pickF w.1 n≤(n:Int) - 1
      omega
     ·show 0≤pickF w.2.1 n∧pickF w.2.1 n≤(n:Int) - 1
      omega
     ·show 0≤10+pickF w.2.2 150∧10+pickF w.2.2 150≤1000000
      omega
     ·unfold folF wLast
      have:=hf.2
      unfold aftB at this
      exact this
    have hl:LimOk 160 (acc++[mkW4 n w]):=by
     intro v hv
     rcases List.mem_append.1 hv with hv|hv
     ·exact h2 v hv
     ·rw [List.mem_singleton.1 hv]
      show 0≤10+pickF w.2.2 150∧10+pickF w.2.2 150≤160
      omega
    obtain ⟨a,b,c⟩:=mk_wins hn (r:=r) hok hl
    refine ⟨a,b,Nat.le_trans c ?_⟩
    simp only [List.length_append,List.length_cons,List.length_nil]
    omega
theorem mkSs_len {x:List Int6}:(mkSs x).length=mkN x:=by unfold mkSs;rw [List.length_map,List.length_range]
theorem mk_valid {x:List Int6} {w:List Int3}:validF 2 5 (mkSs x) (mkWs x w)=true:=by
 have hn:=mkN_b (x:=x)
 have hw:=mk_wins (n:=mkN x) hn.1 (r:=w.take 4) (acc:=[]) wok_nil (by intro v hv;cases hv)
 have hl:=mkSs_len (x:=x)
 refine valid_of (by omega) (by omega) (by omega) (by omega) (by omega) ?_ ?_ ?_
 ·show (List.foldl (step4 (mkN x)) [] (w.take 4)).length≤20
  have h1:=hw.2.2
  have h2:(w.take 4).length≤4:=by rw [List.length_take];omega
  simp only [List.length_nil] at h1
  omega
 ·rw [hl]
  intro s hs
  unfold mkSs at hs
  obtain ⟨i,hi,rfl⟩:=List.mem_map.1 hs
  exact mk_step (List.mem_range.1 hi) hn.2
 ·rw [hl]
  exact hw.1
end Go.AM.YtmohhhbgcehnpaaGreat.Fl
end

section
set_option linter.all false
namespace Go.AM.YtmohhhbgcehnpaaGreat.Fl
open Go.Proofs
set_option maxRecDepth 100000
set_option maxHeartbeats 4000000
def InV (b:Int) (v:VisT):Prop:=(0≤v.2.2.1∧v.2.2.1+b≤1000000)∧0≤v.2.2.2∧v.2.2.2+b≤1000000
structure ShW (b:Int) (w u:WatT):Prop where
 x:u.1=w.1
 o:u.2.2.1=w.2.2.1
 l:u.2.2.2=w.2.2.2
 e:w.2.2.1=true→u.2.1=w.2.1+b
theorem time_in {n:Int} (h1:0≤n) (h2:n≤1000000):timeB n=true:=time_iff.2 ⟨h1,h2⟩
theorem lateQ_cons {p:Int × WatT} {q:List (Int × WatT)}:lateQ (p::q)=bif p.2.2.2.2 then p.1::lateQ q else lateQ q:=by
 unfold lateQ
 cases h:p.2.2.2.2 <;> simp [h]
theorem openQ_cons {p:Int × WatT} {q:List (Int × WatT)}:openQ (p::q)=bif p.2.2.2.1 then (p.1,p.2.2.1+p.2.1.2.2)::openQ q else openQ q:=by
 unfold openQ
 cases h:p.2.2.2.1 <;> simp [h]
theorem late_iff {vs:List VisT} {k:Int}:∀ {ws:List WinT} {i:Nat},k∈lateQ (watL vs i ws)↔∃ j:Nat,∃ x,ws[j]?=some x∧k=((i+j:Nat):Int)∧(watF x vs).2.2.2=true
 | [],i=>by simp [watL,lateQ]
 | y::r,i=>by
   unfold watL
   rw [lateQ_cons]
   have ih:=late_iff (vs:=vs) (k:=k) (ws:=r) (i:=i+1)
   constructor
   ·intro h
    have h3:(k=(i:Int)∧(watF y vs).2.2.2=true)∨k∈lateQ (watL vs (i+1) r):=by
     cases hl:(watF y vs).2.2.2
     ·simp only [hl,cond_false] at h
      exact .inr h
     ·simp only [hl,cond_true] at h
      rcases List.mem_cons.1 h with h|h
      ·exact .inl ⟨h,rfl⟩
      ·exact .inr h
    rcases h3 with ⟨h1,h2⟩|h
    ·exact ⟨0,y,rfl,by simpa using h1,h2⟩
    ·obtain ⟨j,x,h1,h2,h3⟩:=ih.1 h
     exact ⟨j+1,x,by simpa using h1,by rw [h2];congr 1;omega,h3⟩
   ·rintro ⟨j,x,h1,h2,h3⟩
    cases j with
    | zero =>
      have e:y=x:=by simpa using h1
      subst e
      simp only [h3,cond_true]
      exact List.mem_cons.2 (.inl (by rw [h2];rfl))
    | succ j =>
      have:=ih.2 ⟨j,x,by simpa using h1,by rw [h2];congr 1;omega,h3⟩
      cases (watF y vs).2.2.2
      ·exact this
      ·exact List.mem_cons.2 (.inr this)
theorem open_iff {vs:List VisT} {d:Int × Int}:∀ {ws:List WinT} {i:Nat},d∈openQ (watL vs i ws)↔∃ j:Nat,∃ x,ws[j]?=some x∧d=(((i+j:Nat):Int),(watF x vs).2.1+x.2.2)∧(watF x vs).2.2.1=true
 | [],i=>by simp [watL,openQ]
 | y::r,i=>by
   have hx:(watF y vs).1=y:=foldV_win
   unfold watL
   rw [openQ_cons]
   have ih:=open_iff (vs:=vs) (d:=d) (ws:=r) (i:=i+1)
   constructor
   ·intro h
    have h3:(d=((i:Int),(watF y vs).2.1+y.2.2)∧(watF y vs).2.2.1=true)∨d∈openQ (watL vs (i+1) r):=by
     cases hl:(watF y vs).2.2.1
     ·simp only [hl,cond_false] at h
      exact .inr h
     ·simp only [hl,cond_true,hx] at h
      rcases List.mem_cons.1 h with h|h
      ·exact .inl ⟨h,rfl⟩
      ·exact .inr h
    rcases h3 with ⟨h1,h2⟩|h
    ·exact ⟨0,y,rfl,by simpa using h1,h2⟩
    ·obtain ⟨j,x,h1,h2,h3⟩:=ih.1 h
     exact ⟨j+1,x,by simpa using h1,by rw [h2];congr 2;omega,h3⟩
   ·rintro ⟨j,x,h1,h2,h3⟩
    cases j with
    | zero =>
      have e:y=x:=by simpa using h1
      subst e
      simp only [h3,cond_true,hx]
      exact List.mem_cons.2 (.inl (by rw [h2];rfl))
    | succ j =>
      have:=ih.2 ⟨j,x,by simpa using h1,by rw [h2];congr 2;omega,h3⟩
      cases (watF y vs).2.2.1
      ·exact this
      ·exact List.mem_cons.2 (.inr this)
theorem visF_in {n:Int} {v:List Int3} {b:Int} (h0:0≤b) (h1:b≤1000):∀ u∈visF n v,InV b u:=by
 intro u hu
 unfold visF at hu
 obtain ⟨i,hi,rfl⟩:=List.mem_map.1 hu
 have hi:=List.mem_range.1 hi
 have t1:=visT_b (v:=v) (i:=i)
 have t2:=visT_b (v:=v) (i:=i+1)
 have p1:=pick_b (c:=(getI v tS3.dflt i).2.1) (n:=40) (by omega)
 unfold visA InV
 dsimp only
 omega
theorem mem_getI {α:Type} {q:List α} {d x:α} (h:x∈q):∃ i,i < q.length∧getI q d i=x:=by
 obtain ⟨i,hi,e⟩:=List.getElem_of_mem h
 exact ⟨i,hi,by simp [getI,List.getD,List.getElem?_eq_getElem hi,e]⟩
end Go.AM.YtmohhhbgcehnpaaGreat.Fl
end

section
set_option linter.all false
namespace Go.AM.YtmohhhbgcehnpaaGreat.Fl
open Go.Proofs
set_option maxRecDepth 100000
set_option maxHeartbeats 4000000
theorem keyLk {k k':Int × Int}:keyEq tLk k k'=decide (k=k'):=by
 rw [Bool.eq_iff_iff,decide_eq_true_eq]
 exact keyEq_iff (t:=tLk) rfl
theorem find_set {k k':Int × Int} {l:Int}:∀ {m:LkM},findK (setK m k l) k'=if k'=k then some l else findK m k'
 | []=>by
   show (bif keyEq tLk k' k then some l else none)=_
   rw [keyLk]
   by_cases h:k'=k
   ·rw [if_pos h,decide_eq_true h];rfl
   ·rw [if_neg h,decide_eq_false h];rfl
 | e::r=>by
   have ih:=find_set (k:=k) (k':=k') (l:=l) (m:=r)
   show findK (bif keyEq tLk k e.1 then (k,l)::r else e::setK r k l) k'=if k'=k then some l else (bif keyEq tLk k' e.1 then some e.2 else findK r k')
   rw [keyLk,keyLk]
   by_cases h:k=e.1
   ·rw [decide_eq_true h]
    show (bif keyEq tLk k' k then some l else findK r k')=_
    rw [keyLk]
    by_cases h2:k'=k
    ·rw [if_pos h2,decide_eq_true h2];rfl
    ·rw [if_neg h2,decide_eq_false h2,decide_eq_false (fun e'=>h2 (e'.trans h.symm))]
     rfl
   ·rw [decide_eq_false h]
    show (bif keyEq tLk k' e.1 then some e.2 else findK (setK r k l) k')=_
    rw [keyLk]
    by_cases h2:k'=e.1
    ·rw [decide_eq_true h2,if_neg (fun e'=>h (e'.symm.trans h2))];rfl
    ·rw [decide_eq_false h2]
     exact ih
theorem find_put {k k':Int × Int} {l:Int} {m:LkM}:(k'≠k→findK (putL m k l) k'=findK m k')∧∃ l',findK (putL m k l) k=some l'∧l'≤l∧(l'=l∨findK m k=some l')∧∀ l0,findK m k=some l0→l'≤l0:=by
 unfold putL
 cases hb:!(findK m k).isSome||decide (l < (findK m k).getD 0)
 ·rw [Bool.or_eq_false_iff,Bool.not_eq_false',decide_eq_false_iff_not] at hb
  refine ⟨fun _=>rfl,?_⟩
  cases hf:findK m k with
  | none=>rw [hf] at hb;cases hb.1
  | some l0 =>
    rw [hf] at hb
    have hb2:¬ l < l0:=hb.2
    exact ⟨l0,hf,by omega,.inr rfl,fun l1 h=>by cases h;exact Int.le_refl _⟩
 ·refine ⟨fun h=>?_,l,?_,Int.le_refl _,.inl rfl,fun l0 h=>?_⟩
  ·show findK (setK m k l) k'=_
   rw [find_set,if_neg h]
  ·show findK (setK m k l) k=_
   rw [find_set,if_pos rfl]
  ·rw [h] at hb
   have hb:(false||decide (l < l0))=true:=hb
   rw [Bool.false_or,decide_eq_true_eq] at hb
   omega
def lkS (w:WinT):Nat→List Int→Int→List (Int × Int)
 | _,[],_=>[]
 | i,s::r,f=>bif decide (s=w.2.1)&&decide (f≥0) then (f,(i:Int))::lkS w (i+1) r (-1)
   else bif decide (s=w.1) then lkS w (i+1) r (i:Int) else lkS w (i+1) r f
def putAll (l:Int) (ks:List (Int × Int)) (m:LkM):LkM:=ks.foldl (fun m k=>putL m k l) m
theorem addG_put {w:WinT}:∀ {r:List Int} {i:Nat} {f:Int} {m:LkM},addG w i r f m=putAll w.2.2 (lkS w i r f) m
 | [],_,_,_=>rfl
 | s::r,i,f,m=>by
   unfold addG lkS
   cases decide (s=w.2.1)&&decide (f≥0)
   ·cases decide (s=w.1)
    ·exact addG_put
    ·exact addG_put
   ·exact addG_put
structure LkOk (ws:List WinT) (L:WinT→List (Int × Int)) (m:LkM):Prop where
 a:∀ p∈m,∃ w∈ws,p.1∈L w
 b:∀ k l,findK m k=some l→∃ w∈ws,k∈L w∧w.2.2=l
 c:∀ w∈ws,∀ k∈L w,∃ l,findK m k=some l∧l≤w.2.2
structure LkPart (ws:List WinT) (L:WinT→List (Int × Int)) (u:WinT) (ks:List (Int × Int)) (m:LkM):Prop where
 a:∀ p∈m,(∃ w∈ws,p.1∈L w)∨p.1∈ks
 b:∀ k l,findK m k=some l→(∃ w∈ws,k∈L w∧w.2.2=l)∨(k∈ks∧u.2.2=l)
 c:∀ w∈ws,∀ k∈L w,∃ l,findK m k=some l∧l≤w.2.2
 d:∀ k∈ks,∃ l,findK m k=some l∧l≤u.2.2
theorem put_part {ws:List WinT} {L:WinT→List (Int × Int)} {u:WinT} {k:Int × Int} {ks:List (Int × Int)} {m:LkM} (h:LkPart ws L u ks m):LkPart ws L u (ks++[k]) (putL m k u.2.2):=by
 obtain ⟨_,l',f2,f3,f4,f5⟩:=find_put (k:=k) (k':=k) (l:=u.2.2) (m:=m)
 have f1:=fun k'=>(find_put (k:=k) (k':=k') (l:=u.2.2) (m:=m)).1
 refine ⟨fun p hp=>?_,fun q l hl=>?_,fun w hw q hq=>?_,fun q hq=>?_⟩
 ·rcases putL_mem hp with hp|rfl
  ·rcases h.a p hp with h|h
   ·exact .inl h
   ·exact .inr (by simp [h])
  ·exact .inr (by simp)
 ·by_cases e:q=k
  ·subst e
   rw [f2] at hl
   cases hl
   rcases f4 with e|e
   ·exact .inr ⟨by simp,e.symm⟩
   ·rcases h.b _ _ e with h|h
    ·exact .inl h
    ·exact .inr ⟨by simp [h.1],h.2⟩
  ·rw [f1 q e] at hl
   rcases h.b _ _ hl with h|h
   ·exact .inl h
   ·exact .inr ⟨by simp [h.1],h.2⟩
 ·obtain ⟨l0,h1,h2⟩:=h.c w hw q hq
  by_cases e:q=k
  ·subst e
   exact ⟨l',f2,by have:=f5 l0 h1;omega⟩
  ·exact ⟨l0,by rw [f1 q e];exact h1,h2⟩
 ·by_cases e:q=k
  ·subst e
   exact ⟨l',f2,f3⟩
  ·rcases List.mem_append.1 hq with hq|hq
   ·obtain ⟨l0,h1,h2⟩:=h.d q hq
    exact ⟨l0,by rw [f1 q e];exact h1,h2⟩
   ·exact absurd (List.mem_singleton.1 hq) e
theorem put_parts {ws:List WinT} {L:WinT→List (Int × Int)} {u:WinT}:∀ {r ks:List (Int × Int)} {m:LkM},LkPart ws L u ks m→LkPart ws L u (ks++r) (putAll u.2.2 r m)
 | [],ks,m,h=>by rw [List.append_nil];exact h
 | k::r,ks,m,h=>by
   have:=put_parts (r:=r) (put_part (k:=k) h)
   rw [List.append_assoc] at this
   exact this
theorem links_add {ws:List WinT} {L:WinT→List (Int × Int)} {u:WinT} {m:LkM} (h:LkOk ws L m):LkOk (ws++[u]) L (putAll u.2.2 (L u) m):=by
 have p:=put_parts (u:=u) (r:=L u) (ks:=[]) (m:=m) ⟨fun p hp=>.inl (h.a p hp),fun k l hl=>.inl (h.b k l hl),h.c,fun k hk=>by cases hk⟩
 rw [List.nil_append] at p
 refine ⟨fun q hq=>?_,fun k l hl=>?_,fun w hw k hk=>?_⟩
 ·rcases p.a q hq with ⟨w,h1,h2⟩|h
  ·exact ⟨w,by simp [h1],h2⟩
  ·exact ⟨u,by simp,h⟩
 ·rcases p.b k l hl with ⟨w,h1,h2⟩|h
  ·exact ⟨w,by simp [h1],h2⟩
  ·exact ⟨u,by simp,h⟩
 ·rcases List.mem_append.1 hw with hw|hw
  ·exact p.c w hw k hk
  ·rw [List.mem_singleton.1 hw] at hk ⊢
   exact p.d k hk
theorem links_all {L:WinT→List (Int × Int)}:∀ {r ws:List WinT} {m:LkM},LkOk ws L m→LkOk (ws++r) L (r.foldl (fun m w=>putAll w.2.2 (L w) m) m)
 | [],ws,m,h=>by rw [List.append_nil];exact h
 | u::r,ws,m,h=>by
   have:=links_all (r:=r) (links_add (u:=u) h)
   rw [List.append_assoc] at this
   exact this
def lkW (rt:List Int) (w:WinT):List (Int × Int):=lkS w 0 rt (-1)
theorem links_ok {rt:List Int} {ws:List WinT}:LkOk ws (lkW rt) (linksF rt ws):=by
 have h:=links_all (L:=lkW rt) (r:=ws) (ws:=[]) (m:=[]) ⟨fun p hp=>absurd hp List.not_mem_nil,fun k l hl=>(by cases hl),fun w hw=>absurd hw List.not_mem_nil⟩
 rw [List.nil_append] at h
 have e:linksF rt ws=ws.foldl (fun m w=>putAll w.2.2 (lkW rt w) m) []:=by
  unfold linksF
  congr 1
  funext m w
  exact addG_put
 rw [e]
 exact h
def opn (w:WinT) (rt:List Int):Nat→Int
 | 0=>-1
 | j+1=>bif decide (getI rt 0 j=w.2.1)&&decide (opn w rt j≥0) then -1 else bif decide (getI rt 0 j=w.1) then (j:Int) else opn w rt j
theorem lkS_iff {w:WinT} {rt:List Int} {f j:Int}:∀ {n i:Nat},n=rt.length - i→i≤rt.length→((f,j)∈lkS w i (rt.drop i) (opn w rt i)↔∃ b:Nat,j=(b:Int)∧i≤b∧b < rt.length∧getI rt 0 b=w.2.1∧opn w rt b=f∧0≤f)
 | 0,i,hn,hi=>by
   rw [List.drop_eq_nil_of_le (by omega)]
   constructor
   ·intro h;cases h
   ·rintro ⟨b,h1,h2,h3,_⟩;omega
 | n+1,i,hn,hi=>by
   have hil:i < rt.length:=by omega
   rw [Re.drop_getI (d:=(0:Int)) hil]
   have ih:=lkS_iff (w:=w) (rt:=rt) (f:=f) (j:=j) (n:=n) (i:=i+1) (by omega) (by omega)
   have hst:opn w rt (i+1)=bif decide (getI rt 0 i=w.2.1)&&decide (opn w rt i≥0) then -1 else bif decide (getI rt 0 i=w.1) then (i:Int) else opn w rt i:=rfl
   unfold lkS
   cases hc:decide (getI rt 0 i=w.2.1)&&decide (opn w rt i≥0)
   ·rw [hc] at hst
    have e:(bif false then (opn w rt i,(i:Int))::lkS w (i+1) (rt.drop (i+1)) (-1) else bif decide (getI rt 0 i=w.1) then lkS w (i+1) (rt.drop (i+1)) (i:Int) else lkS w (i+1) (rt.drop (i+1)) (opn w rt i))=lkS w (i+1) (rt.drop (i+1)) (opn w rt (i+1)):=by
     rw [hst]
     cases decide (getI rt 0 i=w.1) <;> rfl
    rw [e,ih]
    constructor
    ·rintro ⟨b,h1,h2,h3⟩;exact ⟨b,h1,by omega,h3⟩
    ·rintro ⟨b,h1,h2,h3,h4,h5,h6⟩
     refine ⟨b,h1,?_,h3,h4,h5,h6⟩
     by_cases hb:b=i
     ·subst hb
      rw [decide_eq_true h4,decide_eq_true (show opn w rt b≥0 by omega)] at hc
      cases hc
     ·omega
   ·rw [hc] at hst
    have hst:opn w rt (i+1)=-1:=hst
    rw [hst] at ih
    rw [Bool.and_eq_true,decide_eq_true_eq,decide_eq_true_eq] at hc
    show (f,j)∈(opn w rt i,(i:Int))::lkS w (i+1) (rt.drop (i+1)) (-1)↔_
    rw [List.mem_cons,ih]
    constructor
    ·rintro (h|⟨b,h1,h2,h3⟩)
     ·cases h
      exact ⟨i,rfl,Nat.le_refl _,hil,hc.1,rfl,hc.2⟩
     ·exact ⟨b,h1,by omega,h3⟩
    ·rintro ⟨b,h1,h2,h3,h4,h5,h6⟩
     by_cases hb:b=i
     ·subst hb
      exact .inl (by rw [h1,h5])
     ·exact .inr ⟨b,h1,by omega,h3,h4,h5,h6⟩
theorem lkW_iff {w:WinT} {rt:List Int} {f j:Int}:(f,j)∈lkW rt w↔∃ b:Nat,j=(b:Int)∧b < rt.length∧getI rt 0 b=w.2.1∧opn w rt b=f∧0≤f:=by
 have:=lkS_iff (w:=w) (rt:=rt) (f:=f) (j:=j) (n:=rt.length) (i:=0) rfl (Nat.zero_le _)
 unfold lkW
 rw [List.drop_zero] at this
 rw [show (-1:Int)=opn w rt 0 from rfl,this]
 constructor
 ·rintro ⟨b,h1,_,h3⟩;exact ⟨b,h1,h3⟩
 ·rintro ⟨b,h1,h3⟩;exact ⟨b,h1,Nat.zero_le _,h3⟩
def Opn (w:WinT) (rt:List Int) (a j:Nat):Prop:=a < j∧getI rt 0 a=w.1∧∀ k,a < k→k < j→getI rt 0 k≠w.1∧getI rt 0 k≠w.2.1
theorem opn_iff {w:WinT} {rt:List Int} (hw:w.1≠w.2.1) {a:Nat}:∀ {j:Nat},opn w rt j=(a:Int)↔Opn w rt a j
 | 0=>by
   constructor
   ·intro h;have h:(-1:Int)=a:=h;omega
   ·intro h;exact absurd h.1 (by omega)
 | j+1=>by
   have ih:=opn_iff hw (rt:=rt) (a:=a) (j:=j)
   unfold opn
   by_cases ht:getI rt 0 j=w.2.1
   ·have hno:¬ Opn w rt a (j+1):=by
     rintro ⟨h1,h2,h3⟩
     by_cases e:a=j
     ·subst e;exact hw (h2.symm.trans ht)
     ·exact (h3 j (by omega) (by omega)).2 ht
    have hf:¬ getI rt 0 j=w.1:=fun e=>hw (e.symm.trans ht)
    rw [decide_eq_true ht,decide_eq_false hf,Bool.true_and]
    by_cases hp:opn w rt j≥0
    ·rw [decide_eq_true hp]
     constructor
     ·intro h;have h:(-1:Int)=a:=h;omega
     ·intro h;exact absurd h hno
    ·rw [decide_eq_false hp]
     constructor
     ·intro h;have h:opn w rt j=a:=h;omega
     ·intro h;exact absurd h hno
   ·rw [decide_eq_false ht,Bool.false_and]
    by_cases hf:getI rt 0 j=w.1
    ·rw [decide_eq_true hf]
     constructor
     ·intro h
      have h:(j:Int)=a:=h
      obtain rfl:j=a:=by omega
      exact ⟨by omega,hf,fun k h1 h2=>by omega⟩
     ·rintro ⟨h1,h2,h3⟩
      by_cases e:a=j
      ·rw [e];rfl
      ·exact absurd hf (h3 j (by omega) (by omega)).1
    ·rw [decide_eq_false hf]
     show opn w rt j=a↔_
     rw [ih]
     constructor
     ·rintro ⟨h1,h2,h3⟩
      refine ⟨by omega,h2,fun k h4 h5=>?_⟩
      by_cases e:k=j
      ·subst e;exact ⟨hf,ht⟩
      ·exact h3 k h4 (by omega)
     ·rintro ⟨h1,h2,h3⟩
      refine ⟨?_,h2,fun k h4 h5=>h3 k h4 (by omega)⟩
      by_cases e:a=j
      ·subst e;exact absurd h2 hf
      ·omega
theorem lnkB_iff {w:WinT} {rt:List Int} {a j:Nat}:lnkB w rt a j=true↔Opn w rt a j∧getI rt 0 j=w.2.1:=by
 unfold lnkB Opn
 rw [Bool.and_eq_true,Bool.and_eq_true,Bool.and_eq_true,decide_eq_true_eq,decide_eq_true_eq,decide_eq_true_eq,Bool.not_eq_true',List.any_eq_false]
 constructor
 ·rintro ⟨⟨⟨h1,h2⟩,h3⟩,h4⟩
  refine ⟨⟨h1,h2,fun k h5 h6=>?_⟩,h3⟩
  have:=h4 (k - (a+1)) (List.mem_range.2 (by omega))
  rw [show a+1+(k - (a+1))=k by omega,Bool.or_eq_true,decide_eq_true_eq,decide_eq_true_eq,not_or] at this
  exact this
 ·rintro ⟨⟨h1,h2,h4⟩,h3⟩
  refine ⟨⟨⟨h1,h2⟩,h3⟩,fun k hk=>?_⟩
  have:=h4 (a+1+k) (by omega) (by have:=List.mem_range.1 hk;omega)
  rw [Bool.or_eq_true,decide_eq_true_eq,decide_eq_true_eq,not_or]
  exact this
theorem lkW_lnk {w:WinT} {rt:List Int} (hw:w.1≠w.2.1) {k:Int × Int}:k∈lkW rt w↔∃ a b:Nat,k=((a:Int),(b:Int))∧b < rt.length∧lnkB w rt a b=true:=by
 obtain ⟨f,j⟩:=k
 rw [lkW_iff]
 constructor
 ·rintro ⟨b,h1,h2,h3,h4,h5⟩
  obtain ⟨a,rfl⟩:∃ a:Nat,f=(a:Int):=⟨f.toNat,by omega⟩
  exact ⟨a,b,by rw [h1],h2,lnkB_iff.2 ⟨(opn_iff hw).1 h4,h3⟩⟩
 ·rintro ⟨a,b,h1,h2,h3⟩
  cases h1
  obtain ⟨h4,h5⟩:=lnkB_iff.1 h3
  exact ⟨b,rfl,h2,h5,(opn_iff hw).2 h4,by omega⟩
theorem win_ne {mn mx:Int} {ss:List StepT} {ws:List WinT} (F:FlowSm mn mx ss ws) {w:WinT} (hw:w∈ws):w.1≠w.2.1:=by
 obtain ⟨i,hi,he⟩:=mem_getI (d:=tWin.dflt) hw
 have h:=F.wn i hi
 rw [he] at h
 unfold rwF at h
 simp only [Bool.and_eq_true,Bool.not_eq_true',decide_eq_false_iff_not] at h
 exact h.1.2
def TimeOk (l:List VisT):Prop:=∀ v∈l,timeB v.2.2.1=true∧timeB v.2.2.2=true
def BadAt (w:WinT) (l:List VisT) (j:Nat):Prop:=getI (l.map Prod.fst) 0 j=w.2.1∧0≤opn w (l.map Prod.fst) j∧(getI l tVis.dflt j).2.2.1 - (getI l tVis.dflt (opn w (l.map Prod.fst) j).toNat).2.2.2 > w.2.2
structure WatAt (w:WinT) (l:List VisT) (j:Nat) (s:WatT):Prop where
 x:s.1=w
 o:s.2.2.1=decide (0≤opn w (l.map Prod.fst) j)
 e:0≤opn w (l.map Prod.fst) j→s.2.1=(getI l tVis.dflt (opn w (l.map Prod.fst) j).toNat).2.2.2
 l:s.2.2.2=true↔∃ b,b < j∧BadAt w l b
theorem wat_at {w:WinT} (hw:w.1≠w.2.1) {l:List VisT} (ht:TimeOk l):∀ {j:Nat},j≤l.length→WatAt w l j ((l.take j).foldl stepV (w,0,false,false))
 | 0,_=>⟨rfl,rfl,fun h=>by have h:(0:Int)≤-1:=h;omega,by
  constructor
  ·intro h;cases h
  ·rintro ⟨b,hb,_⟩;omega⟩
 | j+1,hj=>by
   have hjl:j < l.length:=by omega
   have h:=wat_at hw ht (j:=j) (by omega)
   rw [Re.take_getI (d:=tVis.dflt) hjl,List.foldl_append]
   show WatAt w l (j+1) (stepV ((l.take j).foldl stepV (w,0,false,false)) (getI l tVis.dflt j))
   generalize (l.take j).foldl stepV (w,0,false,false)=s at *
   have hg:getI (l.map Prod.fst) 0 j=(getI l tVis.dflt j).1:=by simp [getI,List.getD,List.getElem?_map,List.getElem?_eq_getElem hjl]
   have hst:opn w (l.map Prod.fst) (j+1)=bif decide (getI (l.map Prod.fst) 0 j=w.2.1)&&decide (opn w (l.map Prod.fst) j≥0) then -1 else bif decide (getI (l.map Prod.fst) 0 j=w.1) then (j:Int) else opn w (l.map Prod.fst) j:=rfl
   obtain ⟨t1,t2⟩:=ht _ (fl_mem (d:=tVis.dflt) hjl)
   have hlast:∀ P:Prop,(BadAt w l j↔P)→((∃ b,b < j+1∧BadAt w l b)↔(∃ b,b < j∧BadAt w l b)∨P):=by
    intro P hP
    constructor
    ·rintro ⟨b,h1,h2⟩
     by_cases e:b=j
     ·subst e;exact .inr (hP.1 h2)
     ·exact .inl ⟨b,by omega,h2⟩
    ·rintro (⟨b,h1,h2⟩|h)
     ·exact ⟨b,by omega,h2⟩
     ·exact ⟨j,by omega,hP.2 h⟩
   unfold stepV
   rw [t1,t2]
   show WatAt w l (j+1) (seeF s (getI l tVis.dflt j))
   unfold seeF
   rw [h.x]
   have hbad:BadAt w l j↔getI (l.map Prod.fst) 0 j=w.2.1∧0≤opn w (l.map Prod.fst) j∧(getI l tVis.dflt j).2.2.1 - (getI l tVis.dflt (opn w (l.map Prod.fst) j).toNat).2.2.2 > w.2.2:=Iff.rfl
   rw [hg] at hst hbad
   obtain ⟨v,hv⟩:∃ v,v=getI l tVis.dflt j:=⟨_,rfl⟩
   rw [← hv] at hst hbad ⊢
   by_cases c1:v.1=w.2.1
   ·rw [decide_eq_true c1,decide_eq_false (show ¬ v.1=w.1 from fun e=>hw (e.symm.trans c1)),Bool.true_and] at hst
    rw [decide_eq_true c1]
    have ho:¬ 0≤opn w (l.map Prod.fst) (j+1):=by
     rw [hst]
     by_cases hp:opn w (l.map Prod.fst) j≥0
     ·rw [decide_eq_true hp];show ¬ (0:Int)≤-1;omega
     ·rw [decide_eq_false hp];exact hp
    refine ⟨rfl,(decide_eq_false ho).symm,fun h=>absurd h ho,?_⟩
    rw [hlast _ hbad]
    show (s.2.2.2||(s.2.2.1&&decide (v.2.2.1 > s.2.1+w.2.2)))=true↔_
    rw [Bool.or_eq_true,Bool.and_eq_true,h.l,h.o,decide_eq_true_eq,decide_eq_true_eq]
    refine or_congr Iff.rfl ⟨fun ⟨h1,h2⟩=>⟨c1,h1,by rw [h.e h1] at h2;omega⟩,fun ⟨_,h1,h2⟩=>⟨h1,by rw [h.e h1];omega⟩⟩
   ·rw [decide_eq_false c1,Bool.false_and] at hst
    rw [decide_eq_false c1]
    have hb2:¬ BadAt w l j:=fun hb=>c1 (hbad.1 hb).1
    by_cases c2:v.1=w.1
    ·rw [decide_eq_true c2] at hst
     have hst:opn w (l.map Prod.fst) (j+1)=(j:Int):=hst
     rw [decide_eq_true c2]
     refine ⟨rfl,(decide_eq_true (by rw [hst];omega)).symm,fun _=>?_,?_⟩
     ·show v.2.2.2=_
      rw [hst,show ((j:Int)).toNat=j by omega,← hv]
     ·rw [hlast False ⟨fun hb=>hb2 hb,fun h=>h.elim⟩,or_false]
      exact h.l
    ·rw [decide_eq_false c2] at hst
     have hst:opn w (l.map Prod.fst) (j+1)=opn w (l.map Prod.fst) j:=hst
     rw [decide_eq_false c2]
     refine ⟨h.x,by rw [hst];exact h.o,by rw [hst];exact h.e,?_⟩
     rw [hlast False ⟨fun hb=>hb2 hb,fun h=>h.elim⟩,or_false]
     exact h.l
end Go.AM.YtmohhhbgcehnpaaGreat.Fl
end

section
set_option linter.all false
namespace Go.AM.YtmohhhbgcehnpaaGreat.Fl
open Go.Proofs
set_option maxRecDepth 100000
set_option maxHeartbeats 4000000
theorem winAt_mem {m:LkM} {f:Int} {i j:Nat} {e:WinT}:e∈winAt m f i j↔∃ l,findK m (f+(i:Int),f+(j:Int))=some l∧e=((i:Int),(j:Int),l):=by
 unfold winAt
 cases h:findK m (f+(i:Int),f+(j:Int)) with
 | none=>simp
 | some l=>simp
theorem winRow_mem {m:LkM} {f:Int} {i:Nat} {e:WinT}:∀ {k:Nat},e∈winRow m f i k↔∃ j,j < k∧e∈winAt m f i j
 | 0=>by
   constructor
   ·intro h;cases h
   ·rintro ⟨j,hj,_⟩;omega
 | k+1=>by
   show e∈winRow m f i k++winAt m f i k↔_
   rw [List.mem_append,winRow_mem (k:=k)]
   constructor
   ·rintro (⟨j,h1,h2⟩|h)
    ·exact ⟨j,by omega,h2⟩
    ·exact ⟨k,by omega,h⟩
   ·rintro ⟨j,h1,h2⟩
    by_cases hj:j=k
    ·subst hj;exact .inr h2
    ·exact .inl ⟨j,by omega,h2⟩
theorem winAll_mem {m:LkM} {f:Int} {n:Nat} {e:WinT}:∀ {k:Nat},e∈winAll m f n k↔∃ i,i < k∧∃ j,j < n∧e∈winAt m f i j
 | 0=>by
   constructor
   ·intro h;cases h
   ·rintro ⟨j,hj,_⟩;omega
 | k+1=>by
   show e∈winAll m f n k++winRow m f k n↔_
   rw [List.mem_append,winAll_mem (k:=k),winRow_mem]
   constructor
   ·rintro (⟨j,h1,h2⟩|h)
    ·exact ⟨j,by omega,h2⟩
    ·exact ⟨k,by omega,h⟩
   ·rintro ⟨j,h1,h2⟩
    by_cases hj:j=k
    ·subst hj;exact .inr h2
    ·exact .inl ⟨j,by omega,h2⟩
theorem count_or {p q:Nat→Bool}:∀ {l:List Nat},(l.filter fun j=>p j||q j).length≤(l.filter p).length+(l.filter q).length
 | []=>by simp
 | x::l=>by
   have ih:=count_or (p:=p) (q:=q) (l:=l)
   rw [List.filter_cons,List.filter_cons,List.filter_cons]
   cases hp:p x <;> cases hq:q x <;> simp <;> omega
theorem count_one {p:Nat→Bool} (h:∀ a b,a < b→p a=true→p b=false):∀ {k:Nat},((List.range k).filter p).length≤1∧(((List.range k).filter p).length=1→∃ a,a < k∧p a=true)
 | 0=>by simp
 | k+1=>by
   obtain ⟨h1,h2⟩:=count_one h (k:=k)
   rw [List.range_succ,List.filter_append,List.length_append]
   cases hp:p k
   ·rw [show ([k].filter p)=[] by simp [hp]]
    exact ⟨h1,fun h3=>by obtain ⟨a,h4,h5⟩:=h2 h3;exact ⟨a,by omega,h5⟩⟩
   ·rw [show ([k].filter p)=[k] by simp [hp]]
    have h3:((List.range k).filter p).length=0:=by
     by_cases h4:((List.range k).filter p).length=1
     ·obtain ⟨a,h5,h6⟩:=h2 h4
      rw [h a k h5 h6] at hp
      cases hp
     ·omega
    rw [h3]
    exact ⟨Nat.le_refl _,fun _=>⟨k,by omega,hp⟩⟩
def lkB (rt:List Int) (f:Int) (i:Nat) (w:WinT) (j:Nat):Bool:=decide ((f+(i:Int),f+(j:Int))∈lkW rt w)
theorem count_ws {rt:List Int} {f:Int} {i k:Nat}:∀ {ws:List WinT},(∀ w∈ws,w.1≠w.2.1)→((List.range k).filter fun j=>ws.any fun w=>lkB rt f i w j).length≤ws.length
 | [],_=>by simp
 | w::ws,hw=>by
   have ih:=count_ws (rt:=rt) (f:=f) (i:=i) (k:=k) (ws:=ws) (fun u hu=>hw u (by simp [hu]))
   have h1:((List.range k).filter (lkB rt f i w)).length≤1:=(count_one (p:=lkB rt f i w) (fun a b hab ha=>by
    unfold lkB at ha ⊢
    rw [decide_eq_true_eq,lkW_lnk (hw w (by simp))] at ha
    rw [decide_eq_false_iff_not,lkW_lnk (hw w (by simp))]
    obtain ⟨a1,b1,h1,h2,h3⟩:=ha
    rintro ⟨a2,b2,h4,h5,h6⟩
    obtain ⟨⟨h7,h8,h9⟩,h10⟩:=lnkB_iff.1 h3
    obtain ⟨⟨k7,k8,k9⟩,k10⟩:=lnkB_iff.1 h6
    have e1:f+(i:Int)=a1:=congrArg Prod.fst h1
    have e2:f+(i:Int)=a2:=congrArg Prod.fst h4
    have e3:f+(a:Int)=b1:=congrArg Prod.snd h1
    have e4:f+(b:Int)=b2:=congrArg Prod.snd h4
    exact (k9 b1 (by omega) (by omega)).2 h10) (k:=k)).1
   have h2:=count_or (p:=lkB rt f i w) (q:=fun j=>ws.any fun w=>lkB rt f i w j) (l:=List.range k)
   show ((List.range k).filter fun j=>lkB rt f i w j||ws.any fun w=>lkB rt f i w j).length≤ws.length+1
   omega
theorem winRow_ws {rt:List Int} {ws:List WinT} {f:Int} {i:Nat}:∀ {k:Nat},(winRow (linksF rt ws) f i k).length≤((List.range k).filter fun j=>ws.any fun w=>lkB rt f i w j).length
 | 0=>by show (0:Nat)≤_;omega
 | k+1=>by
   have ih:=winRow_ws (rt:=rt) (ws:=ws) (f:=f) (i:=i) (k:=k)
   show (winRow (linksF rt ws) f i k++winAt (linksF rt ws) f i k).length≤_
   rw [List.length_append,List.range_succ,List.filter_append,List.length_append]
   have h:(winAt (linksF rt ws) f i k).length≤([k].filter fun j=>ws.any fun w=>lkB rt f i w j).length:=by
    unfold winAt
    cases hf:findK (linksF rt ws) (f+(i:Int),f+(k:Int)) with
    | none=>exact Nat.zero_le _
    | some l =>
      obtain ⟨w,hw,hk,_⟩:=(links_ok (rt:=rt) (ws:=ws)).b _ _ hf
      have:(ws.any fun w=>lkB rt f i w k)=true:=List.any_eq_true.2 ⟨w,hw,by unfold lkB;exact decide_eq_true hk⟩
      rw [show ([k].filter fun j=>ws.any fun w=>lkB rt f i w j)=[k] by simp [this]]
      exact Nat.le_refl _
   omega
theorem winAll_ws {rt:List Int} {ws:List WinT} (hw:∀ w∈ws,w.1≠w.2.1) {f:Int} {n:Nat}:∀ {k:Nat},(winAll (linksF rt ws) f n k).length≤k * ws.length
 | 0=>by show (0:Nat)≤_;omega
 | k+1=>by
   have ih:=winAll_ws hw (rt:=rt) (f:=f) (n:=n) (k:=k)
   have h1:=winRow_ws (rt:=rt) (ws:=ws) (f:=f) (i:=k) (k:=n)
   have h2:=count_ws (rt:=rt) (f:=f) (i:=k) (k:=n) hw
   show (winAll (linksF rt ws) f n k++winRow (linksF rt ws) f k n).length≤_
   rw [List.length_append,Nat.succ_mul]
   omega
theorem sub_get {α:Type} {d:α} {l:List α} {f t k:Nat} (h:f+k≤t):getI ((l.take (t+1)).drop f) d k=getI l d (f+k):=by
 unfold getI List.getD
 rw [List.getElem?_drop,List.getElem?_take,if_pos (by omega)]
theorem Opn_sub {w:WinT} {rt:List Int} {f t a b:Nat} (h:f+b≤t):Opn w ((rt.take (t+1)).drop f) a b↔Opn w rt (f+a) (f+b):=by
 unfold Opn
 constructor
 ·rintro ⟨h1,h2,h3⟩
  rw [sub_get (by omega)] at h2
  refine ⟨by omega,h2,fun k h4 h5=>?_⟩
  have:=h3 (k - f) (by omega) (by omega)
  rw [sub_get (by omega),show f+(k - f)=k by omega] at this
  exact this
 ·rintro ⟨h1,h2,h3⟩
  refine ⟨by omega,by rw [sub_get (by omega)];exact h2,fun k h4 h5=>?_⟩
  rw [sub_get (by omega)]
  exact h3 (f+k) (by omega) (by omega)
theorem bad_iff {w:WinT} (hw:w.1≠w.2.1) {rt:List Int} {l:List VisT} {f t b:Nat} (hs:l.map Prod.fst=(rt.take (t+1)).drop f) (hb:f+b≤t):BadAt w l b↔∃ a:Nat,lnkB w rt (f+a) (f+b)=true∧(getI l tVis.dflt b).2.2.1 - (getI l tVis.dflt a).2.2.2 > w.2.2:=by
 unfold BadAt
 rw [hs,sub_get hb]
 constructor
 ·rintro ⟨h1,h2,h3⟩
  obtain ⟨a,ha⟩:∃ a:Nat,opn w ((rt.take (t+1)).drop f) b=(a:Int):=⟨_,(Int.toNat_of_nonneg h2).symm⟩
  rw [ha] at h3
  exact ⟨a,lnkB_iff.2 ⟨(Opn_sub hb).1 ((opn_iff hw).1 ha),h1⟩,h3⟩
 ·rintro ⟨a,h1,h2⟩
  obtain ⟨h3,h4⟩:=lnkB_iff.1 h1
  have h5:=(opn_iff hw).2 ((Opn_sub (t:=t) hb).2 h3)
  exact ⟨h4,by rw [h5];omega,by rw [h5];exact h2⟩
def over (l:List VisT) (e:WinT):Bool:=decide ((getI l tVis.dflt e.2.1.toNat).2.2.1 - (getI l tVis.dflt e.1.toNat).2.2.2 > e.2.2)
theorem req_late {mn mx:Int} {ss:List StepT} {ws:List WinT} (hv:validF mn mx ss ws=true) {rt:List Int} {l:List VisT} {f t:Nat} (hs:l.map Prod.fst=(rt.take (t+1)).drop f) (hft:f≤t) (ht:t < rt.length) (hl:l.length=t+1 - f) (htm:TimeOk l) :
 (winAll (linksF rt ws) (f:Int) (t+1 - f) (t+1 - f)).any (over l)=decide (((lateQ (watL l 0 ws)).length:Int) > 0):=by
 have F:=flow_sm hv
 rw [Bool.eq_iff_iff,List.any_eq_true,decide_eq_true_eq]
 have hpos:((lateQ (watL l 0 ws)).length:Int) > 0↔∃ k,k∈lateQ (watL l 0 ws):=by
  constructor
  ·intro h
   exact ⟨_,fl_mem (d:=(0:Int)) (i:=0) (by omega)⟩
  ·rintro ⟨k,hk⟩
   have:=List.length_pos_of_mem hk
   omega
 rw [hpos]
 have hall:∀ {w:WinT},w∈ws→((watF w l).2.2.2=true↔∃ b,b < l.length∧BadAt w l b):=fun {w} hw=>by
  have h:=(wat_at (win_ne F hw) htm (j:=l.length) (Nat.le_refl _)).l
  rw [List.take_length] at h
  exact h
 constructor
 ·rintro ⟨e,he,ho⟩
  obtain ⟨i,hi,j,hj,he⟩:=winAll_mem.1 he
  obtain ⟨lim,h1,rfl⟩:=winAt_mem.1 he
  obtain ⟨w,hw,h2,h3⟩:=(links_ok (rt:=rt) (ws:=ws)).b _ _ h1
  obtain ⟨a,b,h4,h5,h6⟩:=(lkW_lnk (win_ne F hw)).1 h2
  have e1:(f:Int)+(i:Int)=a:=congrArg Prod.fst h4
  have e2:(f:Int)+(j:Int)=b:=congrArg Prod.snd h4
  obtain rfl:a=f+i:=by omega
  obtain rfl:b=f+j:=by omega
  unfold over at ho
  have ho:=of_decide_eq_true ho
  rw [show ((i:Int),(j:Int),lim).2.1.toNat=j by show ((j:Int)).toNat=j;omega,show ((i:Int),(j:Int),lim).1.toNat=i by show ((i:Int)).toNat=i;omega] at ho
  have hbad:BadAt w l j:=(bad_iff (win_ne F hw) hs (by omega)).2 ⟨i,h6,by rw [h3];exact ho⟩
  obtain ⟨k,hk,hke⟩:=mem_getI (d:=tWin.dflt) hw
  have hkq:ws[k]?=some w:=by
   rw [List.getElem?_eq_getElem hk]
   simp [getI,List.getD,List.getElem?_eq_getElem hk] at hke
   rw [hke]
  exact ⟨(k:Int),late_iff.2 ⟨k,w,hkq,by rw [Nat.zero_add],(hall hw).2 ⟨j,by omega,hbad⟩⟩⟩
 ·rintro ⟨k,hk⟩
  obtain ⟨q,w,h1,_,h3⟩:=late_iff.1 hk
  have hw:w∈ws:=List.mem_of_getElem? h1
  obtain ⟨b,hb,hbad⟩:=(hall hw).1 h3
  obtain ⟨a,h4,h5⟩:=(bad_iff (win_ne F hw) hs (by omega)).1 hbad
  obtain ⟨lim,h6,h7⟩:=(links_ok (rt:=rt) (ws:=ws)).c w hw ((f:Int)+(a:Int),(f:Int)+(b:Int)) ((lkW_lnk (win_ne F hw)).2 ⟨f+a,f+b,by rw [Int.natCast_add,Int.natCast_add],by omega,h4⟩)
  have hab:f+a < f+b:=(lnkB_iff.1 h4).1.1
  refine ⟨((a:Int),(b:Int),lim),winAll_mem.2 ⟨a,by omega,b,by omega,winAt_mem.2 ⟨lim,h6,rfl⟩⟩,?_⟩
  unfold over
  refine decide_eq_true ?_
  show (getI l tVis.dflt ((b:Int)).toNat).2.2.1 - (getI l tVis.dflt ((a:Int)).toNat).2.2.2 > lim
  rw [show ((b:Int)).toNat=b by omega,show ((a:Int)).toNat=a by omega]
  omega
theorem vis_time {n:Int} {v:List Int3}:TimeOk (visF n v):=by
 intro u hu
 obtain ⟨⟨h1,h2⟩,h3,h4⟩:=visF_in (b:=0) (Int.le_refl _) (by omega) u hu
 exact ⟨time_in h1 (by omega),time_in h3 (by omega)⟩
end Go.AM.YtmohhhbgcehnpaaGreat.Fl
end

section
set_option linter.all false
namespace Go.AM.YtmohhhbgcehnpaaGreat
open Go.Proofs
set_option maxRecDepth 100000
set_option maxHeartbeats 8000000
structure Kept (xss:List (List Bk.El)) (kept:List Bk.El):Prop where
 mem:∀ c,0≤tlB c→(inC xss c↔c∈kept)
 len:lenF xss=kept.length
 pos:∀ c∈kept,0≤tlB c
def clashB (b c:Bk.El):Bool:=decide (c.1=b.1)&&decide (c.2.1 < b.2.2.1)&&decide (b.2.1 < c.2.2.1)
theorem clash_iff {b c:Bk.El}:clashB b c=true↔tlB c=tlB b∧meet c b:=by
 unfold clashB
 simp only [Bool.and_eq_true,decide_eq_true_eq]
 exact ⟨fun ⟨⟨h1,h2⟩,h3⟩=>⟨h1,h2,h3⟩,fun ⟨h1,h2,h3⟩=>⟨⟨h1,h2⟩,h3⟩⟩
theorem Kept.free {xss:List (List Bk.El)} {kept:List Bk.El} (h:Kept xss kept) (g:CalG xss) (b:Bk.El):freeF xss b=(!(kept.any (clashB b))&&validB b.1 b.2.1 b.2.2.1 b.2.2.2):=by
 rw [Bool.eq_iff_iff,free_iff,Bool.and_eq_true,validB_iff]
 constructor
 ·rintro ⟨h1,h2⟩
  refine ⟨?_,h1⟩
  rw [Bool.not_eq_true',List.any_eq_false]
  intro c hc hcl
  obtain ⟨h3,h4⟩:=clash_iff.1 hcl
  have h5:=(h.mem c (h.pos c hc)).2 hc
  unfold inC at h5
  rw [h3] at h5
  exact h2 c h5 h4
 ·rintro ⟨h1,h2⟩
  refine ⟨h2,fun c hc hm=>?_⟩
  rw [Bool.not_eq_true',List.any_eq_false] at h1
  have ht:tlB c=tlB b:=by
   have:=((g.tool h2.t0 h2.t1).all c hc).2
   have:=h2.t0
   have:=((g.tool h2.t0 h2.t1).all c hc).1.t0
   omega
  exact h1 c ((h.mem c (by rw [ht];exact h2.t0)).1 (by unfold inC;rw [ht];exact hc)) (clash_iff.2 ⟨ht,hm⟩)
end Go.AM.YtmohhhbgcehnpaaGreat
end

section
set_option linter.all false
namespace Go.AM.YtmohhhbgcehnpaaGreat
open Go.Proofs
set_option maxRecDepth 100000
set_option maxHeartbeats 8000000
end Go.AM.YtmohhhbgcehnpaaGreat
end

section
set_option linter.all false
namespace Go.AM.YtmohhhbgcehnpaaGreat
open Go.Proofs
set_option maxRecDepth 100000
set_option maxHeartbeats 8000000
structure Apart (m:List Bk.El):Prop where
 good:∀ b∈m,GoodB b
 pw:m.Pairwise fun a b=>¬ (tlB a=tlB b∧meet a b)
theorem getI_mem {m:List Bk.El} {i:Nat} (h:i < m.length):getI m Bk.dflt i∈m:=by
 have:getI m Bk.dflt i=m[i]:=by simp [getI,List.getD,List.getElem?_eq_getElem h]
 rw [this];exact List.getElem_mem h
theorem Apart.next {m:List Bk.El} (h:Apart m) {i:Nat} (hi:i < m.length) {xss:List (List Bk.El)} (g:CalG xss) (hk:Kept xss (m.take i)):freeF xss (getI m Bk.dflt i)=true:=by
 rw [hk.free g,Bool.and_eq_true]
 refine ⟨?_,(validB_iff _).2 (h.good _ (getI_mem hi))⟩
 rw [Bool.not_eq_true',List.any_eq_false]
 intro c hc hcl
 obtain ⟨h1,h2⟩:=clash_iff.1 hcl
 obtain ⟨j,hj,rfl⟩:=List.getElem_of_mem hc
 rw [List.length_take] at hj
 have:=List.pairwise_iff_getElem.1 h.pw j i (by omega) hi (by omega)
 rw [List.getElem_take] at h1 h2
 have e:getI m Bk.dflt i=m[i]:=by simp [getI,List.getD,List.getElem?_eq_getElem hi]
 rw [e] at h1 h2
 exact this ⟨h1,h2⟩
end Go.AM.YtmohhhbgcehnpaaGreat
end

section
set_option linter.all false
namespace Go.AM.YtmohhhbgcehnpaaGreat
open Go.Proofs
set_option maxRecDepth 100000
set_option maxHeartbeats 8000000
theorem others {l:List Bk.El} (hl:∀ b∈l,owB b=77) {c:Bk.El} (h0:0≤tlB c) (hc:owB c≠77):∀ {xss:List (List Bk.El)},CalG xss→(inC (bookAll l xss) c↔inC xss c):=by
 induction l with
 | nil=>intro xss _;exact Iff.rfl
 | cons b l ih =>
   intro xss g
   have h1:=ih (fun b hb=>hl b (List.mem_cons_of_mem _ hb)) (book_good g b).1
   have h2:inC (bookAll (b::l) xss) c↔inC (bookF xss b) c:=h1
   rw [h2]
   cases hf:freeF xss b
   ·rw [book_no hf]
   ·rw [(book_yes g hf).2.1 c h0]
    constructor
    ·rintro (rfl|h)
     ·exact absurd (hl _ (by simp)) hc
     ·exact h
    ·exact .inr
theorem more {l:List Bk.El} {c:Bk.El} (h0:0≤tlB c):∀ {xss:List (List Bk.El)},CalG xss→inC xss c→inC (bookAll l xss) c:=by
 induction l with
 | nil=>intro xss _ h;exact h
 | cons b l ih =>
   intro xss g h
   refine ih (book_good g b).1 ?_
   cases hf:freeF xss b
   ·rw [book_no hf];exact h
   ·exact ((book_yes g hf).2.1 c h0).2 (.inr h)
theorem freed_flat (xss:List (List Bk.El)) (o:Int):(freedF xss o).flatten=xss.flatten.filter fun b=>!ownsB o b:=by
 unfold freedF delF
 rw [List.filter_flatten]
theorem filter_two (l:List Bk.El) (p:Bk.El→Bool):(l.filter p).length+(l.filter fun b=>!p b).length=l.length:=by
 induction l with
 | nil=>rfl
 | cons b l ih =>
   cases hp:p b
   ·simp only [List.filter_cons,hp,List.length_cons,Bool.not_false,if_true]
    simp
    omega
   ·simp only [List.filter_cons,hp,List.length_cons,Bool.not_true,if_true]
    simp
    omega
theorem freed_len (xss:List (List Bk.El)) (o:Int):lenF (freedF xss o)+(ownedF xss o).length=lenF xss:=by
 have:=filter_two xss.flatten (ownsB o)
 rw [← freed_flat] at this
 unfold ownedF
 rw [← flat_len,← flat_len xss]
 omega
theorem two_apart {xss:List (List Bk.El)} (g:CalG xss) {a b:Bk.El} (ha:inC xss a) (hb:inC xss b) (h0:0≤tlB a) (h1:tlB a < 60) (ht:tlB a=tlB b) (hne:a≠b):¬ meet a b:=fun hm=>by
 unfold inC at ha hb
 rw [← ht] at hb
 have hg:=g.tool h0 h1
 obtain ⟨i,hi,hia⟩:=List.getElem_of_mem ha
 obtain ⟨j,hj,hjb⟩:=List.getElem_of_mem hb
 have m1:=hm.1
 have m2:=hm.2
 have hp:=List.pairwise_iff_getElem.1 hg.ord
 rcases Nat.lt_trichotomy i j with h|h|h
 ·have:=hp i j hi hj h
  rw [hia,hjb] at this
  omega
 ·subst h;exact hne (hia.symm.trans hjb)
 ·have:=hp j i hj hi h
  rw [hia,hjb] at this
  omega
structure Again (x0 x1 xss:List (List Bk.El)) (m:List Bk.El):Prop where
 mem:∀ c,0≤tlB c→(inC xss c↔inC x0 c∨c∈m)
 good:CalG xss
 len:lenF xss=lenF x0+m.length
theorem Again.free {x0 x1 xss:List (List Bk.El)} {m:List Bk.El} (h:Again x0 x1 xss m) (g1:CalG x1) (h01:∀ c,0≤tlB c→inC x0 c→inC x1 c) (hm:∀ c∈m,inC x1 c) {b:Bk.El} (hb:inC x1 b) (h0:0≤tlB b) (h1:tlB b < 60)
 (hnew:∀ c,inC x0 c∨c∈m→c≠b):freeF xss b=true:=by
 refine free_iff.2 ⟨g1.good hb h0 h1,fun c hc hcm=>?_⟩
 have ht:=((h.good.tool h0 h1).all c hc)
 have hte:tlB c=tlB b:=by have:=ht.2;have:=ht.1.t0;omega
 have hcc:inC xss c:=by unfold inC;rw [hte];exact hc
 have hor:=(h.mem c (by omega)).1 hcc
 have hc1:inC x1 c:=by
  rcases hor with h'|h'
  ·exact h01 c (by omega) h'
  ·exact hm c h'
 exact two_apart g1 hc1 hb (by omega) (by omega) hte (hnew c hor) hcm
end Go.AM.YtmohhhbgcehnpaaGreat
end

section
set_option linter.all false
namespace Go.AM.YtmohhhbgcehnpaaGreat
open Go.Proofs
end Go.AM.YtmohhhbgcehnpaaGreat
end

section

end

section
set_option linter.all false
namespace Go.AM.YtmohhhbgcehnpaaGreat.Pl
open Go.Proofs
set_option maxRecDepth 100000
set_option maxHeartbeats 4000000
def pickP:Spec:=plain fun
 | [.int .i64 c,.int .i64 n]=>outV (0 < n) (.int .i64 (pickF c n))
 | _=>none
theorem pick_b {c n:Int} (h:0 < n):0≤pickF c n∧pickF c n < n:=⟨Int.emod_nonneg _ (by omega),Int.emod_lt_of_pos _ h⟩
theorem pickF_neg {c n:Int} (h:0 < n) (c1:c < 0):pickF c n=(0 - (c+1)).tmod n:=by
 unfold pickF;rw [if_pos c1,Int.tmod_eq_emod_of_nonneg (by omega)];congr 1;omega
theorem pickF_pos {c n:Int} (h:0 < n) (c1:¬ c < 0):pickF c n=c.tmod n:=by
 unfold pickF;rw [if_neg c1,Int.tmod_eq_emod_of_nonneg (by omega)]
end Go.AM.YtmohhhbgcehnpaaGreat.Pl
end

section
set_option linter.all false
namespace Go.AM.YtmohhhbgcehnpaaGreat.Pl
open Go.Proofs
set_option maxRecDepth 100000
set_option maxHeartbeats 8000000
abbrev StT:=Int × Int × (Int × Int) × Int × Int
abbrev WiT:=Int × Int × Int
abbrev Six:=Int × Int × Int × Int × Int × Int
def six (x:List Six) (i:Nat):Six:=getI x tSix.dflt i
def mA (x:List Six):Int:=if 0 < (x.length:Int) then pickF (six x 0).2.2.2.2.1 5 else 2
def stMn (y:Six):Int:=1+pickF y.1 20
def stMx (y:Six):Int:=stMn y+pickF (y.1.tdiv 20) 12
end Go.AM.YtmohhhbgcehnpaaGreat.Pl
end

section
set_option linter.all false
namespace Go.AM.YtmohhhbgcehnpaaGreat.Pl
open Go.Proofs
end Go.AM.YtmohhhbgcehnpaaGreat.Pl
end

section
set_option linter.all false
namespace Go.AM.YtmohhhbgcehnpaaGreat.Pl
open Go.Proofs
set_option maxRecDepth 100000
set_option maxHeartbeats 8000000
abbrev Two:=Int × Int
def two (y:List Two) (i:Nat):Two:=if (i:Int) < y.length then getI y tTwo.dflt i else (0,0)
end Go.AM.YtmohhhbgcehnpaaGreat.Pl
end

section
set_option linter.all false
namespace Go.AM.YtmohhhbgcehnpaaGreat.Pl
open Go.Proofs
abbrev ViT:=Int × Int × Int × Int
def vis (out:List ViT) (j:Nat):ViT:=getI out tVisit.dflt j
def prevE (e:Int) (out:List ViT):Nat→Int
 | 0=>e
 | j+1=>(vis out j).2.2.2
def VisR (xs:List StT) (du mo:List Int) (de tl fa e:Int) (out:List ViT) (j:Nat):Prop :=
 reachedAt xs du mo de tl fa j (prevE e out j)=(((vis out j).2.1,(vis out j).2.2.1),true)∧(vis out j).1=(j:Int)∧(vis out j).2.2.2=(vis out j).2.2.1+getI du 0 j
def wFr (ws:List WiT) (k:Nat):Int:=(getI ws tWin.dflt k).1
def wTo (ws:List WiT) (k:Nat):Int:=(getI ws tWin.dflt k).2.1
def wLi (ws:List WiT) (k:Nat):Int:=(getI ws tWin.dflt k).2.2
def LateAt (ws:List WiT) (out:List ViT) (k:Nat):Prop:=wLi ws k < (vis out (wTo ws k).toNat).2.2.1 - (vis out (wFr ws k).toNat).2.2.2
structure RunR (xs:List StT) (ws:List WiT) (du mo:List Int) (de tl fa e:Int) (r:List ViT) (kind num:Int):Prop where
 len:r.length≤xs.length
 vis:∀ j,j < r.length→VisR xs du mo de tl fa e r j
 kept:∀ k,k < ws.length→wTo ws k < r.length→LateAt ws r k→kind=2∧wTo ws k+1=r.length∧num≤k
 ends:(kind=0∧num=0∧r.length=xs.length)∨(kind=1∧num=r.length∧r.length < xs.length∧(reachedAt xs du mo de tl fa r.length (prevE e r r.length)).2=false) ∨
  (kind=2∧0≤num∧num < ws.length∧wTo ws num.toNat+1=r.length∧LateAt ws r num.toNat)
def sSt (xs:List StT) (j:Nat):Int:=(getI xs tStage.dflt j).2.2.2.1
end Go.AM.YtmohhhbgcehnpaaGreat.Pl
end
