/- WnV, WnT, WnU. -/
import Derived.Test.YtdohkcddjoammaaPw30
import Derived.Test.YtdohkcddjoammaaPw28

section
set_option linter.all false
namespace Go.AM.Ytdohkcddjoammaa.Fl
open Go.Proofs
set_option maxRecDepth 100000
set_option maxHeartbeats 4000000
theorem getI_left {α:Type} {l r:List α} {d:α} {i:Nat} (h:i < l.length):getI (l++r) d i=getI l d i:=by
  unfold getI List.getD;rw [List.getElem?_append_left h]
theorem getI_snoc {α:Type} {l:List α} {x d:α}:getI (l++[x]) d l.length=x:=by
  unfold getI List.getD;rw [List.getElem?_append_right (Nat.le_refl _)];simp
theorem asc_nil {lo hi:Int}:ascF [] lo hi=true:=rfl
theorem asc_snoc {l:List Int} {lo hi x:Int} (h:ascF l lo hi=true) (h1:lo≤x) (h2:x≤hi) (h3:0 < l.length→getI l 0 (l.length - 1) < x):ascF (l++[x]) lo hi=true:=by
  unfold ascF at h ⊢
  rw [Bool.not_eq_true'] at h ⊢
  refine rng_no (fun i hil0=>?_)
  rw [List.length_append,List.length_singleton] at hil0
  by_cases hil:i < l.length
  · have h4:ascBad lo hi l i=false:=by
      rw [List.any_eq_false] at h
      simpa using h i (List.mem_range.2 hil)
    unfold ascBad at h4 ⊢
    rw [getI_left hil,getI_left (show ((i:Int) - 1).toNat < l.length by omega)]
    exact h4
  · obtain rfl:i=l.length:=by omega
    unfold ascBad
    rw [getI_snoc]
    have e1:inW x lo hi=true:=inW_iff.2 ⟨h1,h2⟩
    rw [e1]
    by_cases h0:0 < l.length
    · rw [getI_left (show ((l.length:Int) - 1).toNat < l.length by omega)]
      have h5:=h3 h0
      rw [show ((l.length:Int) - 1).toNat=l.length - 1 by omega,decide_eq_false (show ¬ x≤getI l 0 (l.length - 1) by omega)]
      simp
    · rw [decide_eq_false (show ¬ (l.length:Int) > 0 by omega)]
      rfl
theorem asc_one {lo hi x:Int} (h1:lo≤x) (h2:x≤hi):ascF [x] lo hi=true:=asc_snoc (l:=[]) asc_nil h1 h2 (fun h=>absurd h (by simp))
theorem asc_two {lo hi x y:Int} (h1:lo≤x) (h2:x < y) (h3:y≤hi):ascF [x,y] lo hi=true:=asc_snoc (l:=[x]) (asc_one h1 (by omega)) (by omega) h3 (fun _=>h2)
def WOk (n:Int) (ws:List WinT):Prop:=(List.range ws.length).any (winsBad n ws)=false
theorem wok_nil {n:Int}:WOk n []:=rfl
theorem wok_snoc {n:Int} {ws:List WinT} {w:WinT} (h:WOk n ws) (h1:rwF w n=true) (h2:folF ws w=true):WOk n (ws++[w]):=by
  unfold WOk at h ⊢
  refine rng_no (fun i hi=>?_)
  rw [List.length_append,List.length_singleton] at hi
  by_cases hil:i < ws.length
  · have h4:winsBad n ws i=false:=by
      rw [List.any_eq_false] at h
      simpa using h i (List.mem_range.2 hil)
    unfold winsBad at h4 ⊢
    rw [getI_left hil,List.take_append_of_le_length (by omega)]
    exact h4
  · obtain rfl:i=ws.length:=by omega
    unfold winsBad
    rw [getI_snoc,List.take_left,h1,h2]
    rfl
theorem valid_of {mn mx:Int} {ss:List StepT} {ws:List WinT} (h1:0≤mn) (h2:mn≤mx) (h3:mx≤10000) (h4:1≤ss.length) (h5:ss.length≤40) (h6:ws.length≤20)
    (h7:∀ s∈ss,stepF s (ss.length:Int)=true) (h8:WOk (ss.length:Int) ws):validF mn mx ss ws=true:=by
  unfold WOk at h8
  unfold validF movF
  rw [h8,inW_iff.2 (show (1:Int)≤(ss.length:Int)∧(ss.length:Int)≤40 by omega),decide_eq_true h1,decide_eq_true h2,decide_eq_true h3,decide_eq_false (show ¬ (ws.length:Int) > 20 by omega)]
  have:ss.any (fun s=>!stepF s (ss.length:Int))=false:=by
    rw [List.any_eq_false]
    intro s hs
    rw [h7 s hs]
    exact Bool.false_ne_true
  rw [this]
  rfl
theorem step_of {s:StepT} {n:Int} (h1:(stBk s=-1∧stLm s=0)∨(0≤stBk s∧stBk s≤n - 1∧1≤stLm s∧stLm s≤9)) (h2:1≤(stTl s).length∧(stTl s).length≤8) (h3:(stNx s).length≤4)
    (h4:1≤stRc s∧stRc s≤1000000) (h5:ascF (stTl s) 0 59=true) (h6:ascF (stNx s) 0 (n - 1)=true) (h7:1≤stMn s) (h8:stMn s≤stMx s) (h9:stMx s≤10000):stepF s n=true:=by
  unfold stepF
  simp only [Bool.and_eq_true,Bool.or_eq_true,decide_eq_true_eq,inW_iff]
  refine ⟨⟨⟨⟨⟨⟨⟨?_,by omega,by omega⟩,h4⟩,h5⟩,h6⟩,h7⟩,h8⟩,h9⟩
  rcases h1 with h1|h1
  · exact .inl h1
  · exact .inr ⟨⟨h1.1,h1.2.1⟩,h1.2.2⟩
theorem mk_step {n:Nat} {i:Nat} {y:Int6} (hi:i < n) (hn:n≤8):stepF (mkSt n i y) n=true:=by
  have bp:=fun (c n:Int) (h:0 < n)=>pick_b (c:=c) (n:=n) h
  have p1:=bp y.1 5 (by omega)
  have p2:=bp y.2.1 30 (by omega)
  have p3:=bp (y.2.1.tdiv 30) 20 (by omega)
  have p4:=bp y.2.2.1 6 (by omega)
  have p5:=bp (y.2.2.1.tdiv 12) 3 (by omega)
  have p6:=bp (y.2.2.2.1.tdiv 12) 3 (by omega)
  have p7:=bp (y.2.2.2.2.1.tdiv 4) ((i:Int)+1) (by omega)
  have p8:=bp y.2.2.2.2.2 3 (by omega)
  refine step_of ?_ ?_ ?_ ?_ ?_ ?_ ?_ ?_ ?_
  · show ((mkBk i y).1=-1∧(mkBk i y).2=0)∨(0≤(mkBk i y).1∧(mkBk i y).1≤(n:Int) - 1∧1≤(mkBk i y).2∧(mkBk i y).2≤9)
    unfold mkBk
    cases decide (pickF y.2.2.2.2.1 4=0)
    · exact .inl ⟨rfl,rfl⟩
    · exact .inr ⟨by show 0≤pickF _ _;omega,by show pickF _ _≤_;omega,by show 1≤1+pickF _ _;omega,by show 1+pickF _ _≤9;omega⟩
  · show 1≤(mkTl y).length∧(mkTl y).length≤8
    unfold mkTl
    cases decide (pickF (y.2.2.1.tdiv 6) 2=0) <;> simp
  · show (mkNx n i y).length≤4
    unfold mkNx
    cases decide ((i:Int) < n - 1)&&decide (pickF y.2.2.2.1 12 > 0) <;> cases decide ((i:Int)+2+pickF (y.2.2.2.1.tdiv 12) 3 < n)&&decide (pickF (y.2.2.2.1.tdiv 36) 3=0) <;> simp
  · show 1≤1+pickF _ _∧1+pickF _ _≤1000000
    omega
  · show ascF (mkTl y) 0 59=true
    unfold mkTl
    cases decide (pickF (y.2.2.1.tdiv 6) 2=0)
    · exact asc_one (by omega) (by omega)
    · exact asc_two (by omega) (by omega) (by omega)
  · show ascF (mkNx n i y) 0 ((n:Int) - 1)=true
    unfold mkNx
    cases h1:decide ((i:Int) < n - 1)&&decide (pickF y.2.2.2.1 12 > 0)
    · exact asc_nil
    · rw [Bool.and_eq_true,decide_eq_true_eq] at h1
      cases h2:decide ((i:Int)+2+pickF (y.2.2.2.1.tdiv 12) 3 < n)&&decide (pickF (y.2.2.2.1.tdiv 36) 3=0)
      · exact asc_one (by omega) (by omega)
      · rw [Bool.and_eq_true,decide_eq_true_eq] at h2
        exact asc_two (by omega) (by omega) (by omega)
  · show 1≤1+pickF _ _
    omega
  · show 1+pickF _ _≤1+pickF _ _+pickF _ _
    omega
  · show 1+pickF _ _+pickF _ _≤10000
    omega
theorem rw_of {w:WinT} {n:Int} (h1:0≤w.1∧w.1≤n - 1) (h2:0≤w.2.1∧w.2.1≤n - 1) (h3:w.1≠w.2.1) (h4:0≤w.2.2∧w.2.2≤1000000):rwF w n=true:=by
  unfold rwF
  rw [inW_iff.2 h1,inW_iff.2 h2,inW_iff.2 h4,decide_eq_false h3]
  rfl
def LimOk (k:Int) (ws:List WinT):Prop:=∀ w∈ws,0≤w.2.2∧w.2.2≤k
theorem mkN_b {x:List Int6}:1≤mkN x∧mkN x≤8:=by unfold mkN;omega
theorem mk_wins {n:Nat} (hn:1≤n):∀ {r:List Int3} {acc:List WinT},WOk n acc→LimOk 160 acc→WOk n (r.foldl (step4 n) acc)∧LimOk 160 (r.foldl (step4 n) acc)∧(r.foldl (step4 n) acc).length≤acc.length+r.length
  | [],_,h,h2=>⟨h,h2,Nat.le_refl _⟩
  | w::r,acc,h,h2=>by
    show WOk n (r.foldl (step4 n) (step4 n acc w))∧LimOk 160 (r.foldl (step4 n) (step4 n acc w))∧(r.foldl (step4 n) (step4 n acc w)).length≤acc.length+(w::r).length
    have p1:=pick_b (c:=w.1) (n:=n) (by omega)
    have p2:=pick_b (c:=w.2.1) (n:=n) (by omega)
    have p3:=pick_b (c:=w.2.2) (n:=150) (by omega)
    unfold step4
    cases hf:fit4 acc (mkW4 n w)
    · obtain ⟨a,b,c⟩:=mk_wins hn (r:=r) (acc:=acc) h h2
      exact ⟨a,b,by simp only [List.length_cons];exact Nat.le_trans c (by omega)⟩
    · have hok:WOk n (acc++[mkW4 n w]):=by
        unfold fit4 at hf
        rw [Bool.and_eq_true,decide_eq_true_eq] at hf
        refine wok_snoc h (rw_of ?_ ?_ hf.1 ?_) ?_
        · show 0≤pickF w.1 n∧pickF w.1 n≤(n:Int) - 1
          omega
        · show 0≤pickF w.2.1 n∧pickF w.2.1 n≤(n:Int) - 1
          omega
        · show 0≤10+pickF w.2.2 150∧10+pickF w.2.2 150≤1000000
          omega
        · unfold folF wLast
          have:=hf.2
          unfold aftB at this
          exact this
      have hl:LimOk 160 (acc++[mkW4 n w]):=by
        intro v hv
        rcases List.mem_append.1 hv with hv|hv
        · exact h2 v hv
        · rw [List.mem_singleton.1 hv]
          show 0≤10+pickF w.2.2 150∧10+pickF w.2.2 150≤160
          omega
      obtain ⟨a,b,c⟩:=mk_wins hn (r:=r) hok hl
      refine ⟨a,b,Nat.le_trans c ?_⟩
      simp only [List.length_append,List.length_cons,List.length_nil]
      omega
theorem mkSs_len {x:List Int6}:(mkSs x).length=mkN x:=by unfold mkSs;rw [List.length_map,List.length_range]
theorem mk_valid {x:List Int6} {w:List Int3}:validF 2 5 (mkSs x) (mkWs x w)=true:=by
  have hn:=mkN_b (x:=x)
  have hw:=mk_wins (n:=mkN x) hn.1 (r:=w.take 4) (acc:=[]) wok_nil (by intro v hv;cases hv)
  have hl:=mkSs_len (x:=x)
  refine valid_of (by omega) (by omega) (by omega) (by omega) (by omega) ?_ ?_ ?_
  · show (List.foldl (step4 (mkN x)) [] (w.take 4)).length≤20
    have h1:=hw.2.2
    have h2:(w.take 4).length≤4:=by rw [List.length_take];omega
    simp only [List.length_nil] at h1
    omega
  · rw [hl]
    intro s hs
    unfold mkSs at hs
    obtain ⟨i,hi,rfl⟩:=List.mem_map.1 hs
    exact mk_step (List.mem_range.1 hi) hn.2
  · rw [hl]
    exact hw.1
theorem gdN_b {x:List Int6}:1≤gdN x∧gdN x≤10:=by unfold gdN;omega
theorem gdNx_ok {i:Nat} {y:Int6} {n:Nat}:∀ {k:Nat},k≤n→ascF (gdNx i y k) 0 ((n:Int) - 1)=true∧(gdNx i y k).length≤4∧∀ m∈gdNx i y k,m < k
  | 0,_=>⟨asc_nil,Nat.zero_le _,fun m hm=>by cases hm⟩
  | k+1,hk=>by
    obtain ⟨h1,h2,h3⟩:=gdNx_ok (i:=i) (y:=y) (n:=n) (k:=k) (by omega)
    unfold gdNx
    cases hb:laterB i y k&&decide (((gdNx i y k).length:Int) < 4)
    · exact ⟨h1,h2,fun m hm=>by have:=h3 m hm;omega⟩
    · rw [Bool.and_eq_true,decide_eq_true_eq] at hb
      refine ⟨asc_snoc h1 (by omega) (by omega) (fun h0=>?_),?_,fun m hm=>?_⟩
      · exact h3 _ (fl_mem (by omega))
      · show (gdNx i y k++[(k:Int)]).length≤4
        rw [List.length_append,List.length_singleton]
        omega
      · rcases List.mem_append.1 hm with hm|hm
        · have:=h3 m hm;omega
        · rw [List.mem_singleton.1 hm];omega
theorem gd_step {x:List Int6} {n i:Nat} (hi:i < n) (hn:n≤10):stepF (gdAt x n i) n=true:=by
  have bp:=fun (c n:Int) (h:0 < n)=>pick_b (c:=c) (n:=n) h
  unfold gdAt
  cases hx:decide ((i:Int) < (x.length:Int))
  · exact step_of (n:=n) (s:=(1+(i:Int),[(i:Int)],10,10,[],-1,0)) (.inl ⟨rfl,rfl⟩) ⟨Nat.le_refl _,by simp [stTl]⟩ (Nat.zero_le _) ⟨by show 1≤1+(i:Int);omega,by show 1+(i:Int)≤1000000;omega⟩ (asc_one (by omega) (by omega)) asc_nil (by show (1:Int)≤10;omega) (by show (10:Int)≤10;omega) (by show (10:Int)≤10000;omega)
  · obtain ⟨y,hy⟩:∃ y:Int6,y=getI x tS6.dflt i:=⟨_,rfl⟩
    rw [← hy]
    have p1:=bp y.1 6 (by omega)
    have p2:=bp (y.1.tdiv 6) 5 (by omega)
    have p3:=bp (y.1.tdiv 30) 5 (by omega)
    have p4:=bp y.2.1 20 (by omega)
    have p5:=bp (y.2.1.tdiv 20) 15 (by omega)
    have p8:=bp (y.2.2.2.1.tdiv 3) n (by omega)
    have p9:=bp y.2.2.2.2.1 3 (by omega)
    obtain ⟨g1,g2,g3⟩:=gdNx_ok (i:=i) (y:=y) (n:=n) (k:=n) (Nat.le_refl _)
    show stepF (gdS n i y) n=true
    refine step_of ?_ ?_ ?_ ?_ ?_ ?_ ?_ ?_ ?_
    · show ((gdBk n y).1=-1∧(gdBk n y).2=0)∨(0≤(gdBk n y).1∧(gdBk n y).1≤(n:Int) - 1∧1≤(gdBk n y).2∧(gdBk n y).2≤9)
      unfold gdBk
      cases decide (pickF y.2.2.2.1 3=0)
      · exact .inl ⟨rfl,rfl⟩
      · exact .inr ⟨by show 0≤pickF _ _;omega,by show pickF _ _≤_;omega,by show 1≤1+pickF _ _;omega,by show 1+pickF _ _≤9;omega⟩
    · exact ⟨by show 1≤2;omega,by show 2≤8;omega⟩
    · exact g2
    · show 1≤1+pickF _ _∧1+pickF _ _≤1000000
      omega
    · exact asc_two (by omega) (by omega) (by omega)
    · exact g1
    · show 1≤1+pickF _ _
      omega
    · show 1+pickF _ _≤1+pickF _ _+pickF _ _
      omega
    · show 1+pickF _ _+pickF _ _≤10000
      omega
theorem gd_wins {x:List Int6} {n:Nat} (hn:1≤n):∀ {i:Nat},i≤n→WOk n (gdWs x n i)∧LimOk 160 (gdWs x n i)∧∀ w∈gdWs x n i,w.1 < (i:Int)
  | 0,_=>⟨wok_nil,fun (w:WinT) (h:w∈([]:List WinT))=>absurd h List.not_mem_nil,fun (w:WinT) (h:w∈([]:List WinT))=>absurd h List.not_mem_nil⟩
  | i+1,hi=>by
    obtain ⟨h1,h2,h3⟩:=gd_wins hn (x:=x) (i:=i) (by omega)
    have p1:=pick_b (c:=(getI x tS6.dflt i).2.2.2.2.1.tdiv 3) (n:=n) (by omega)
    have p2:=pick_b (c:=(getI x tS6.dflt i).2.2.2.2.2) (n:=120) (by omega)
    unfold gdWs
    cases hb:decide (gdTo x n i≠(i:Int))&&decide (pickF (getI x tS6.dflt i).2.2.2.2.1 2=0)
    · exact ⟨h1,h2,fun w hw=>by have:=h3 w hw;omega⟩
    · rw [Bool.and_eq_true,decide_eq_true_eq] at hb
      refine ⟨wok_snoc h1 (rw_of ?_ ?_ (fun e=>hb.1 e.symm) ?_) ?_,?_,?_⟩
      · show 0≤(i:Int)∧(i:Int)≤(n:Int) - 1
        omega
      · show 0≤gdTo x n i∧gdTo x n i≤(n:Int) - 1
        unfold gdTo
        omega
      · show 0≤pickF (getI x tS6.dflt i).2.2.2.2.2 120∧pickF (getI x tS6.dflt i).2.2.2.2.2 120≤1000000
        omega
      · unfold folF
        by_cases h0:(gdWs x n i).length=0
        · rw [decide_eq_true (show ((gdWs x n i).length:Int)=0 by omega)]
          rfl
        · have:=h3 (wLast (gdWs x n i)) (fl_mem (by omega))
          rw [decide_eq_true (show (wLast (gdWs x n i)).1 < (i:Int) from this)]
          simp
      · intro v hv
        rcases List.mem_append.1 hv with hv|hv
        · exact h2 v hv
        · rw [List.mem_singleton.1 hv]
          show 0≤pickF (getI x tS6.dflt i).2.2.2.2.2 120∧pickF (getI x tS6.dflt i).2.2.2.2.2 120≤160
          omega
      · intro v hv
        rcases List.mem_append.1 hv with hv|hv
        · have:=h3 v hv;omega
        · rw [List.mem_singleton.1 hv]
          show (i:Int) < ((i+1:Nat):Int)
          omega
theorem gdSs_len {x:List Int6}:(gdSs x).length=gdN x:=by unfold gdSs;rw [List.length_map,List.length_range]
theorem gdMv_b {x:List Int6}:0≤(gdMv x).1∧(gdMv x).1≤(gdMv x).2∧(gdMv x).2≤10000:=by
  have p1:=pick_b (c:=(getI x tS6.dflt 0).2.2.2.2.2) (n:=7) (by omega)
  have p2:=pick_b (c:=(getI x tS6.dflt 0).2.2.2.2.2.tdiv 7) (n:=20) (by omega)
  unfold gdMv
  cases decide ((x.length:Int) > 0)
  · exact ⟨by show (0:Int)≤2;omega,by show (2:Int)≤9;omega,by show (9:Int)≤10000;omega⟩
  · show 0≤pickF _ _∧pickF _ _≤pickF _ _+pickF _ _∧pickF _ _+pickF _ _≤10000
    omega
theorem gd_valid {x:List Int6}:validF (gdMv x).1 (gdMv x).2 (gdSs x) (gdWs x (gdN x) (min x.length 10))=true:=by
  have hn:=gdN_b (x:=x)
  have hm:min x.length 10≤gdN x:=by unfold gdN;omega
  have hw:=gd_wins (x:=x) hn.1 hm
  have hl:=gdSs_len (x:=x)
  have hv:=gdMv_b (x:=x)
  have hk:=gdWs_len (x:=x) (n:=gdN x) (i:=min x.length 10)
  refine valid_of hv.1 hv.2.1 hv.2.2 (by omega) (by omega) (by omega) ?_ ?_
  · rw [hl]
    intro s hs
    unfold gdSs at hs
    obtain ⟨i,hi,rfl⟩:=List.mem_map.1 hs
    exact gd_step (List.mem_range.1 hi) hn.2
  · rw [hl]
    exact hw.1
theorem c_valid {x:List Int6} {w:List Int3} {c:Int}:validF (cMn x c) (cMx x c) (cSs x c) (cWs x w c)=true:=by
  unfold cMn cMx cSs cWs
  cases cK c
  · exact mk_valid
  · exact gd_valid
theorem c_len {x:List Int6} {c:Int}:0 < (cSs x c).length∧(cSs x c).length≤10:=by
  unfold cSs
  cases cK c
  · show 0 < (mkSs x).length∧(mkSs x).length≤10
    rw [mkSs_len]
    have:=mkN_b (x:=x)
    omega
  · show 0 < (gdSs x).length∧(gdSs x).length≤10
    rw [gdSs_len]
    have:=gdN_b (x:=x)
    omega
theorem c_lim {x:List Int6} {w:List Int3} {c:Int}:LimOk 160 (cWs x w c):=by
  unfold cWs
  cases cK c
  · exact (mk_wins (n:=mkN x) mkN_b.1 (r:=w.take 4) (acc:=[]) wok_nil (by intro v hv;cases hv)).2.1
  · exact (gd_wins (x:=x) gdN_b.1 (show min x.length 10≤gdN x by unfold gdN;omega)).2.1
end Go.AM.Ytdohkcddjoammaa.Fl
end

section
set_option linter.all false
namespace Go.AM.Ytdohkcddjoammaa.Fl
open Go.Proofs
set_option maxRecDepth 100000
set_option maxHeartbeats 4000000
def shV (b:Int) (v:VisT):VisT:=(v.1,v.2.1,v.2.2.1+b,v.2.2.2+b)
def InV (b:Int) (v:VisT):Prop:=(0≤v.2.2.1∧v.2.2.1+b≤1000000)∧0≤v.2.2.2∧v.2.2.2+b≤1000000
structure ShW (b:Int) (w u:WatT):Prop where
  x:u.1=w.1
  o:u.2.2.1=w.2.2.1
  l:u.2.2.2=w.2.2.2
  e:w.2.2.1=true→u.2.1=w.2.1+b
theorem sh_see {b:Int} {w u:WatT} {v:VisT} (h:ShW b w u):ShW b (seeF w v) (seeF u (shV b v)):=by
  unfold seeF
  rw [h.x]
  show ShW b _ (bif decide (v.1=w.1.2.1) then _ else bif decide (v.1=w.1.1) then _ else _)
  cases decide (v.1=w.1.2.1)
  · cases decide (v.1=w.1.1)
    · exact h
    · exact ⟨rfl,rfl,h.l,fun _=>rfl⟩
  · refine ⟨rfl,rfl,?_,fun h=>by cases h⟩
    show (u.2.2.2||(u.2.2.1&&decide (v.2.2.1+b > u.2.1+w.1.2.2)))=(w.2.2.2||(w.2.2.1&&decide (v.2.2.1 > w.2.1+w.1.2.2)))
    rw [h.l,h.o]
    cases ho:w.2.2.1
    · rfl
    · rw [h.e ho]
      congr 2
      rw [decide_eq_decide]
      omega
theorem time_in {n:Int} (h1:0≤n) (h2:n≤1000000):timeB n=true:=time_iff.2 ⟨h1,h2⟩
theorem sh_step {b:Int} {w u:WatT} {v:VisT} (h0:0≤b) (hv:InV b v) (h:ShW b w u):ShW b (stepV w v) (stepV u (shV b v)):=by
  obtain ⟨⟨a1,a2⟩,a3,a4⟩:=hv
  unfold stepV
  rw [show timeB (shV b v).2.2.1=true from time_in (by show 0≤v.2.2.1+b;omega) a2,show timeB (shV b v).2.2.2=true from time_in (by show 0≤v.2.2.2+b;omega) a4,time_in a1 (by omega),time_in a3 (by omega)]
  exact sh_see h
theorem sh_fold {b:Int} (h0:0≤b):∀ {vs:List VisT} {w u:WatT},(∀ v∈vs,InV b v)→ShW b w u→ShW b (vs.foldl stepV w) ((vs.map (shV b)).foldl stepV u)
  | [],_,_,_,h=>h
  | v::vs,_,_,hv,h=>sh_fold h0 (vs:=vs) (fun x hx=>hv x (by simp [hx])) (sh_step h0 (hv v (by simp)) h)
theorem sh_wat {b:Int} (h0:0≤b) {vs:List VisT} (hv:∀ v∈vs,InV b v) {x:WinT}:ShW b (watF x vs) (watF x (vs.map (shV b))):=sh_fold h0 hv ⟨rfl,rfl,rfl,fun h=>by cases h⟩
def shD (b:Int) (d:Int × Int):Int × Int:=(d.1,d.2+b)
theorem lateQ_cons {p:Int × WatT} {q:List (Int × WatT)}:lateQ (p::q)=bif p.2.2.2.2 then p.1::lateQ q else lateQ q:=by
  unfold lateQ
  cases h:p.2.2.2.2 <;> simp [h]
theorem openQ_cons {p:Int × WatT} {q:List (Int × WatT)}:openQ (p::q)=bif p.2.2.2.1 then (p.1,p.2.2.1+p.2.1.2.2)::openQ q else openQ q:=by
  unfold openQ
  cases h:p.2.2.2.1 <;> simp [h]
theorem sh_late {b:Int} (h0:0≤b) {vs:List VisT} (hv:∀ v∈vs,InV b v):∀ {ws:List WinT} {i:Nat},lateQ (watL (vs.map (shV b)) i ws)=lateQ (watL vs i ws)
  | [],_=>rfl
  | x::r,i=>by
    unfold watL
    rw [lateQ_cons,lateQ_cons,sh_late h0 hv (ws:=r)]
    show (bif (watF x (vs.map (shV b))).2.2.2 then _ else _)=_
    rw [(sh_wat h0 hv (x:=x)).l]
theorem sh_open {b:Int} (h0:0≤b) {vs:List VisT} (hv:∀ v∈vs,InV b v):∀ {ws:List WinT} {i:Nat},openQ (watL (vs.map (shV b)) i ws)=(openQ (watL vs i ws)).map (shD b)
  | [],_=>rfl
  | x::r,i=>by
    unfold watL
    have h:=sh_wat h0 hv (x:=x)
    rw [openQ_cons,openQ_cons,sh_open h0 hv (ws:=r)]
    show (bif (watF x (vs.map (shV b))).2.2.1 then ((i:Int),(watF x (vs.map (shV b))).2.1+(watF x (vs.map (shV b))).1.2.2)::_ else _)=_
    rw [h.o]
    cases ho:(watF x vs).2.2.1
    · rfl
    · rw [h.e ho,h.x]
      refine congrArg (fun z=>z::List.map (shD b) (openQ (watL vs (i+1) r))) ?_
      unfold shD
      refine Prod.ext rfl ?_
      show (watF x vs).2.1+b+(watF x vs).1.2.2=(watF x vs).2.1+(watF x vs).1.2.2+b
      omega
theorem late_iff {vs:List VisT} {k:Int}:∀ {ws:List WinT} {i:Nat},k∈lateQ (watL vs i ws)↔∃ j:Nat,∃ x,ws[j]?=some x∧k=((i+j:Nat):Int)∧(watF x vs).2.2.2=true
  | [],i=>by simp [watL,lateQ]
  | y::r,i=>by
    unfold watL
    rw [lateQ_cons]
    have ih:=late_iff (vs:=vs) (k:=k) (ws:=r) (i:=i+1)
    constructor
    · intro h
      have h3:(k=(i:Int)∧(watF y vs).2.2.2=true)∨k∈lateQ (watL vs (i+1) r):=by
        cases hl:(watF y vs).2.2.2
        · simp only [hl,cond_false] at h
          exact .inr h
        · simp only [hl,cond_true] at h
          rcases List.mem_cons.1 h with h|h
          · exact .inl ⟨h,rfl⟩
          · exact .inr h
      rcases h3 with ⟨h1,h2⟩|h
      · exact ⟨0,y,rfl,by simpa using h1,h2⟩
      · obtain ⟨j,x,h1,h2,h3⟩:=ih.1 h
        exact ⟨j+1,x,by simpa using h1,by rw [h2];congr 1;omega,h3⟩
    · rintro ⟨j,x,h1,h2,h3⟩
      cases j with
      | zero =>
        have e:y=x:=by simpa using h1
        subst e
        simp only [h3,cond_true]
        exact List.mem_cons.2 (.inl (by rw [h2];rfl))
      | succ j =>
        have:=ih.2 ⟨j,x,by simpa using h1,by rw [h2];congr 1;omega,h3⟩
        cases (watF y vs).2.2.2
        · exact this
        · exact List.mem_cons.2 (.inr this)
theorem open_iff {vs:List VisT} {d:Int × Int}:∀ {ws:List WinT} {i:Nat},d∈openQ (watL vs i ws)↔∃ j:Nat,∃ x,ws[j]?=some x∧d=(((i+j:Nat):Int),(watF x vs).2.1+x.2.2)∧(watF x vs).2.2.1=true
  | [],i=>by simp [watL,openQ]
  | y::r,i=>by
    have hx:(watF y vs).1=y:=foldV_win
    unfold watL
    rw [openQ_cons]
    have ih:=open_iff (vs:=vs) (d:=d) (ws:=r) (i:=i+1)
    constructor
    · intro h
      have h3:(d=((i:Int),(watF y vs).2.1+y.2.2)∧(watF y vs).2.2.1=true)∨d∈openQ (watL vs (i+1) r):=by
        cases hl:(watF y vs).2.2.1
        · simp only [hl,cond_false] at h
          exact .inr h
        · simp only [hl,cond_true,hx] at h
          rcases List.mem_cons.1 h with h|h
          · exact .inl ⟨h,rfl⟩
          · exact .inr h
      rcases h3 with ⟨h1,h2⟩|h
      · exact ⟨0,y,rfl,by simpa using h1,h2⟩
      · obtain ⟨j,x,h1,h2,h3⟩:=ih.1 h
        exact ⟨j+1,x,by simpa using h1,by rw [h2];congr 2;omega,h3⟩
    · rintro ⟨j,x,h1,h2,h3⟩
      cases j with
      | zero =>
        have e:y=x:=by simpa using h1
        subst e
        simp only [h3,cond_true,hx]
        exact List.mem_cons.2 (.inl (by rw [h2];rfl))
      | succ j =>
        have:=ih.2 ⟨j,x,by simpa using h1,by rw [h2];congr 2;omega,h3⟩
        cases (watF y vs).2.2.1
        · exact this
        · exact List.mem_cons.2 (.inr this)
theorem wat_snoc {x:WinT} {vs:List VisT} {v:VisT}:watF x (vs++[v])=stepV (watF x vs) v:=by unfold watF;rw [List.foldl_append];rfl
theorem see_late {w:WatT} {v:VisT} (h:w.2.2.2=true):(seeF w v).2.2.2=true:=by
  unfold seeF
  cases decide (v.1=w.1.2.1) <;> cases decide (v.1=w.1.1) <;> simp [h]
theorem step_late {w:WatT} {v:VisT} (h:w.2.2.2=true):(stepV w v).2.2.2=true:=by
  unfold stepV
  cases timeB v.2.2.1&&timeB v.2.2.2
  · exact h
  · exact see_late h
theorem step_early {w:WatT} {v:VisT} {b:Int} (h0:0≤b) (h1:timeB v.2.2.1=true) (h2:timeB v.2.2.2=true) (h:(stepV w (v.1,v.2.1,v.2.2.1 - b,v.2.2.2)).2.2.2=true):(stepV w v).2.2.2=true:=by
  unfold stepV at h ⊢
  rw [h1,h2]
  show (seeF w v).2.2.2=true
  cases ht:timeB (v.2.2.1 - b)&&timeB v.2.2.2
  · simp only [ht,cond_false] at h
    exact see_late h
  · simp only [ht,cond_true] at h
    unfold seeF at h ⊢
    dsimp only at h
    cases hc:decide (v.1=w.1.2.1)
    · rw [hc] at h
      cases hd:decide (v.1=w.1.1)
      · rw [hd] at h;exact h
      · rw [hd] at h;exact h
    · rw [hc] at h
      have h:(w.2.2.2||(w.2.2.1&&decide (v.2.2.1 - b > w.2.1+w.1.2.2)))=true:=h
      show (w.2.2.2||(w.2.2.1&&decide (v.2.2.1 > w.2.1+w.1.2.2)))=true
      rw [Bool.or_eq_true,Bool.and_eq_true,decide_eq_true_eq] at h ⊢
      rcases h with h|h
      · exact .inl h
      · exact .inr ⟨h.1,by omega⟩
theorem late_early {vs:List VisT} {v:VisT} {b:Int} (h0:0≤b) (h1:timeB v.2.2.1=true) (h2:timeB v.2.2.2=true) {ws:List WinT} {i:Nat} {k:Int} (h:k∈lateQ (watL (vs++[(v.1,v.2.1,v.2.2.1 - b,v.2.2.2)]) i ws)):k∈lateQ (watL (vs++[v]) i ws):=by
  obtain ⟨j,x,h3,h4,h5⟩:=late_iff.1 h
  rw [wat_snoc] at h5
  exact late_iff.2 ⟨j,x,h3,h4,by rw [wat_snoc];exact step_early h0 h1 h2 h5⟩
theorem visF_in {n:Int} {v:List Int3} {b:Int} (h0:0≤b) (h1:b≤1000):∀ u∈visF n v,InV b u:=by
  intro u hu
  unfold visF at hu
  obtain ⟨i,hi,rfl⟩:=List.mem_map.1 hu
  have hi:=List.mem_range.1 hi
  have t1:=visT_b (v:=v) (i:=i)
  have t2:=visT_b (v:=v) (i:=i+1)
  have p1:=pick_b (c:=(getI v tS3.dflt i).2.1) (n:=40) (by omega)
  unfold visA InV
  dsimp only
  omega
def dueL (q:List (Int × Int)) (k:Int) (t:Bool):Nat→Int
  | 0=>-1
  | i+1=>bif decide ((getI q tDue.dflt i).1=k)&&t then (getI q tDue.dflt i).2 else dueL q k t i
theorem dueL_no {q:List (Int × Int)} {k:Int}:∀ {n:Nat},dueL q k false n=-1
  | 0=>rfl
  | n+1=>by unfold dueL;rw [Bool.and_false];exact dueL_no (n:=n)
theorem dueL_none {q:List (Int × Int)} {k:Int} {t:Bool} (h:∀ d∈q,d.1≠k):∀ {n:Nat},n≤q.length→dueL q k t n=-1
  | 0,_=>rfl
  | n+1,hn=>by
    unfold dueL
    rw [decide_eq_false (h _ (fl_mem (by omega)))]
    exact dueL_none h (by omega)
theorem dueL_some {q:List (Int × Int)} {k D:Int} (h:∀ d∈q,d.1=k→d.2=D):∀ {n:Nat},n≤q.length→(∃ i,i < n∧(getI q tDue.dflt i).1=k)→dueL q k true n=D
  | 0,_,h2=>by obtain ⟨i,hi,_⟩:=h2;omega
  | n+1,hn,h2=>by
    unfold dueL
    rw [Bool.and_true]
    by_cases hc:(getI q tDue.dflt n).1=k
    · rw [decide_eq_true hc]
      exact h _ (fl_mem (by omega)) hc
    · rw [decide_eq_false hc]
      obtain ⟨i,hi,h3⟩:=h2
      refine dueL_some h (by omega) ⟨i,?_,h3⟩
      by_cases hin:i=n
      · subst hin;exact absurd h3 hc
      · omega
theorem late_bit {vs:List VisT} {ws:List WinT} {k:Nat} {x:WinT} (hx:ws[k]?=some x):hasI (lateQ (watL vs 0 ws)) (k:Int)=(watF x vs).2.2.2:=by
  unfold hasI
  rw [Bool.eq_iff_iff,decide_eq_true_eq,late_iff]
  constructor
  · rintro ⟨j,y,h1,h2,h3⟩
    obtain rfl:j=k:=by omega
    rw [hx] at h1
    cases h1
    exact h3
  · intro h
    exact ⟨k,x,hx,by omega,h⟩
theorem open_of {vs:List VisT} {ws:List WinT} {k:Nat} {x:WinT} (hx:ws[k]?=some x) {d:Int × Int} (hd:d∈openQ (watL vs 0 ws)) (hk:d.1=(k:Int)):d.2=(watF x vs).2.1+x.2.2∧(watF x vs).2.2.1=true:=by
  obtain ⟨j,y,h1,h2,h3⟩:=open_iff.1 hd
  rw [h2] at hk
  obtain rfl:j=k:=by have hk:((0+j:Nat):Int)=(k:Int):=hk;omega
  rw [hx] at h1
  cases h1
  rw [h2]
  exact ⟨rfl,h3⟩
theorem mem_getI {α:Type} {q:List α} {d x:α} (h:x∈q):∃ i,i < q.length∧getI q d i=x:=by
  obtain ⟨i,hi,e⟩:=List.getElem_of_mem h
  exact ⟨i,hi,by simp [getI,List.getD,List.getElem?_eq_getElem hi,e]⟩
theorem dl_late {vs:List VisT} {ws:List WinT} {k:Nat} {x:WinT} {st s:Int} (hx:ws[k]?=some x) (h1:0≤s) (h2:s+1≤1000000) (hl:0≤x.2.2∧x.2.2≤1000000) :
    hasI (lateQ (watL (vs++[(st,0,s,s+1)]) 0 ws)) (k:Int)=(hasI (lateQ (watL vs 0 ws)) (k:Int)||(decide (dueL (openQ (watL vs 0 ws)) (k:Int) (decide (x.2.1=st)) (openQ (watL vs 0 ws)).length≥0)&&decide (s > dueL (openQ (watL vs 0 ws)) (k:Int) (decide (x.2.1=st)) (openQ (watL vs 0 ws)).length))):=by
  have hw:(watF x vs).1=x:=foldV_win
  have hk:WatOk (watF x vs):=foldV_ok ⟨⟨Int.le_refl _,(by decide:(0:Int)≤1000000)⟩,hl⟩
  have hk1:=hk.1.1
  rw [late_bit hx,late_bit hx,wat_snoc]
  unfold stepV
  rw [show timeB ((st,0,s,s+1):VisT).2.2.1=true from time_in h1 (by show s≤_;omega),show timeB ((st,0,s,s+1):VisT).2.2.2=true from time_in (by show 0≤s+1;omega) h2]
  show (seeF (watF x vs) (st,0,s,s+1)).2.2.2=_
  unfold seeF
  rw [hw]
  by_cases hs:st=x.2.1
  · rw [decide_eq_true (show ((st,0,s,s+1):VisT).1=x.2.1 from hs),decide_eq_true (show x.2.1=st from hs.symm)]
    show ((watF x vs).2.2.2||((watF x vs).2.2.1&&decide (s > (watF x vs).2.1+x.2.2)))=_
    congr 1
    cases ho:(watF x vs).2.2.1
    · rw [dueL_none (fun d hd hk=>by rw [(open_of hx hd hk).2] at ho;cases ho) (Nat.le_refl _)]
      rfl
    · have hm:((k:Int),(watF x vs).2.1+x.2.2)∈openQ (watL vs 0 ws):=open_iff.2 ⟨k,x,hx,by rw [Nat.zero_add],ho⟩
      obtain ⟨i,hi,he⟩:=mem_getI (d:=tDue.dflt) hm
      rw [dueL_some (D:=(watF x vs).2.1+x.2.2) (fun d hd hk=>(open_of hx hd hk).1) (Nat.le_refl _) ⟨i,hi,by rw [he]⟩]
      rw [decide_eq_true (show (watF x vs).2.1+x.2.2≥0 by omega)]
  · rw [decide_eq_false (show ¬ ((st,0,s,s+1):VisT).1=x.2.1 from hs),decide_eq_false (show ¬ x.2.1=st from fun e=>hs e.symm),dueL_no]
    cases decide (((st,0,s,s+1):VisT).1=x.1) <;> simp
theorem dl_open {vs:List VisT} {ws:List WinT} {k:Nat} {x:WinT} {s:Int} (hx:ws[k]?=some x) (h1:0≤s) (h2:s+1≤1000000) :
    ∀ d∈openQ (watL (vs++[(x.2.1,0,s,s+1)]) 0 ws),d.1≠(k:Int):=by
  intro d hd hk
  have hw:(watF x vs).1=x:=foldV_win
  have h:=(open_of hx hd hk).2
  rw [wat_snoc] at h
  unfold stepV at h
  rw [show timeB ((x.2.1,0,s,s+1):VisT).2.2.1=true from time_in h1 (by show s≤_;omega),show timeB ((x.2.1,0,s,s+1):VisT).2.2.2=true from time_in (by show 0≤s+1;omega) h2] at h
  have h:(seeF (watF x vs) (x.2.1,0,s,s+1)).2.2.1=true:=h
  unfold seeF at h
  rw [hw,decide_eq_true (show ((x.2.1,0,s,s+1):VisT).1=x.2.1 from rfl)] at h
  cases h
end Go.AM.Ytdohkcddjoammaa.Fl
end

section
set_option linter.all false
namespace Go.AM.Ytdohkcddjoammaa.Fl
open Go.Proofs
set_option maxRecDepth 100000
set_option maxHeartbeats 4000000
theorem keyLk {k k':Int × Int}:keyEq tLk k k'=decide (k=k'):=by
  rw [Bool.eq_iff_iff,decide_eq_true_eq]
  exact keyEq_iff (t:=tLk) rfl
theorem find_set {k k':Int × Int} {l:Int}:∀ {m:LkM},findK (setK m k l) k'=if k'=k then some l else findK m k'
  | []=>by
    show (bif keyEq tLk k' k then some l else none)=_
    rw [keyLk]
    by_cases h:k'=k
    · rw [if_pos h,decide_eq_true h];rfl
    · rw [if_neg h,decide_eq_false h];rfl
  | e::r=>by
    have ih:=find_set (k:=k) (k':=k') (l:=l) (m:=r)
    show findK (bif keyEq tLk k e.1 then (k,l)::r else e::setK r k l) k'=if k'=k then some l else (bif keyEq tLk k' e.1 then some e.2 else findK r k')
    rw [keyLk,keyLk]
    by_cases h:k=e.1
    · rw [decide_eq_true h]
      show (bif keyEq tLk k' k then some l else findK r k')=_
      rw [keyLk]
      by_cases h2:k'=k
      · rw [if_pos h2,decide_eq_true h2];rfl
      · rw [if_neg h2,decide_eq_false h2,decide_eq_false (fun e'=>h2 (e'.trans h.symm))]
        rfl
    · rw [decide_eq_false h]
      show (bif keyEq tLk k' e.1 then some e.2 else findK (setK r k l) k')=_
      rw [keyLk]
      by_cases h2:k'=e.1
      · rw [decide_eq_true h2,if_neg (fun e'=>h (e'.symm.trans h2))];rfl
      · rw [decide_eq_false h2]
        exact ih
theorem find_mem {k:Int × Int} {l:Int}:∀ {m:LkM},findK m k=some l→(k,l)∈m
  | [],h=>by cases h
  | e::r,h=>by
    have h:(bif keyEq tLk k e.1 then some e.2 else findK r k)=some l:=h
    rw [keyLk] at h
    by_cases h2:k=e.1
    · rw [decide_eq_true h2] at h
      have h:some e.2=some l:=h
      cases h
      rw [h2]
      simp
    · rw [decide_eq_false h2] at h
      exact List.mem_cons_of_mem _ (find_mem h)
theorem find_put {k k':Int × Int} {l:Int} {m:LkM}:(k'≠k→findK (putL m k l) k'=findK m k')∧∃ l',findK (putL m k l) k=some l'∧l'≤l∧(l'=l∨findK m k=some l')∧∀ l0,findK m k=some l0→l'≤l0:=by
  unfold putL
  cases hb:!(findK m k).isSome||decide (l < (findK m k).getD 0)
  · rw [Bool.or_eq_false_iff,Bool.not_eq_false',decide_eq_false_iff_not] at hb
    refine ⟨fun _=>rfl,?_⟩
    cases hf:findK m k with
    | none=>rw [hf] at hb;cases hb.1
    | some l0 =>
      rw [hf] at hb
      have hb2:¬ l < l0:=hb.2
      exact ⟨l0,hf,by omega,.inr rfl,fun l1 h=>by cases h;exact Int.le_refl _⟩
  · refine ⟨fun h=>?_,l,?_,Int.le_refl _,.inl rfl,fun l0 h=>?_⟩
    · show findK (setK m k l) k'=_
      rw [find_set,if_neg h]
    · show findK (setK m k l) k=_
      rw [find_set,if_pos rfl]
    · rw [h] at hb
      have hb:(false||decide (l < l0))=true:=hb
      rw [Bool.false_or,decide_eq_true_eq] at hb
      omega
def lkS (w:WinT):Nat→List Int→Int→List (Int × Int)
  | _,[],_=>[]
  | i,s::r,f=>bif decide (s=w.2.1)&&decide (f≥0) then (f,(i:Int))::lkS w (i+1) r (-1)
    else bif decide (s=w.1) then lkS w (i+1) r (i:Int) else lkS w (i+1) r f
def putAll (l:Int) (ks:List (Int × Int)) (m:LkM):LkM:=ks.foldl (fun m k=>putL m k l) m
theorem addG_put {w:WinT}:∀ {r:List Int} {i:Nat} {f:Int} {m:LkM},addG w i r f m=putAll w.2.2 (lkS w i r f) m
  | [],_,_,_=>rfl
  | s::r,i,f,m=>by
    unfold addG lkS
    cases decide (s=w.2.1)&&decide (f≥0)
    · cases decide (s=w.1)
      · exact addG_put
      · exact addG_put
    · exact addG_put
structure LkOk (ws:List WinT) (L:WinT→List (Int × Int)) (m:LkM):Prop where
  a:∀ p∈m,∃ w∈ws,p.1∈L w
  b:∀ k l,findK m k=some l→∃ w∈ws,k∈L w∧w.2.2=l
  c:∀ w∈ws,∀ k∈L w,∃ l,findK m k=some l∧l≤w.2.2
structure LkPart (ws:List WinT) (L:WinT→List (Int × Int)) (u:WinT) (ks:List (Int × Int)) (m:LkM):Prop where
  a:∀ p∈m,(∃ w∈ws,p.1∈L w)∨p.1∈ks
  b:∀ k l,findK m k=some l→(∃ w∈ws,k∈L w∧w.2.2=l)∨(k∈ks∧u.2.2=l)
  c:∀ w∈ws,∀ k∈L w,∃ l,findK m k=some l∧l≤w.2.2
  d:∀ k∈ks,∃ l,findK m k=some l∧l≤u.2.2
theorem put_part {ws:List WinT} {L:WinT→List (Int × Int)} {u:WinT} {k:Int × Int} {ks:List (Int × Int)} {m:LkM} (h:LkPart ws L u ks m):LkPart ws L u (ks++[k]) (putL m k u.2.2):=by
  obtain ⟨_,l',f2,f3,f4,f5⟩:=find_put (k:=k) (k':=k) (l:=u.2.2) (m:=m)
  have f1:=fun k'=>(find_put (k:=k) (k':=k') (l:=u.2.2) (m:=m)).1
  refine ⟨fun p hp=>?_,fun q l hl=>?_,fun w hw q hq=>?_,fun q hq=>?_⟩
  · rcases putL_mem hp with hp|rfl
    · rcases h.a p hp with h|h
      · exact .inl h
      · exact .inr (by simp [h])
    · exact .inr (by simp)
  · by_cases e:q=k
    · subst e
      rw [f2] at hl
      cases hl
      rcases f4 with e|e
      · exact .inr ⟨by simp,e.symm⟩
      · rcases h.b _ _ e with h|h
        · exact .inl h
        · exact .inr ⟨by simp [h.1],h.2⟩
    · rw [f1 q e] at hl
      rcases h.b _ _ hl with h|h
      · exact .inl h
      · exact .inr ⟨by simp [h.1],h.2⟩
  · obtain ⟨l0,h1,h2⟩:=h.c w hw q hq
    by_cases e:q=k
    · subst e
      exact ⟨l',f2,by have:=f5 l0 h1;omega⟩
    · exact ⟨l0,by rw [f1 q e];exact h1,h2⟩
  · by_cases e:q=k
    · subst e
      exact ⟨l',f2,f3⟩
    · rcases List.mem_append.1 hq with hq|hq
      · obtain ⟨l0,h1,h2⟩:=h.d q hq
        exact ⟨l0,by rw [f1 q e];exact h1,h2⟩
      · exact absurd (List.mem_singleton.1 hq) e
theorem put_parts {ws:List WinT} {L:WinT→List (Int × Int)} {u:WinT}:∀ {r ks:List (Int × Int)} {m:LkM},LkPart ws L u ks m→LkPart ws L u (ks++r) (putAll u.2.2 r m)
  | [],ks,m,h=>by rw [List.append_nil];exact h
  | k::r,ks,m,h=>by
    have:=put_parts (r:=r) (put_part (k:=k) h)
    rw [List.append_assoc] at this
    exact this
theorem links_add {ws:List WinT} {L:WinT→List (Int × Int)} {u:WinT} {m:LkM} (h:LkOk ws L m):LkOk (ws++[u]) L (putAll u.2.2 (L u) m):=by
  have p:=put_parts (u:=u) (r:=L u) (ks:=[]) (m:=m) ⟨fun p hp=>.inl (h.a p hp),fun k l hl=>.inl (h.b k l hl),h.c,fun k hk=>by cases hk⟩
  rw [List.nil_append] at p
  refine ⟨fun q hq=>?_,fun k l hl=>?_,fun w hw k hk=>?_⟩
  · rcases p.a q hq with ⟨w,h1,h2⟩|h
    · exact ⟨w,by simp [h1],h2⟩
    · exact ⟨u,by simp,h⟩
  · rcases p.b k l hl with ⟨w,h1,h2⟩|h
    · exact ⟨w,by simp [h1],h2⟩
    · exact ⟨u,by simp,h⟩
  · rcases List.mem_append.1 hw with hw|hw
    · exact p.c w hw k hk
    · rw [List.mem_singleton.1 hw] at hk ⊢
      exact p.d k hk
theorem links_all {L:WinT→List (Int × Int)}:∀ {r ws:List WinT} {m:LkM},LkOk ws L m→LkOk (ws++r) L (r.foldl (fun m w=>putAll w.2.2 (L w) m) m)
  | [],ws,m,h=>by rw [List.append_nil];exact h
  | u::r,ws,m,h=>by
    have:=links_all (r:=r) (links_add (u:=u) h)
    rw [List.append_assoc] at this
    exact this
def lkW (rt:List Int) (w:WinT):List (Int × Int):=lkS w 0 rt (-1)
theorem links_ok {rt:List Int} {ws:List WinT}:LkOk ws (lkW rt) (linksF rt ws):=by
  have h:=links_all (L:=lkW rt) (r:=ws) (ws:=[]) (m:=[]) ⟨fun p hp=>absurd hp List.not_mem_nil,fun k l hl=>(by cases hl),fun w hw=>absurd hw List.not_mem_nil⟩
  rw [List.nil_append] at h
  have e:linksF rt ws=ws.foldl (fun m w=>putAll w.2.2 (lkW rt w) m) []:=by
    unfold linksF
    congr 1
    funext m w
    exact addG_put
  rw [e]
  exact h
def opn (w:WinT) (rt:List Int):Nat→Int
  | 0=>-1
  | j+1=>bif decide (getI rt 0 j=w.2.1)&&decide (opn w rt j≥0) then -1 else bif decide (getI rt 0 j=w.1) then (j:Int) else opn w rt j
theorem lkS_iff {w:WinT} {rt:List Int} {f j:Int}:∀ {n i:Nat},n=rt.length - i→i≤rt.length→((f,j)∈lkS w i (rt.drop i) (opn w rt i)↔∃ b:Nat,j=(b:Int)∧i≤b∧b < rt.length∧getI rt 0 b=w.2.1∧opn w rt b=f∧0≤f)
  | 0,i,hn,hi=>by
    rw [List.drop_eq_nil_of_le (by omega)]
    constructor
    · intro h;cases h
    · rintro ⟨b,h1,h2,h3,_⟩;omega
  | n+1,i,hn,hi=>by
    have hil:i < rt.length:=by omega
    rw [Re.drop_getI (d:=(0:Int)) hil]
    have ih:=lkS_iff (w:=w) (rt:=rt) (f:=f) (j:=j) (n:=n) (i:=i+1) (by omega) (by omega)
    have hst:opn w rt (i+1)=bif decide (getI rt 0 i=w.2.1)&&decide (opn w rt i≥0) then -1 else bif decide (getI rt 0 i=w.1) then (i:Int) else opn w rt i:=rfl
    unfold lkS
    cases hc:decide (getI rt 0 i=w.2.1)&&decide (opn w rt i≥0)
    · rw [hc] at hst
      have e:(bif false then (opn w rt i,(i:Int))::lkS w (i+1) (rt.drop (i+1)) (-1) else bif decide (getI rt 0 i=w.1) then lkS w (i+1) (rt.drop (i+1)) (i:Int) else lkS w (i+1) (rt.drop (i+1)) (opn w rt i))=lkS w (i+1) (rt.drop (i+1)) (opn w rt (i+1)):=by
        rw [hst]
        cases decide (getI rt 0 i=w.1) <;> rfl
      rw [e,ih]
      constructor
      · rintro ⟨b,h1,h2,h3⟩;exact ⟨b,h1,by omega,h3⟩
      · rintro ⟨b,h1,h2,h3,h4,h5,h6⟩
        refine ⟨b,h1,?_,h3,h4,h5,h6⟩
        by_cases hb:b=i
        · subst hb
          rw [decide_eq_true h4,decide_eq_true (show opn w rt b≥0 by omega)] at hc
          cases hc
        · omega
    · rw [hc] at hst
      have hst:opn w rt (i+1)=-1:=hst
      rw [hst] at ih
      rw [Bool.and_eq_true,decide_eq_true_eq,decide_eq_true_eq] at hc
      show (f,j)∈(opn w rt i,(i:Int))::lkS w (i+1) (rt.drop (i+1)) (-1)↔_
      rw [List.mem_cons,ih]
      constructor
      · rintro (h|⟨b,h1,h2,h3⟩)
        · cases h
          exact ⟨i,rfl,Nat.le_refl _,hil,hc.1,rfl,hc.2⟩
        · exact ⟨b,h1,by omega,h3⟩
      · rintro ⟨b,h1,h2,h3,h4,h5,h6⟩
        by_cases hb:b=i
        · subst hb
          exact .inl (by rw [h1,h5])
        · exact .inr ⟨b,h1,by omega,h3,h4,h5,h6⟩
theorem lkW_iff {w:WinT} {rt:List Int} {f j:Int}:(f,j)∈lkW rt w↔∃ b:Nat,j=(b:Int)∧b < rt.length∧getI rt 0 b=w.2.1∧opn w rt b=f∧0≤f:=by
  have:=lkS_iff (w:=w) (rt:=rt) (f:=f) (j:=j) (n:=rt.length) (i:=0) rfl (Nat.zero_le _)
  unfold lkW
  rw [List.drop_zero] at this
  rw [show (-1:Int)=opn w rt 0 from rfl,this]
  constructor
  · rintro ⟨b,h1,_,h3⟩;exact ⟨b,h1,h3⟩
  · rintro ⟨b,h1,h3⟩;exact ⟨b,h1,Nat.zero_le _,h3⟩
def Opn (w:WinT) (rt:List Int) (a j:Nat):Prop:=a < j∧getI rt 0 a=w.1∧∀ k,a < k→k < j→getI rt 0 k≠w.1∧getI rt 0 k≠w.2.1
theorem opn_iff {w:WinT} {rt:List Int} (hw:w.1≠w.2.1) {a:Nat}:∀ {j:Nat},opn w rt j=(a:Int)↔Opn w rt a j
  | 0=>by
    constructor
    · intro h;have h:(-1:Int)=a:=h;omega
    · intro h;exact absurd h.1 (by omega)
  | j+1=>by
    have ih:=opn_iff hw (rt:=rt) (a:=a) (j:=j)
    unfold opn
    by_cases ht:getI rt 0 j=w.2.1
    · have hno:¬ Opn w rt a (j+1):=by
        rintro ⟨h1,h2,h3⟩
        by_cases e:a=j
        · subst e;exact hw (h2.symm.trans ht)
        · exact (h3 j (by omega) (by omega)).2 ht
      have hf:¬ getI rt 0 j=w.1:=fun e=>hw (e.symm.trans ht)
      rw [decide_eq_true ht,decide_eq_false hf,Bool.true_and]
      by_cases hp:opn w rt j≥0
      · rw [decide_eq_true hp]
        constructor
        · intro h;have h:(-1:Int)=a:=h;omega
        · intro h;exact absurd h hno
      · rw [decide_eq_false hp]
        constructor
        · intro h;have h:opn w rt j=a:=h;omega
        · intro h;exact absurd h hno
    · rw [decide_eq_false ht,Bool.false_and]
      by_cases hf:getI rt 0 j=w.1
      · rw [decide_eq_true hf]
        constructor
        · intro h
          have h:(j:Int)=a:=h
          obtain rfl:j=a:=by omega
          exact ⟨by omega,hf,fun k h1 h2=>by omega⟩
        · rintro ⟨h1,h2,h3⟩
          by_cases e:a=j
          · rw [e];rfl
          · exact absurd hf (h3 j (by omega) (by omega)).1
      · rw [decide_eq_false hf]
        show opn w rt j=a↔_
        rw [ih]
        constructor
        · rintro ⟨h1,h2,h3⟩
          refine ⟨by omega,h2,fun k h4 h5=>?_⟩
          by_cases e:k=j
          · subst e;exact ⟨hf,ht⟩
          · exact h3 k h4 (by omega)
        · rintro ⟨h1,h2,h3⟩
          refine ⟨?_,h2,fun k h4 h5=>h3 k h4 (by omega)⟩
          by_cases e:a=j
          · subst e;exact absurd h2 hf
          · omega
theorem lnkB_iff {w:WinT} {rt:List Int} {a j:Nat}:lnkB w rt a j=true↔Opn w rt a j∧getI rt 0 j=w.2.1:=by
  unfold lnkB Opn
  rw [Bool.and_eq_true,Bool.and_eq_true,Bool.and_eq_true,decide_eq_true_eq,decide_eq_true_eq,decide_eq_true_eq,Bool.not_eq_true',List.any_eq_false]
  constructor
  · rintro ⟨⟨⟨h1,h2⟩,h3⟩,h4⟩
    refine ⟨⟨h1,h2,fun k h5 h6=>?_⟩,h3⟩
    have:=h4 (k - (a+1)) (List.mem_range.2 (by omega))
    rw [show a+1+(k - (a+1))=k by omega,Bool.or_eq_true,decide_eq_true_eq,decide_eq_true_eq,not_or] at this
    exact this
  · rintro ⟨⟨h1,h2,h4⟩,h3⟩
    refine ⟨⟨⟨h1,h2⟩,h3⟩,fun k hk=>?_⟩
    have:=h4 (a+1+k) (by omega) (by have:=List.mem_range.1 hk;omega)
    rw [Bool.or_eq_true,decide_eq_true_eq,decide_eq_true_eq,not_or]
    exact this
theorem lkW_lnk {w:WinT} {rt:List Int} (hw:w.1≠w.2.1) {k:Int × Int}:k∈lkW rt w↔∃ a b:Nat,k=((a:Int),(b:Int))∧b < rt.length∧lnkB w rt a b=true:=by
  obtain ⟨f,j⟩:=k
  rw [lkW_iff]
  constructor
  · rintro ⟨b,h1,h2,h3,h4,h5⟩
    obtain ⟨a,rfl⟩:∃ a:Nat,f=(a:Int):=⟨f.toNat,by omega⟩
    exact ⟨a,b,by rw [h1],h2,lnkB_iff.2 ⟨(opn_iff hw).1 h4,h3⟩⟩
  · rintro ⟨a,b,h1,h2,h3⟩
    cases h1
    obtain ⟨h4,h5⟩:=lnkB_iff.1 h3
    exact ⟨b,rfl,h2,h5,(opn_iff hw).2 h4,by omega⟩
theorem win_ne {mn mx:Int} {ss:List StepT} {ws:List WinT} (F:FlowSm mn mx ss ws) {w:WinT} (hw:w∈ws):w.1≠w.2.1:=by
  obtain ⟨i,hi,he⟩:=mem_getI (d:=tWin.dflt) hw
  have h:=F.wn i hi
  rw [he] at h
  unfold rwF at h
  simp only [Bool.and_eq_true,Bool.not_eq_true',decide_eq_false_iff_not] at h
  exact h.1.2
theorem opn_lt {w:WinT} {rt:List Int}:∀ {j:Nat},opn w rt j < (j:Int)
  | 0=>by show (-1:Int) < 0;omega
  | j+1=>by
    have:=opn_lt (w:=w) (rt:=rt) (j:=j)
    unfold opn
    cases decide (getI rt 0 j=w.2.1)&&decide (opn w rt j≥0)
    · cases decide (getI rt 0 j=w.1)
      · show opn w rt j < ((j+1:Nat):Int)
        omega
      · show (j:Int) < ((j+1:Nat):Int)
        omega
    · show (-1:Int) < ((j+1:Nat):Int)
      omega
def TimeOk (l:List VisT):Prop:=∀ v∈l,timeB v.2.2.1=true∧timeB v.2.2.2=true
def BadAt (w:WinT) (l:List VisT) (j:Nat):Prop:=getI (l.map Prod.fst) 0 j=w.2.1∧0≤opn w (l.map Prod.fst) j∧(getI l tVis.dflt j).2.2.1 - (getI l tVis.dflt (opn w (l.map Prod.fst) j).toNat).2.2.2 > w.2.2
structure WatAt (w:WinT) (l:List VisT) (j:Nat) (s:WatT):Prop where
  x:s.1=w
  o:s.2.2.1=decide (0≤opn w (l.map Prod.fst) j)
  e:0≤opn w (l.map Prod.fst) j→s.2.1=(getI l tVis.dflt (opn w (l.map Prod.fst) j).toNat).2.2.2
  l:s.2.2.2=true↔∃ b,b < j∧BadAt w l b
theorem wat_at {w:WinT} (hw:w.1≠w.2.1) {l:List VisT} (ht:TimeOk l):∀ {j:Nat},j≤l.length→WatAt w l j ((l.take j).foldl stepV (w,0,false,false))
  | 0,_=>⟨rfl,rfl,fun h=>by have h:(0:Int)≤-1:=h;omega,by
      constructor
      · intro h;cases h
      · rintro ⟨b,hb,_⟩;omega⟩
  | j+1,hj=>by
    have hjl:j < l.length:=by omega
    have h:=wat_at hw ht (j:=j) (by omega)
    rw [Re.take_getI (d:=tVis.dflt) hjl,List.foldl_append]
    show WatAt w l (j+1) (stepV ((l.take j).foldl stepV (w,0,false,false)) (getI l tVis.dflt j))
    generalize (l.take j).foldl stepV (w,0,false,false)=s at *
    have hg:getI (l.map Prod.fst) 0 j=(getI l tVis.dflt j).1:=by simp [getI,List.getD,List.getElem?_map,List.getElem?_eq_getElem hjl]
    have hst:opn w (l.map Prod.fst) (j+1)=bif decide (getI (l.map Prod.fst) 0 j=w.2.1)&&decide (opn w (l.map Prod.fst) j≥0) then -1 else bif decide (getI (l.map Prod.fst) 0 j=w.1) then (j:Int) else opn w (l.map Prod.fst) j:=rfl
    obtain ⟨t1,t2⟩:=ht _ (fl_mem (d:=tVis.dflt) hjl)
    have hlast:∀ P:Prop,(BadAt w l j↔P)→((∃ b,b < j+1∧BadAt w l b)↔(∃ b,b < j∧BadAt w l b)∨P):=by
      intro P hP
      constructor
      · rintro ⟨b,h1,h2⟩
        by_cases e:b=j
        · subst e;exact .inr (hP.1 h2)
        · exact .inl ⟨b,by omega,h2⟩
      · rintro (⟨b,h1,h2⟩|h)
        · exact ⟨b,by omega,h2⟩
        · exact ⟨j,by omega,hP.2 h⟩
    unfold stepV
    rw [t1,t2]
    show WatAt w l (j+1) (seeF s (getI l tVis.dflt j))
    unfold seeF
    rw [h.x]
    have hbad:BadAt w l j↔getI (l.map Prod.fst) 0 j=w.2.1∧0≤opn w (l.map Prod.fst) j∧(getI l tVis.dflt j).2.2.1 - (getI l tVis.dflt (opn w (l.map Prod.fst) j).toNat).2.2.2 > w.2.2:=Iff.rfl
    rw [hg] at hst hbad
    obtain ⟨v,hv⟩:∃ v,v=getI l tVis.dflt j:=⟨_,rfl⟩
    rw [← hv] at hst hbad ⊢
    by_cases c1:v.1=w.2.1
    · rw [decide_eq_true c1,decide_eq_false (show ¬ v.1=w.1 from fun e=>hw (e.symm.trans c1)),Bool.true_and] at hst
      rw [decide_eq_true c1]
      have ho:¬ 0≤opn w (l.map Prod.fst) (j+1):=by
        rw [hst]
        by_cases hp:opn w (l.map Prod.fst) j≥0
        · rw [decide_eq_true hp];show ¬ (0:Int)≤-1;omega
        · rw [decide_eq_false hp];exact hp
      refine ⟨rfl,(decide_eq_false ho).symm,fun h=>absurd h ho,?_⟩
      rw [hlast _ hbad]
      show (s.2.2.2||(s.2.2.1&&decide (v.2.2.1 > s.2.1+w.2.2)))=true↔_
      rw [Bool.or_eq_true,Bool.and_eq_true,h.l,h.o,decide_eq_true_eq,decide_eq_true_eq]
      refine or_congr Iff.rfl ⟨fun ⟨h1,h2⟩=>⟨c1,h1,by rw [h.e h1] at h2;omega⟩,fun ⟨_,h1,h2⟩=>⟨h1,by rw [h.e h1];omega⟩⟩
    · rw [decide_eq_false c1,Bool.false_and] at hst
      rw [decide_eq_false c1]
      have hb2:¬ BadAt w l j:=fun hb=>c1 (hbad.1 hb).1
      by_cases c2:v.1=w.1
      · rw [decide_eq_true c2] at hst
        have hst:opn w (l.map Prod.fst) (j+1)=(j:Int):=hst
        rw [decide_eq_true c2]
        refine ⟨rfl,(decide_eq_true (by rw [hst];omega)).symm,fun _=>?_,?_⟩
        · show v.2.2.2=_
          rw [hst,show ((j:Int)).toNat=j by omega,← hv]
        · rw [hlast False ⟨fun hb=>hb2 hb,fun h=>h.elim⟩,or_false]
          exact h.l
      · rw [decide_eq_false c2] at hst
        have hst:opn w (l.map Prod.fst) (j+1)=opn w (l.map Prod.fst) j:=hst
        rw [decide_eq_false c2]
        refine ⟨h.x,by rw [hst];exact h.o,by rw [hst];exact h.e,?_⟩
        rw [hlast False ⟨fun hb=>hb2 hb,fun h=>h.elim⟩,or_false]
        exact h.l
end Go.AM.Ytdohkcddjoammaa.Fl
end
