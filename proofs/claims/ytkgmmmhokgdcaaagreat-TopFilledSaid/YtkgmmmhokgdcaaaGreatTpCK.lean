/- TopFilled's helpers: waiting, apart; times stay low. -/
import Derived.Test.YtkgmmmhokgdcaaaGreatTpAK
import Derived.Test.YtkgmmmhokgdcaaaGreatPb29
import Derived.Test.YtkgmmmhokgdcaaaGreatReYK
import Derived.Test.YtkgmmmhokgdcaaaGreatPb32
set_option linter.all false
namespace Go.AM.YtkgmmmhokgdcaaaGreat.Tp
open Go.Proofs
open Go.AM.YtkgmmmhokgdcaaaGreat.Re
set_option maxRecDepth 100000
set_option maxHeartbeats 4000000
def waitJ (i:Nat) (y:t4.El):JobT :=
  (1+(i:Int),1+pickF y.1 3,decide (pickF (y.1.tdiv 3) 4=0),pickF y.2.1 300,pickF (y.2.1.tdiv 7) 50,1+pickF y.2.2.1 40,1+pickF y.2.2.2 25)
def waitN (x:List t4.El) (n:Nat):List JobT:=(List.range n).map fun i=>waitJ i (getI x t4.dflt i)
def waitF (x:List t4.El):List JobT:=waitN x (min x.length 10)
theorem waitN_len (x:List t4.El) (n:Nat):(waitN x n).length=n:=by unfold waitN;simp
theorem waitN_succ (x:List t4.El) (n:Nat):waitN x (n+1)=waitN x n++[waitJ n (getI x t4.dflt n)]:=by unfold waitN;rw [List.range_succ,List.map_append];rfl
theorem waitF_len (x:List t4.El):(waitF x).length≤10:=by unfold waitF;rw [waitN_len];omega
theorem waitF_lots (x:List t4.El):Lots (waitF x):=by
  unfold Lots waitF waitN
  rw [List.pairwise_map]
  refine List.pairwise_iff_getElem.2 fun i j hi hj hij=>?_
  rw [List.length_range] at hi hj
  rw [List.getElem_range,List.getElem_range]
  show (1+(i:Int))≠1+(j:Int)
  omega
theorem waitF_ok (x:List t4.El):∀ j∈waitF x,1≤jLen j∧jLen j≤40:=fun j hj=>by
  unfold waitF waitN at hj
  obtain ⟨i,hi,rfl⟩:=List.mem_map.1 hj
  have b1:=pick_b (c:=(getI x t4.dflt i).2.2.1) (n:=40) (by omega)
  refine ⟨?_,?_⟩
  · show 1≤1+pickF (getI x t4.dflt i).2.2.1 40
    omega
  · show 1+pickF (getI x t4.dflt i).2.2.1 40≤40
    omega
def waitS:Spec:=plain fun
  | [.sl (.pair (.int .i64) (.pair (.int .i64) (.pair (.int .i64) (.int .i64)))) x]=>some ⟨True,.own 0,[.seq tJob (waitF x)],false⟩
  | _=>none
def sigWt:List (Nat × Spec):=[(11,pickP)]
theorem sigWtOk:SigOk Tryz.prog (look sigWt):=sigCons sigNil Tryz.func11 (by kernel_rfl) (c:=body Tryz.f11) rfl pickTOk
theorem waitOk:SpecSound Tryz.prog 26 waitS:=by
  refine soundP (envOf sigWtOk) Tryz.func26 (c:=body Tryz.f26) rfl (by kernel_rfl) rfl ?_
  intro args out hf hpre
  split at hf <;> try (cases hf;done)
  rename_i x
  cases hf
  refine ⟨Nat.le_of_ble_eq_true rfl,initI (args:=[.sl t4 x]) rfl ?_⟩
  repeat' (first|with_reducible (first|apply pN|apply cN|apply bN|apply cE|apply cR|apply bR|apply lE|apply lR|apply jE|apply jR)|refine zE ?_|refine zP ?_|refine pD ?_|refine zS ?_|refine zR ?_|refine zO ?_|refine zB ?_|refine zX ?_|refine zT ?_|refine skipI rfl ?_)
  refine loopI (σ:=Nat) (fun i=>[(3,.own 3000),(4,.int .i64 i)]) (fun i=>[(3000,.seq tJob (waitN x i))]) (fun i=>i≤x.length∧i≤10) (fun i=>10 - i) 0 rfl (fun _=>rfl) rfl ?_ ?_ ?_
  · exact ⟨Nat.zero_le _,by omega⟩
  · repeat' (first|exact trivial|exact rfl|refine ⟨rfl,?_⟩|refine And.intro ?_ ?_)
  rintro i ⟨hi,hi12⟩
  have hjl:=waitN_len x i
  repeat' (first|with_reducible (first|apply pN|apply cN|apply bN|apply cE|apply cR|apply bR|apply lE|apply lR|apply jE|apply jR)|refine zE ?_|refine zP ?_|refine pD ?_|refine zS ?_|refine zR ?_|refine zO ?_|refine zB ?_|refine zX ?_|refine zT ?_|refine skipI rfl ?_)
  refine condI rfl (fun c1=>?_) (fun c1=>?_)
  · have c1':(decide ((i:Int) < x.length)&&decide ((i:Int) < 10))=true:=c1
    simp only [Bool.and_eq_true,decide_eq_true_eq] at c1'
    have hin:((i:Int)).toNat=i:=by omega
    have b1:=pick_b (c:=(getI x t4.dflt i).1) (n:=3) (by omega)
    have b2:=pick_b (c:=(getI x t4.dflt i).2.2.1) (n:=40) (by omega)
    have b3:=pick_b (c:=(getI x t4.dflt i).2.2.2) (n:=25) (by omega)
    repeat' (first|with_reducible (first|apply pN|apply cN|apply bN|apply cE|apply cR|apply bR|apply lE|apply lR|apply jE|apply jR)|refine zE ?_|refine zP ?_|refine pD ?_|refine pC (by first|omega|(show ((waitN x i).length+1) * 56≤140737488355328;omega)) ?_|refine zS ?_|refine zR ?_|refine zO ?_|refine zB ?_|refine zX ?_|refine zT ?_|refine skipI rfl ?_)
    refine roundI (i+1) rfl ?_ ?_ ?_
    · exact ⟨by show i+1≤x.length;omega,by show i+1≤10;omega⟩
    · show 10 - (i+1) < 10 - i
      omega
    · repeat' (first|exact trivial|with_reducible exact rfl|refine And.intro ?_ ?_)
      all_goals first|rfl|skip
      show waitN x (i+1)=_
      rw [waitN_succ]
      rfl
  · have c1':(decide ((i:Int) < x.length)&&decide ((i:Int) < 10))=false:=c1
    simp only [Bool.and_eq_false_iff,decide_eq_false_iff_not] at c1'
    repeat' (first|with_reducible (first|apply pN|apply cN|apply bN|apply cE|apply cR|apply bR|apply lE|apply lR|apply jE|apply jR)|refine zE ?_|refine zP ?_|refine pD ?_|refine zS ?_|refine zR ?_|refine zO ?_|refine zB ?_|refine zX ?_|refine zT ?_|refine skipI rfl ?_)
    refine endR rfl ?_
    repeat' (first|exact trivial|exact rfl|refine ⟨rfl,?_⟩|refine And.intro ?_ ?_)
    unfold waitF
    rw [show min x.length 10=i by omega]
def apBad (l:List Bk.El) (i:Nat):Bool:=decide (1≤i)&&decide ((getI l Bk.dflt i).2.1 < (getI l Bk.dflt (i - 1)).2.2.1)
def apF (l:List Bk.El):Bool:=!(List.range l.length).any (apBad l)
def apS:Spec:=plain fun
  | [.sl (.pair (.int .i64) (.pair (.int .i64) (.pair (.int .i64) (.int .i64)))) l]=>outV True (.bool (apF l))
  | _=>none
theorem apOk:SpecSound Tryz.prog 22 apS:=by
  refine soundP (envOf sigNil) Tryz.func22 (c:=body Tryz.f22) rfl (by kernel_rfl) rfl ?_
  intro args out hf hpre
  split at hf <;> try (cases hf;done)
  rename_i l
  cases hf
  refine ⟨Nat.le_of_ble_eq_true rfl,initI (args:=[.sl Bk l]) rfl ?_⟩
  refine factSl (t:=0) (ty:=Bk) rfl (fun hxs=>?_)
  have hmx:l.length≤9223372036854775807:=by have:=hxs.1;unfold maxLen at this;exact this
  obtain ⟨r,hr⟩:∃ r,r=apF l:=⟨_,rfl⟩
  rw [← hr]
  unfold apF at hr
  repeat' (first|with_reducible (first|apply pN|apply cN|apply bN|apply cE|apply cR|apply bR|apply lE|apply lR|apply jE|apply jR)|refine zE ?_|refine zP ?_|refine pD ?_|refine zS ?_|refine zR ?_|refine zO ?_|refine zB ?_|refine zX ?_|refine zT ?_|refine skipI rfl ?_)
  refine loopI (σ:=Nat) (fun i=>[(3,.int .i64 i)]) (fun i=>[]) (fun i=>1≤i∧(i≤l.length∨i=1)∧∀ j,j < i→apBad l j=false) (fun i=>l.length+1 - i) 1 rfl (fun _=>rfl) rfl ?_ ?_ ?_
  · refine ⟨by omega,by omega,fun j hj=>?_⟩
    obtain rfl:j=0:=by omega
    rfl
  · repeat' (first|exact trivial|exact rfl|refine ⟨rfl,?_⟩|refine And.intro ?_ ?_)
  rintro i ⟨hi1,hi,hb⟩
  repeat' (first|with_reducible (first|apply pN|apply cN|apply bN|apply cE|apply cR|apply bR|apply lE|apply lR|apply jE|apply jR)|refine zE ?_|refine zP ?_|refine pD ?_|refine zS ?_|refine zR ?_|refine zO ?_|refine zB ?_|refine zX ?_|refine zT ?_|refine skipI rfl ?_)
  refine condI rfl (fun c1=>?_) (fun c1=>?_)
  · simp only [decide_eq_true_eq] at c1
    have hil:i < l.length:=by omega
    have hin:((i:Int)).toNat=i:=by omega
    have hin1:((i:Int) - 1).toNat=i - 1:=by omega
    repeat' (first|with_reducible (first|apply pN|apply cN|apply bN|apply cE|apply cR|apply bR|apply lE|apply lR|apply jE|apply jR)|refine zE ?_|refine zP ?_|refine pD ?_|refine pC (by first|omega|(unfold In64;omega)) ?_|refine zS ?_|refine zR ?_|refine zO ?_|refine zB ?_|refine zX ?_|refine zT ?_|refine skipI rfl ?_)
    refine condI rfl (fun c2=>?_) (fun c2=>?_)
    · have h9:apBad l i=true:=by
        simp only [hin,hin1] at c2
        unfold apBad
        rw [decide_eq_true hi1]
        exact c2
      rw [Fl.rng_yes hil h9] at hr
      have hr:r=false:=hr
      repeat' (first|with_reducible (first|apply pN|apply cN|apply bN|apply cE|apply cR|apply bR|apply lE|apply lR|apply jE|apply jR)|refine zE ?_|refine zP ?_|refine pD ?_|refine zS ?_|refine zR ?_|refine zO ?_|refine zB ?_|refine zX ?_|refine zT ?_|refine skipI rfl ?_)
      refine endR rfl ?_
      repeat' (first|exact trivial|exact rfl|refine ⟨rfl,?_⟩|refine And.intro ?_ ?_)
      exact hr
    · have h9:apBad l i=false:=by
        simp only [hin,hin1] at c2
        unfold apBad
        rw [decide_eq_true hi1]
        exact c2
      repeat' (first|with_reducible (first|apply pN|apply cN|apply bN|apply cE|apply cR|apply bR|apply lE|apply lR|apply jE|apply jR)|refine zE ?_|refine zP ?_|refine pD ?_|refine zS ?_|refine zR ?_|refine zO ?_|refine zB ?_|refine zX ?_|refine zT ?_|refine skipI rfl ?_)
      refine roundI (i+1) rfl ?_ ?_ ?_
      · refine ⟨by omega,by omega,fun j hj=>?_⟩
        by_cases hji:j=i
        · subst hji;exact h9
        · exact hb j (by omega)
      · show l.length+1 - (i+1) < l.length+1 - i
        omega
      · repeat' (first|exact trivial|with_reducible exact rfl|refine And.intro ?_ ?_)
        all_goals rfl
  · simp only [decide_eq_false_iff_not] at c1
    rw [Fl.rng_no (fun j hj=>hb j (by omega))] at hr
    have hr:r=true:=hr
    repeat' (first|with_reducible (first|apply pN|apply cN|apply bN|apply cE|apply cR|apply bR|apply lE|apply lR|apply jE|apply jR)|refine zE ?_|refine zP ?_|refine pD ?_|refine zS ?_|refine zR ?_|refine zO ?_|refine zB ?_|refine zX ?_|refine zT ?_|refine skipI rfl ?_)
    refine endR rfl ?_
    repeat' (first|exact trivial|exact rfl|refine ⟨rfl,?_⟩|refine And.intro ?_ ?_)
    exact hr
theorem ap_good {t:Nat} {T:List Bk.El} (h:GoodL t T):apF T=true:=by
  unfold apF
  rw [Fl.rng_no fun i hi=>?_]
  · rfl
  unfold apBad
  by_cases h1:1≤i
  · have:=List.pairwise_iff_getElem.1 h.ord (i - 1) i (by omega) hi (by omega)
    have e1:getI T Bk.dflt i=T[i]:=by simp [getI,List.getD,List.getElem?_eq_getElem hi]
    have e2:getI T Bk.dflt (i - 1)=T[i - 1]:=by simp [getI,List.getD,List.getElem?_eq_getElem (show i - 1 < T.length by omega)]
    rw [e1,e2,decide_eq_false (show ¬ (T[i]).2.1 < (T[i - 1]).2.2.1 from fun h2=>by
      have h3:(T[i - 1]).2.2.1≤(T[i]).2.1:=this
      exact absurd h2 (Int.not_lt.2 h3)),Bool.and_false]
  · rw [decide_eq_false h1,Bool.false_and]
theorem calT_ends (x:List t4.El):Re.Ends 339 (calT x):=ends_all noCal_good (fun l hl y hy=>by
    have:l=[]:=List.eq_of_mem_replicate hl
    subst this
    cases hy) (fun b hb=>by
  unfold bksT someF at hb
  obtain ⟨d,hd,rfl⟩:=List.mem_map.1 hb
  obtain ⟨y,_,rfl⟩:=List.mem_map.1 hd
  have p1:=pick_b (c:=y.2.1) (n:=300) (by omega)
  have p2:=pick_b (c:=y.2.2.1) (n:=40) (by omega)
  show pickF y.2.1 300+1+pickF y.2.2.1 40≤339
  omega)
theorem made_low {B e a b:Int} {c:CalT} (hc:CalG c) (hE:Re.Ends B c) (he:0≤e) (heB:e≤B) (hB:B≤700000) {ns:List NeedT} {ws:List tWin.El} {y:List StT × Int} (h:makeG c e a b ns ws=some y) :
    ∀ x∈y.1,mSt x+100≤1000000∧sSt x+100≤1000000:=by
  have h2:=make_sh (k:=100) (a:=a) (b:=b) (ns:=ns) (ws:=ws) hc hE (by omega) he heB (by omega)
  rw [h] at h2
  have h3:=made_st' (good_sh hc hE (by omega) (by omega)) h2
  intro x hx
  have hs:=h3 (shS 100 x) (by
    show shS 100 x∈(shY 100 y).1
    exact List.mem_map.2 ⟨x,hx,rfl⟩)
  have h0:=made_st' hc h x hx
  have k1:mSt x+100+sMax x≤1000000:=hs.m1
  have k2:sSt x+100+sMax x≤1000000:=hs.s1
  have k3:1≤sMax x:=h0.l0
  omega
theorem chosen_low {e a b:Int} {xs:List StT} {ws:List WiT} (hv:Pl.validF e a b xs ws=true) (hl:∀ x∈xs,mSt x+100≤1000000∧sSt x+100≤1000000) (y:List (Int × Int)) (tool at':Int) :
    Pl.possF e a b xs ws (Pl.cDu xs y xs.length) (Pl.cMo a b y xs.length) (Pl.cDe a b y) (Pl.cTl xs tool) (Pl.cFa xs tool at')=true:=by
  have F:=Pl.valid_facts hv
  have hn:=F.n
  refine Pl.chosen_poss hv ⟨?_,fun i hi=>?_⟩ y tool at'
  · have:=(hl _ (Pl.getI_mem (d:=Pl.tStage.dflt) (xs:=xs) (i:=((xs.length:Int) - 1).toNat) (by omega))).2
    show sSt _+50≤1000000
    omega
  · have:=(hl _ (Pl.getI_mem (d:=Pl.tStage.dflt) (xs:=xs) hi)).1
    show mSt _+50≤1000000
    omega
theorem Has_more {l m:List Bk.El}:∀ {n:Nat} {c:CalT},Pl.Has l n c→Pl.Has l (n+m.length) (bookAll m c):=by
  induction m with
  | nil=>exact fun h=>h
  | cons b m ih =>
    intro n c h
    have:=ih (h.same b)
    rw [List.length_cons,show n+(m.length+1)=n+1+m.length by omega]
    exact this
theorem has_bks {c:CalT} (hc:CalG c) {xs:List StT} {ow:Int} (hf:allFree c (bks xs ow)=true):∀ d∈bks xs ow,inC (bookAll (bks xs ow) c) d∧GoodB d:=by
  have h:=(all_book hc hf).1
  have hg:∀ {l:List Bk.El} {c:CalT},CalG c→allFree c l=true→∀ d∈l,GoodB d:=by
    intro l
    induction l with
    | nil=>intro _ _ _ d hd;cases hd
    | cons b l ih =>
      intro c hc hf d hd
      simp only [allFree,Bool.and_eq_true] at hf
      rcases List.mem_cons.1 hd with rfl|hd
      · exact (free_iff.1 hf.1).1
      · exact ih (book_good hc b).1 hf.2 d hd
  intro d hd
  have g:=hg hc hf d hd
  exact ⟨(h (tlB d) g.t0 g.t1 d).2 (.inl ⟨hd,rfl⟩),g⟩
end Go.AM.YtkgmmmhokgdcaaaGreat.Tp
