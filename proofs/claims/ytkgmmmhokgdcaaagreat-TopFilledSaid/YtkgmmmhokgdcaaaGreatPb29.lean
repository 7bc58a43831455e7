/- ReT, CaLEx, CaLFi, CaLOr, CaLFr, CaRefT, ReU. -/
import Derived.Test.YtkgmmmhokgdcaaaGreatPb28
import Derived.Test.YtkgmmmhokgdcaaaGreatPb21
import Derived.Test.YtkgmmmhokgdcaaaGreatPb17

section
set_option linter.all false
namespace Go.AM.YtkgmmmhokgdcaaaGreat.Re
open Go.Proofs
theorem fold_some {c:CalT} {e a b:Int} {ns:List NeedT} {ws:List tWin.El} {kvs:DlT} {y:List StT × Int}:∀ {l:List (List PairT)} {s:BestT},l.foldl (stepG c e a b ns ws kvs) s=some y →
    s=some y∨∃ ch∈l,∃ xs,stG b c e ns ch=some xs∧lateAny kvs xs=false∧safeF e a b xs ws=true∧y=(xs,overG (lastG xs))
  | [],s,h=>.inl h
  | ch::l,s,h=>by
    rw [List.foldl_cons] at h
    rcases fold_some h with h1|⟨ch',h1,h2⟩
    · unfold stepG at h1
      cases hs:stG b c e ns ch with
      | none=>rw [hs] at h1;exact .inl h1
      | some xs =>
        rw [hs] at h1
        dsimp only at h1
        cases hA:(s.isSome&&decide (overG (lastG xs)≥bLst s)) <;> rw [hA] at h1
        · rw [cond_false] at h1
          cases hB:lateAny kvs xs <;> rw [hB] at h1
          · rw [cond_false] at h1
            cases hC:safeF e a b xs ws <;> rw [hC] at h1
            · exact .inl h1
            · exact .inr ⟨ch,by simp,xs,hs,hB,hC,(Option.some.inj h1).symm⟩
          · exact .inl h1
        · exact .inl h1
    · exact .inr ⟨ch',by simp [h1],h2⟩
theorem best_some {c:CalT} {e a b:Int} {ns:List NeedT} {ws:List tWin.El} {kvs:DlT} {y:List StT × Int} (h:bestG c e a b ns ws kvs=some y) :
    ∃ ch∈chL ns [],stG b c e ns ch=some y.1∧lateAny kvs y.1=false∧safeF e a b y.1 ws=true∧y.2=overG (lastG y.1):=by
  rcases fold_some (s:=none) h with h1|⟨ch,h1,xs,h2,h3,h4,h5⟩
  · cases h1
  · subst h5;exact ⟨ch,h1,h2,h3,h4,rfl⟩
theorem tool_mem {c:CalT} (h:CalG c) {t:Int} (h0:0≤t) (h1:t < 60) {e:Bk.El}:e∈toolL c t↔inC c e∧tlB e=t:=by
  constructor
  · intro he
    have ht:=((h.tool h0 h1).all e he).2
    have ht:tlB e=t:=by omega
    exact ⟨by unfold inC;rw [ht];exact he,ht⟩
  · rintro ⟨h2,h3⟩
    unfold inC at h2
    rwa [h3] at h2
theorem tool_book {c:CalT} (h:CalG c) {b:Bk.El} (hf:freeF c b=true) {t:Int} (h0:0≤t) (h1:t < 60) {e:Bk.El}:e∈toolL (bookF c b) t↔(e=b∧tlB b=t)∨e∈toolL c t:=by
  obtain ⟨g1,g2,_⟩:=book_yes h hf
  rw [tool_mem g1 h0 h1,tool_mem h h0 h1]
  constructor
  · rintro ⟨h2,h3⟩
    rcases (g2 e (by omega)).1 h2 with rfl|h4
    · exact .inl ⟨rfl,h3⟩
    · exact .inr ⟨h4,h3⟩
  · rintro (⟨rfl,h3⟩|⟨h4,h3⟩)
    · exact ⟨(g2 e (by omega)).2 (.inl rfl),h3⟩
    · exact ⟨(g2 e (by omega)).2 (.inr h4),h3⟩
theorem free_book {c:CalT} (h:CalG c) {b d:Bk.El} (hf:freeF c b=true):freeF (bookF c b) d=true↔freeF c d=true∧¬ (tlB b=tlB d∧meet b d):=by
  rw [free_iff,free_iff]
  constructor
  · rintro ⟨h1,h2⟩
    refine ⟨⟨h1,fun e he=>h2 e ((tool_book h hf h1.t0 h1.t1).2 (.inr he))⟩,fun ⟨h3,h4⟩=>h2 b ((tool_book h hf h1.t0 h1.t1).2 (.inl ⟨rfl,h3⟩)) h4⟩
  · rintro ⟨⟨h1,h2⟩,h3⟩
    refine ⟨h1,fun e he hm=>?_⟩
    rcases (tool_book h hf h1.t0 h1.t1).1 he with ⟨rfl,h4⟩|h4
    · exact h3 ⟨h4,hm⟩
    · exact h2 e h4 hm
def apartB (a b:Bk.El):Prop:=¬ (tlB a=tlB b∧meet a b)
theorem allFree_iff:∀ {l:List Bk.El} {c:CalT},CalG c→(allFree c l=true↔(∀ b∈l,freeF c b=true)∧l.Pairwise apartB)
  | [],c,_=>by simp [allFree]
  | b::l,c,h=>by
    simp only [allFree,Bool.and_eq_true,List.mem_cons,forall_eq_or_imp,List.pairwise_cons]
    constructor
    · rintro ⟨h1,h2⟩
      obtain ⟨h3,h4⟩:=(allFree_iff (book_good h b).1).1 h2
      exact ⟨⟨h1,fun d hd=>((free_book h h1).1 (h3 d hd)).1⟩,fun d hd=>((free_book h h1).1 (h3 d hd)).2,h4⟩
    · rintro ⟨⟨h1,h2⟩,h3,h4⟩
      exact ⟨h1,(allFree_iff (book_good h b).1).2 ⟨fun d hd=>(free_book h h1).2 ⟨h2 d hd,h3 d hd⟩,h4⟩⟩
def cntC (p:Bk.El→Bool) (c:CalT):Nat:=c.flatten.countP p
theorem cnt_set {p:Bk.El→Bool} {l:List Bk.El}:∀ {c:CalT} {i:Nat},i < c.length→cntC p (c.set i l)+(getI c [] i).countP p=cntC p c+l.countP p
  | [],i,h=>by simp at h
  | x::r,0,_=>by simp [cntC,getI];omega
  | x::r,i+1,h=>by
    have:=cnt_set (p:=p) (l:=l) (c:=r) (i:=i) (by simpa using h)
    simp [cntC,getI] at this ⊢
    omega
theorem cnt_book {p:Bk.El→Bool} {c:CalT} (h:CalG c) {b:Bk.El} (hf:freeF c b=true):cntC p (bookF c b)=cntC p c+(if p b=true then 1 else 0):=by
  unfold bookF
  rw [if_pos hf]
  have hg:=(free_iff.1 hf).1
  have hi:(tlB b).toNat < c.length:=by rw [h.len];have:=hg.t0;have:=hg.t1;omega
  have h1:=cnt_set (p:=p) (l:=addF (toolL c b.1) b) hi
  have h2:(addF (toolL c b.1) b).countP p=(toolL c b.1).countP p+(if p b=true then 1 else 0):=by
    have e:addF (toolL c b.1) b=(toolL c b.1).take (posF (toolL c b.1) (startB b))++[b]++(toolL c b.1).drop (posF (toolL c b.1) (startB b)):=by unfold addF insF;simp
    rw [e,List.countP_append,List.countP_append]
    have h3:(toolL c b.1).countP p=((toolL c b.1).take (posF (toolL c b.1) (startB b))).countP p+((toolL c b.1).drop (posF (toolL c b.1) (startB b))).countP p:=by
      rw [← List.countP_append,List.take_append_drop]
    rw [h3,List.countP_singleton]
    omega
  show cntC p (c.set (tlB b).toNat (addF (toolL c b.1) b))=_
  have h4:(getI c [] (tlB b).toNat)=toolL c b.1:=rfl
  rw [h4] at h1
  omega
theorem all_book:∀ {l:List Bk.El} {c:CalT},CalG c→allFree c l=true →
    (∀ t,0≤t→t < 60→∀ e,e∈toolL (bookAll l c) t↔(e∈l∧tlB e=t)∨e∈toolL c t)∧lenF (bookAll l c)=lenF c+l.length∧∀ p,cntC p (bookAll l c)=cntC p c+l.countP p
  | [],c,_,_=>⟨fun t h0 h1 e=>by simp [bookAll],rfl,fun p=>rfl⟩
  | b::l,c,h,hf=>by
    simp only [allFree,Bool.and_eq_true] at hf
    obtain ⟨h1,h2⟩:=hf
    obtain ⟨k1,k2,k3⟩:=all_book (book_good h b).1 h2
    refine ⟨fun t h0 h3 e=>?_,?_,fun p=>?_⟩
    · show e∈toolL (bookAll l (bookF c b)) t↔_
      rw [k1 t h0 h3 e,tool_book h h1 h0 h3]
      constructor
      · rintro (⟨h4,h5⟩|⟨rfl,h5⟩|h4)
        · exact .inl ⟨List.mem_cons_of_mem _ h4,h5⟩
        · exact .inl ⟨by simp,h5⟩
        · exact .inr h4
      · rintro (⟨h4,h5⟩|h4)
        · rcases List.mem_cons.1 h4 with rfl|h4
          · exact .inr (.inl ⟨rfl,h5⟩)
          · exact .inl ⟨h4,h5⟩
        · exact .inr (.inr h4)
    · show lenF (bookAll l (bookF c b))=_
      rw [k2,(book_yes h h1).2.2,List.length_cons]
      omega
    · show cntC p (bookAll l (bookF c b))=_
      rw [k3 p,cnt_book h h1,List.countP_cons]
      omega
def bks (xs:List StT) (ow:Int):List Bk.El:=xs.flatMap fun x=>[Pl.bk1 x ow,Pl.bk2 x ow]
theorem bkN_take {xs:List StT} {ow:Int}:∀ {i:Nat},i≤xs.length→Pl.bkN xs ow i=bks (xs.take i) ow
  | 0,_=>rfl
  | i+1,h=>by
    rw [show Pl.bkN xs ow (i+1)=Pl.bkN xs ow i++[Pl.bk1 (getI xs tStage.dflt i) ow]++[Pl.bk2 (getI xs tStage.dflt i) ow] from rfl,bkN_take (by omega),take_getI (d:=tStage.dflt) (by omega)]
    unfold bks
    rw [List.flatMap_append]
    simp
theorem planL_eq {e a b:Int} {xs:List tStage.El} {ws:List tWin.El} {ow:Int} (h:Pl.validF e a b xs ws=true) (h1:1≤ow) (h2:ow≤1000000):planL e a b xs ws ow=bks xs ow:=by
  unfold planL Pl.bookF
  rw [if_pos (by rw [h];unfold Pl.withinF;simp [h1,h2]),bkN_take (Nat.le_refl _),List.take_length]
theorem bks_len (xs:List StT) (ow:Int):(bks xs ow).length=2 * xs.length:=by
  unfold bks
  induction xs with
  | nil=>rfl
  | cons x r ih=>rw [List.flatMap_cons,List.length_append,ih,List.length_cons];simp;omega
def owTo (ow:Int) (b:Bk.El):Bk.El:=(b.1,b.2.1,b.2.2.1,ow)
theorem bks_own (xs:List StT) (o ow:Int):bks xs ow=(bks xs o).map (owTo ow):=by
  unfold bks
  induction xs with
  | nil=>rfl
  | cons x r ih=>rw [List.flatMap_cons,List.flatMap_cons,List.map_append,ih];rfl
theorem free_own {c:CalT} {b:Bk.El} {ow:Int} (h:freeF c b=true) (h1:1≤ow) (h2:ow≤1000000):freeF c (owTo ow b)=true:=by
  obtain ⟨k1,k2⟩:=free_iff.1 h
  exact free_iff.2 ⟨⟨k1.t0,k1.t1,k1.s0,k1.se,k1.e1,h1,h2⟩,fun d hd hm=>k2 d hd hm⟩
theorem all_own {c:CalT} (hc:CalG c) {l:List Bk.El} {ow:Int} (h:allFree c l=true) (h1:1≤ow) (h2:ow≤1000000):allFree c (l.map (owTo ow))=true:=by
  obtain ⟨k1,k2⟩:=(allFree_iff hc).1 h
  refine (allFree_iff hc).2 ⟨fun b hb=>?_,?_⟩
  · obtain ⟨d,hd,rfl⟩:=List.mem_map.1 hb
    exact free_own (k1 d hd) h1 h2
  · rw [List.pairwise_map]
    exact k2.imp fun h=>h
theorem bookG_eq {c:CalT} {tl fr ln:Int} (h:(firstF c tl fr ln).2=true):bookG c tl fr ln=bookF c (tl,(firstF c tl fr ln).1,(firstF c tl fr ln).1+ln,1):=by
  unfold bookG;rw [h];rfl
theorem stG_all {b:Int}:∀ {ns:List NeedT} {c:CalT} {t:Int} {ch:List PairT} {xs:List StT},CalG c→stG b c t ns ch=some xs→allFree c (bks xs 1)=true
  | [],c,t,ch,xs,_,h=>by
    simp only [stG,Option.some.injEq] at h
    subst h
    rfl
  | _::_,c,t,[],xs,_,h=>by simp [stG] at h
  | x::ns,c,t,p::ch,xs,hc,h=>by
    simp only [stG] at h
    cases h1:(firstF c p.1 (t+b) x.2.2).2 <;> rw [h1] at h
    · cases h
    · rw [cond_true] at h
      cases h2:(firstF (bookG c p.1 (t+b) x.2.2) p.2 ((firstF c p.1 (t+b) x.2.2).1+x.2.2 - 1+b) x.2.2).2 <;> rw [h2] at h
      · cases h
      · rw [cond_true,Option.map_eq_some_iff] at h
        obtain ⟨l,h3,rfl⟩:=h
        have hg1:=(bookG_good hc p.1 (t+b) x.2.2).1
        have hg2:=(bookG_good hg1 p.2 ((firstF c p.1 (t+b) x.2.2).1+x.2.2 - 1+b) x.2.2).1
        have h5:=stG_all hg2 h3
        have f1:=(first_facts hc h1).2.2
        have f2:=(first_facts hg1 h2).2.2
        obtain ⟨st,hst⟩:∃ st:StT,st=(x.2.1,x.2.2,(p.1,(firstF c p.1 (t+b) x.2.2).1),(p.2,(firstF (bookG c p.1 (t+b) x.2.2) p.2 ((firstF c p.1 (t+b) x.2.2).1+x.2.2 - 1+b) x.2.2).1)):=⟨_,rfl⟩
        have g1:bookF c (Pl.bk1 st 1)=bookG c p.1 (t+b) x.2.2:=by rw [hst];exact (bookG_eq h1).symm
        have g2:bookF (bookG c p.1 (t+b) x.2.2) (Pl.bk2 st 1)=bookG (bookG c p.1 (t+b) x.2.2) p.2 ((firstF c p.1 (t+b) x.2.2).1+x.2.2 - 1+b) x.2.2:=by rw [hst];exact (bookG_eq h2).symm
        rw [← hst]
        show (freeF c (Pl.bk1 st 1)&&(freeF (bookF c (Pl.bk1 st 1)) (Pl.bk2 st 1)&&allFree (bookF (bookF c (Pl.bk1 st 1)) (Pl.bk2 st 1)) (bks l 1)))=true
        rw [g1,g2,h5,show freeF c (Pl.bk1 st 1)=true by rw [hst];exact f1,show freeF (bookG c p.1 (t+b) x.2.2) (Pl.bk2 st 1)=true by rw [hst];exact f2]
        rfl
structure Made (c:CalT) (e a b:Int) (ns:List NeedT) (ws:List tWin.El) (xs:List StT):Prop where
  rv:rvalidF e a b ns ws=true
  safe:safeF e a b xs ws=true
  valid:Pl.validF e a b xs ws=true
  len:xs.length=ns.length
  pos:1≤xs.length
  free:∀ ow,1≤ow→ow≤1000000→allFree c (bks xs ow)=true
theorem made {c:CalT} (hc:CalG c) {e a b:Int} {ns:List NeedT} {ws:List tWin.El} {y:List StT × Int} (h:makeG c e a b ns ws=some y):Made c e a b ns ws y.1:=by
  unfold makeG at h
  cases hr:rvalidF e a b ns ws <;> rw [hr] at h
  · cases h
  · rw [cond_true] at h
    obtain ⟨ch,h1,h2,h3,h4,h5⟩:=best_some h
    have h6:=(stG_facts hc h2).1
    have h7:=rvalid_facts hr
    have hv:Pl.validF e a b y.1 ws=true:=by
      unfold safeF at h4
      simp only [Bool.and_eq_true] at h4
      exact h4.1.1
    refine ⟨hr,h4,hv,h6,by rw [h6];exact h7.2.2.1.1,fun ow o1 o2=>?_⟩
    rw [bks_own _ 1 ow]
    exact all_own hc (stG_all hc h2) o1 o2
theorem Made.can {c:CalT} {e a b:Int} {ns:List NeedT} {ws:List tWin.El} {xs:List StT} (m:Made c e a b ns ws xs) {ow:Int} (h1:1≤ow) (h2:ow≤1000000):canB c e a b xs ws ow=true:=by
  unfold canB
  rw [planL_eq m.valid h1 h2,m.free ow h1 h2,Bool.true_and,decide_eq_true_eq,bks_len]
  have:=m.pos
  omega
theorem Made.twice {c:CalT} (hc:CalG c) {e a b:Int} {ns:List NeedT} {ws:List tWin.El} {xs:List StT} (m:Made c e a b ns ws xs) {ow o2:Int} (h1:1≤ow) (h2:ow≤1000000) (h3:1≤o2) (h4:o2≤1000000) :
    canB (bookAll (bks xs ow) c) e a b xs ws o2=false:=by
  cases hcan:canB (bookAll (bks xs ow) c) e a b xs ws o2 with
  | false=>rfl
  | true =>
    exfalso
    unfold canB at hcan
    rw [planL_eq m.valid h3 h4,Bool.and_eq_true] at hcan
    cases xs with
    | nil=>have:=m.pos;simp at this
    | cons x r =>
      have hgc:=(bookAll_good (l:=bks (x::r) ow) hc).1
      have h5:=((allFree_iff hgc).1 hcan.1).1 (Pl.bk1 x o2) (by unfold bks;simp)
      obtain ⟨k1,k2⟩:=free_iff.1 h5
      have h6:=(all_book hc (m.free ow h1 h2)).1 (tlB (Pl.bk1 x o2)) k1.t0 k1.t1 (Pl.bk1 x ow)
      refine k2 _ (h6.2 (.inl ⟨by unfold bks;simp,rfl⟩)) ?_
      have:=k1.se
      exact ⟨this,this⟩
theorem bks_cnt (xs:List StT) (ow:Int):(bks xs ow).countP (ownsB ow)=2 * xs.length:=by
  rw [← bks_len xs ow,List.countP_eq_length]
  intro b hb
  unfold bks at hb
  rw [List.mem_flatMap] at hb
  obtain ⟨x,_,hb⟩:=hb
  simp only [List.mem_cons,List.not_mem_nil,or_false] at hb
  rcases hb with rfl|rfl <;> simp [ownsB,Pl.bk1,Pl.bk2]
theorem bks_other {xs:List StT} {ow o:Int} (h:ow≠o):∀ b∈bks xs ow,ownsB o b=false:=fun b hb=>by
  unfold bks at hb
  rw [List.mem_flatMap] at hb
  obtain ⟨x,_,hb⟩:=hb
  simp only [List.mem_cons,List.not_mem_nil,or_false] at hb
  rcases hb with rfl|rfl <;> simp [ownsB,Pl.bk1,Pl.bk2,h]
theorem Made.book {c:CalT} (hc:CalG c) {e a b:Int} {ns:List NeedT} {ws:List tWin.El} {xs:List StT} (m:Made c e a b ns ws xs) {ow:Int} (h1:1≤ow) (h2:ow≤1000000) :
    rbErr c e a b xs ws ow=0∧rbCal c e a b xs ws ow=bookAll (bks xs ow) c:=by
  unfold rbErr rbCal
  rw [m.can h1 h2,planL_eq m.valid h1 h2]
  exact ⟨rfl,rfl⟩
theorem Made.again {c:CalT} (hc:CalG c) {e a b:Int} {ns:List NeedT} {ws:List tWin.El} {xs:List StT} (m:Made c e a b ns ws xs) {ow o2:Int} (h1:1≤ow) (h2:ow≤1000000) (h3:1≤o2) (h4:o2≤1000000) :
    rbErr (bookAll (bks xs ow) c) e a b xs ws o2=100∧rbCal (bookAll (bks xs ow) c) e a b xs ws o2=bookAll (bks xs ow) c:=by
  unfold rbErr rbCal
  rw [m.twice hc h1 h2 h3 h4]
  exact ⟨rfl,rfl⟩
theorem ndL_len (x:Int4) (needs:List Int4):(ndL x needs).length≤3:=by unfold ndL ndN;rw [List.length_map,List.length_range];omega
theorem winL_len (n:Int) (ws:List (Int × Int)):(winL n ws).length≤3:=by
  have:∀ (l:List (Int × Int)) (acc:List WinT),(l.foldl (winStep n) acc).length≤acc.length+l.length:=fun l=>by
    induction l with
    | nil=>intro acc;simp
    | cons x r ih =>
      intro acc
      refine Nat.le_trans (ih _) ?_
      have:(winStep n acc x).length≤acc.length+1:=by
        unfold winStep
        cases winFit n acc (mkW x) <;> simp
      simp only [List.length_cons]
      omega
  have h:=this (ws.take 3) []
  rw [List.length_take] at h
  simp only [List.length_nil,Nat.zero_add] at h
  exact Nat.le_trans h (Nat.min_le_left _ _)
end Go.AM.YtkgmmmhokgdcaaaGreat.Re
end

section
set_option linter.all false
namespace Go.AM.YtkgmmmhokgdcaaaGreat
open Go.Proofs
set_option maxRecDepth 100000
set_option maxHeartbeats 8000000
structure Kept (xss:List (List Bk.El)) (kept:List Bk.El):Prop where
  mem:∀ c,0≤tlB c→(inC xss c↔c∈kept)
  len:lenF xss=kept.length
  pos:∀ c∈kept,0≤tlB c
def clashB (b c:Bk.El):Bool:=decide (c.1=b.1)&&decide (c.2.1 < b.2.2.1)&&decide (b.2.1 < c.2.2.1)
theorem clash_iff {b c:Bk.El}:clashB b c=true↔tlB c=tlB b∧meet c b:=by
  unfold clashB
  simp only [Bool.and_eq_true,decide_eq_true_eq]
  exact ⟨fun ⟨⟨h1,h2⟩,h3⟩=>⟨h1,h2,h3⟩,fun ⟨h1,h2,h3⟩=>⟨⟨h1,h2⟩,h3⟩⟩
theorem Kept.free {xss:List (List Bk.El)} {kept:List Bk.El} (h:Kept xss kept) (g:CalG xss) (b:Bk.El):freeF xss b=(!(kept.any (clashB b))&&validB b.1 b.2.1 b.2.2.1 b.2.2.2):=by
  rw [Bool.eq_iff_iff,free_iff,Bool.and_eq_true,validB_iff]
  constructor
  · rintro ⟨h1,h2⟩
    refine ⟨?_,h1⟩
    rw [Bool.not_eq_true',List.any_eq_false]
    intro c hc hcl
    obtain ⟨h3,h4⟩:=clash_iff.1 hcl
    have h5:=(h.mem c (h.pos c hc)).2 hc
    unfold inC at h5
    rw [h3] at h5
    exact h2 c h5 h4
  · rintro ⟨h1,h2⟩
    refine ⟨h2,fun c hc hm=>?_⟩
    rw [Bool.not_eq_true',List.any_eq_false] at h1
    have ht:tlB c=tlB b:=by
      have:=((g.tool h2.t0 h2.t1).all c hc).2
      have:=h2.t0
      have:=((g.tool h2.t0 h2.t1).all c hc).1.t0
      omega
    exact h1 c ((h.mem c (by rw [ht];exact h2.t0)).1 (by unfold inC;rw [ht];exact hc)) (clash_iff.2 ⟨ht,hm⟩)
end Go.AM.YtkgmmmhokgdcaaaGreat
end

section
set_option linter.all false
namespace Go.AM.YtkgmmmhokgdcaaaGreat
open Go.Proofs
set_option maxRecDepth 100000
set_option maxHeartbeats 8000000
theorem first_eq {xss:List (List Bk.El)} {t f n:Int} (h0:0≤t) (h1:t < 60) (hf:0≤f) (hn:1≤n):firstF xss t f n=firstG (gapsL (toolL xss t) f) n:=by
  unfold firstF
  rw [if_pos ⟨toolB_of h0 h1,hn⟩,Int.max_eq_left hf]
end Go.AM.YtkgmmmhokgdcaaaGreat
end

section
set_option linter.all false
namespace Go.AM.YtkgmmmhokgdcaaaGreat
open Go.Proofs
set_option maxRecDepth 100000
set_option maxHeartbeats 8000000
structure Apart (m:List Bk.El):Prop where
  good:∀ b∈m,GoodB b
  pw:m.Pairwise fun a b=>¬ (tlB a=tlB b∧meet a b)
theorem getI_mem {m:List Bk.El} {i:Nat} (h:i < m.length):getI m Bk.dflt i∈m:=by
  have:getI m Bk.dflt i=m[i]:=by simp [getI,List.getD,List.getElem?_eq_getElem h]
  rw [this];exact List.getElem_mem h
theorem Apart.next {m:List Bk.El} (h:Apart m) {i:Nat} (hi:i < m.length) {xss:List (List Bk.El)} (g:CalG xss) (hk:Kept xss (m.take i)):freeF xss (getI m Bk.dflt i)=true:=by
  rw [hk.free g,Bool.and_eq_true]
  refine ⟨?_,(validB_iff _).2 (h.good _ (getI_mem hi))⟩
  rw [Bool.not_eq_true',List.any_eq_false]
  intro c hc hcl
  obtain ⟨h1,h2⟩:=clash_iff.1 hcl
  obtain ⟨j,hj,rfl⟩:=List.getElem_of_mem hc
  rw [List.length_take] at hj
  have:=List.pairwise_iff_getElem.1 h.pw j i (by omega) hi (by omega)
  rw [List.getElem_take] at h1 h2
  have e:getI m Bk.dflt i=m[i]:=by simp [getI,List.getD,List.getElem?_eq_getElem hi]
  rw [e] at h1 h2
  exact this ⟨h1,h2⟩
theorem flat_le (xss:List (List Bk.El)) (k:Nat):(xss.take k).flatten.length≤lenF xss:=by
  have:=congrArg lenF (List.take_append_drop k xss)
  rw [flat_len]
  unfold lenF at *
  rw [List.map_append,List.sum_append] at this
  omega
def orS:Spec:=plain fun
  | [.sl (.pair (.int .i64) (.pair (.int .i64) (.pair (.int .i64) (.int .i64)))) _,.sl (.int .i64) _]=>outV True (.bool true)
  | _=>none
end Go.AM.YtkgmmmhokgdcaaaGreat
end

section
set_option linter.all false
namespace Go.AM.YtkgmmmhokgdcaaaGreat
open Go.Proofs
set_option maxRecDepth 100000
set_option maxHeartbeats 8000000
theorem others {l:List Bk.El} (hl:∀ b∈l,owB b=77) {c:Bk.El} (h0:0≤tlB c) (hc:owB c≠77):∀ {xss:List (List Bk.El)},CalG xss→(inC (bookAll l xss) c↔inC xss c):=by
  induction l with
  | nil=>intro xss _;exact Iff.rfl
  | cons b l ih =>
    intro xss g
    have h1:=ih (fun b hb=>hl b (List.mem_cons_of_mem _ hb)) (book_good g b).1
    have h2:inC (bookAll (b::l) xss) c↔inC (bookF xss b) c:=h1
    rw [h2]
    cases hf:freeF xss b
    · rw [book_no hf]
    · rw [(book_yes g hf).2.1 c h0]
      constructor
      · rintro (rfl|h)
        · exact absurd (hl _ (by simp)) hc
        · exact h
      · exact .inr
theorem more {l:List Bk.El} {c:Bk.El} (h0:0≤tlB c):∀ {xss:List (List Bk.El)},CalG xss→inC xss c→inC (bookAll l xss) c:=by
  induction l with
  | nil=>intro xss _ h;exact h
  | cons b l ih =>
    intro xss g h
    refine ih (book_good g b).1 ?_
    cases hf:freeF xss b
    · rw [book_no hf];exact h
    · exact ((book_yes g hf).2.1 c h0).2 (.inr h)
theorem freed_flat (xss:List (List Bk.El)) (o:Int):(freedF xss o).flatten=xss.flatten.filter fun b=>!ownsB o b:=by
  unfold freedF delF
  rw [List.filter_flatten]
theorem filter_two (l:List Bk.El) (p:Bk.El→Bool):(l.filter p).length+(l.filter fun b=>!p b).length=l.length:=by
  induction l with
  | nil=>rfl
  | cons b l ih =>
    cases hp:p b
    · simp only [List.filter_cons,hp,List.length_cons,Bool.not_false,if_true]
      simp
      omega
    · simp only [List.filter_cons,hp,List.length_cons,Bool.not_true,if_true]
      simp
      omega
theorem freed_len (xss:List (List Bk.El)) (o:Int):lenF (freedF xss o)+(ownedF xss o).length=lenF xss:=by
  have:=filter_two xss.flatten (ownsB o)
  rw [← freed_flat] at this
  unfold ownedF
  rw [← flat_len,← flat_len xss]
  omega
theorem two_apart {xss:List (List Bk.El)} (g:CalG xss) {a b:Bk.El} (ha:inC xss a) (hb:inC xss b) (h0:0≤tlB a) (h1:tlB a < 60) (ht:tlB a=tlB b) (hne:a≠b):¬ meet a b:=fun hm=>by
  unfold inC at ha hb
  rw [← ht] at hb
  have hg:=g.tool h0 h1
  obtain ⟨i,hi,hia⟩:=List.getElem_of_mem ha
  obtain ⟨j,hj,hjb⟩:=List.getElem_of_mem hb
  have m1:=hm.1
  have m2:=hm.2
  have hp:=List.pairwise_iff_getElem.1 hg.ord
  rcases Nat.lt_trichotomy i j with h|h|h
  · have:=hp i j hi hj h
    rw [hia,hjb] at this
    omega
  · subst h;exact hne (hia.symm.trans hjb)
  · have:=hp j i hj hi h
    rw [hia,hjb] at this
    omega
structure Again (x0 x1 xss:List (List Bk.El)) (m:List Bk.El):Prop where
  mem:∀ c,0≤tlB c→(inC xss c↔inC x0 c∨c∈m)
  good:CalG xss
  len:lenF xss=lenF x0+m.length
theorem Again.free {x0 x1 xss:List (List Bk.El)} {m:List Bk.El} (h:Again x0 x1 xss m) (g1:CalG x1) (h01:∀ c,0≤tlB c→inC x0 c→inC x1 c) (hm:∀ c∈m,inC x1 c) {b:Bk.El} (hb:inC x1 b) (h0:0≤tlB b) (h1:tlB b < 60)
    (hnew:∀ c,inC x0 c∨c∈m→c≠b):freeF xss b=true:=by
  refine free_iff.2 ⟨g1.good hb h0 h1,fun c hc hcm=>?_⟩
  have ht:=((h.good.tool h0 h1).all c hc)
  have hte:tlB c=tlB b:=by have:=ht.2;have:=ht.1.t0;omega
  have hcc:inC xss c:=by unfold inC;rw [hte];exact hc
  have hor:=(h.mem c (by omega)).1 hcc
  have hc1:inC x1 c:=by
    rcases hor with h'|h'
    · exact h01 c (by omega) h'
    · exact hm c h'
  exact two_apart g1 hc1 hb (by omega) (by omega) hte (hnew c hor) hcm
end Go.AM.YtkgmmmhokgdcaaaGreat
end

section
set_option linter.all false
namespace Go.AM.YtkgmmmhokgdcaaaGreat
open Go.Proofs
end Go.AM.YtkgmmmhokgdcaaaGreat
end

section
set_option linter.all false
namespace Go.AM.YtkgmmmhokgdcaaaGreat.Re
open Go.Proofs
def shB (k:Int) (b:Bk.El):Bk.El:=(b.1,b.2.1+k,b.2.2.1+k,b.2.2.2)
def shC (k:Int) (c:CalT):CalT:=c.map (List.map (shB k))
def shS (k:Int) (x:StT):StT:=(x.1,x.2.1,(x.2.2.1.1,x.2.2.1.2+k),(x.2.2.2.1,x.2.2.2.2+k))
def Ends (B:Int) (c:CalT):Prop:=∀ l∈c,∀ x∈l,enB x≤B
theorem get_sh {k:Int} {c:CalT} {i:Nat}:getI (shC k c) [] i=(getI c [] i).map (shB k):=by
  unfold getI shC
  rw [List.getD_eq_getElem?_getD,List.getD_eq_getElem?_getD,List.getElem?_map]
  cases c[i]? <;> rfl
theorem tool_sh {k:Int} {c:CalT} {t:Int}:toolL (shC k c) t=(toolL c t).map (shB k):=get_sh
theorem tool_ends {B:Int} {c:CalT} (h:Ends B c) {t:Int}:∀ x∈toolL c t,enB x≤B:=fun x hx=>by
  unfold toolL getI at hx
  rw [List.getD_eq_getElem?_getD] at hx
  cases hg:c[t.toNat]? with
  | none=>rw [hg] at hx;simp at hx
  | some l=>rw [hg] at hx;exact h l (List.mem_of_getElem? hg) x hx
theorem good_sh {k B:Int} {c:CalT} (h:CalG c) (hE:Ends B c) (h0:0≤k) (hB:B+k≤1000000):CalG (shC k c):=by
  refine ⟨by unfold shC;rw [List.length_map];exact h.len,fun t ht=>?_⟩
  rw [get_sh]
  have hl:=h.each t ht
  refine ⟨fun b hb=>?_,?_⟩
  · obtain ⟨d,hd,rfl⟩:=List.mem_map.1 hb
    obtain ⟨g,ht'⟩:=hl.all d hd
    have he:enB d≤B:=by
      have:=tool_ends hE (t:=(t:Int)) d (by unfold toolL;rw [show ((t:Int)).toNat=t by omega];exact hd)
      exact this
    have:=g.s0
    have:=g.se
    exact ⟨⟨g.t0,g.t1,by show 0≤stB d+k;omega,by show stB d+k < enB d+k;omega,by show enB d+k≤1000000;omega,g.o0,g.o1⟩,ht'⟩
  · rw [List.pairwise_map]
    refine hl.ord.imp fun {a b} h=>?_
    show enB a+k≤stB b+k
    omega
def firstL (l:List Bk.El) (f ln:Int):Int × Bool:=firstG (gapsL l f) ln
theorem firstL_nil (f ln:Int):firstL [] f ln=if f < 1000000 then (if longB ln (f,1000000)=true then (f,true) else (0,false)) else (0,false):=by
  unfold firstL
  rw [show gapsL [] f=if f < 1000000 then [(f,1000000)] else [] from rfl]
  by_cases hf:f < 1000000
  · rw [if_pos hf,if_pos hf]
    unfold firstG
    cases h:longB ln (f,1000000) <;> simp [List.find?,h]
  · rw [if_neg hf,if_neg hf]
    rfl
theorem firstL_cons (b:Bk.El) (xs:List Bk.El) (f ln:Int):firstL (b::xs) f ln=if f < stB b then (if longB ln (f,stB b)=true then (f,true) else firstL xs (max f (enB b)) ln) else firstL xs (max f (enB b)) ln:=by
  show firstG (gapsL (b::xs) f) ln=_
  rw [show gapsL (b::xs) f=(if f < stB b then [(f,stB b)] else [])++gapsL xs (max f (enB b)) from rfl]
  split
  · cases h:longB ln (f,stB b)
    · rw [if_neg (by simp)]
      unfold firstL firstG
      simp [List.find?,h]
    · rw [if_pos rfl]
      unfold firstG
      simp [List.find?,h]
  · rfl
theorem first_sh {k B ln:Int} (h0:0≤k) (hl:1≤ln) (hB:B+k+ln≤1000000):∀ {l:List Bk.El} {f:Int},(∀ x∈l,GoodB x∧enB x≤B)→0≤f→f≤B →
    (firstL l f ln).2=true∧f≤(firstL l f ln).1∧(firstL l f ln).1≤B∧firstL (l.map (shB k)) (f+k) ln=((firstL l f ln).1+k,true)
  | [],f,_,hf,hfB=>by
    have e1:longB ln (f,1000000)=true:=by
      unfold longB
      rw [wrap64_id (by show -9223372036854775808≤(1000000:Int) - f;omega) (by show (1000000:Int) - f < _;omega),decide_eq_true_eq]
      show ln≤1000000 - f
      omega
    have e2:longB ln (f+k,1000000)=true:=by
      unfold longB
      rw [wrap64_id (by show -9223372036854775808≤(1000000:Int) - (f+k);omega) (by show (1000000:Int) - (f+k) < _;omega),decide_eq_true_eq]
      show ln≤1000000 - (f+k)
      omega
    rw [List.map_nil,firstL_nil,firstL_nil,if_pos (by omega),if_pos e1,if_pos (by omega),if_pos e2]
    exact ⟨rfl,Int.le_refl _,hfB,rfl⟩
  | b::xs,f,hg,hf,hfB=>by
    obtain ⟨gb,eb⟩:=hg b (by simp)
    have hs0:=gb.s0
    have hse:=gb.se
    have ih:=first_sh h0 hl hB (l:=xs) (f:=max f (enB b)) (fun x hx=>hg x (by simp [hx])) (by omega) (by omega)
    have e:longB ln (f+k,stB b+k)=longB ln (f,stB b):=by
      unfold longB
      rw [show (stB b+k,f+k).1 - (stB b+k,f+k).2=stB b - f by show stB b+k - (f+k)=_;omega]
    have hm:max (f+k) (enB b+k)=max f (enB b)+k:=by omega
    rw [List.map_cons,firstL_cons,firstL_cons]
    show _∧_∧_∧(if f+k < stB b+k then (if longB ln (f+k,stB b+k)=true then (f+k,true) else firstL (xs.map (shB k)) (max (f+k) (enB b+k)) ln) else firstL (xs.map (shB k)) (max (f+k) (enB b+k)) ln)=_
    rw [hm,e]
    by_cases c1:f < stB b
    · rw [if_pos c1,if_pos (show f+k < stB b+k by omega)]
      by_cases c2:longB ln (f,stB b)=true
      · rw [if_pos c2,if_pos c2]
        exact ⟨rfl,Int.le_refl _,hfB,rfl⟩
      · rw [if_neg c2,if_neg c2]
        exact ⟨ih.1,by omega,ih.2.2.1,ih.2.2.2⟩
    · rw [if_neg c1,if_neg (show ¬ f+k < stB b+k by omega)]
      exact ⟨ih.1,by omega,ih.2.2.1,ih.2.2.2⟩
theorem firstF_sh {k B ln fr tl:Int} {c:CalT} (hc:CalG c) (hE:Ends B c) (h0:0≤k) (hf:0≤fr) (hfB:fr≤B) (hB:B+k+ln≤1000000) :
    (firstF c tl fr ln=(0,false)∧firstF (shC k c) tl (fr+k) ln=(0,false)) ∨
    ((firstF c tl fr ln).2=true∧fr≤(firstF c tl fr ln).1∧(firstF c tl fr ln).1≤B∧firstF (shC k c) tl (fr+k) ln=((firstF c tl fr ln).1+k,true)):=by
  unfold firstF
  by_cases h:toolB tl=true∧1≤ln
  · right
    rw [if_pos h,if_pos h,tool_sh,show max fr 0=fr by omega,show max (fr+k) 0=fr+k by omega]
    obtain ⟨t0,t1⟩:=toolB_true h.1
    exact first_sh h0 h.2 hB (fun x hx=>⟨((hc.tool t0 t1).all x hx).1,tool_ends hE x hx⟩) hf hfB
  · left
    rw [if_neg h,if_neg h]
    exact ⟨rfl,rfl⟩
theorem pos_sh {k s:Int} {l:List Bk.El}:posF (l.map (shB k)) (s+k)=posF l s:=by
  unfold posF
  rw [List.takeWhile_map,List.length_map]
  congr 2
  funext b
  show decide (startB b+k < s+k)=decide (startB b < s)
  congr 1
  exact propext ⟨fun h=>by omega,fun h=>by omega⟩
theorem book_sh {k:Int} {c:CalT} {b:Bk.El} (h1:freeF c b=true) (h2:freeF (shC k c) (shB k b)=true):bookF (shC k c) (shB k b)=shC k (bookF c b):=by
  unfold bookF
  rw [if_pos h1,if_pos h2]
  unfold shC
  rw [List.map_set]
  show (c.map (List.map (shB k))).set b.1.toNat (addF (toolL (shC k c) b.1) (shB k b))=_
  rw [tool_sh]
  congr 1
  show insF ((toolL c b.1).map (shB k)) [shB k b] (posF ((toolL c b.1).map (shB k)) (startB b+k))=(insF (toolL c b.1) [b] (posF (toolL c b.1) (startB b))).map (shB k)
  rw [pos_sh]
  unfold insF
  simp [List.map_take,List.map_drop]
theorem ends_book {B:Int} {c:CalT} (hc:CalG c) {b:Bk.El} (hE:Ends B c) (hb:enB b≤B):Ends B (bookF c b):=by
  intro l hl x hx
  have hg:=(book_good hc b).1
  cases hf:freeF c b
  · rw [book_no hf] at hl
    exact hE _ hl x hx
  · obtain ⟨i,hi,rfl⟩:=List.getElem_of_mem hl
    have hi60:i < 60:=by rw [← hg.len];exact hi
    have hx':x∈toolL (bookF c b) (i:Int):=by
      unfold toolL getI
      rw [List.getD_eq_getElem?_getD,show ((i:Int)).toNat=i by omega,List.getElem?_eq_getElem hi]
      exact hx
    rcases (tool_book hc hf (by omega) (by omega)).1 hx' with ⟨rfl,_⟩|h
    · exact hb
    · exact tool_ends hE x h
theorem ends_mono {B B':Int} {c:CalT} (h:Ends B c) (hB:B≤B'):Ends B' c:=fun l hl x hx=>Int.le_trans (h l hl x hx) hB
theorem bookG_sh {k B ln fr tl:Int} {c:CalT} (hc:CalG c) (hE:Ends B c) (h0:0≤k) (hf:0≤fr) (hfB:fr≤B) (hB:B+k+ln≤1000000) (hl:0≤ln) :
    bookG (shC k c) tl (fr+k) ln=shC k (bookG c tl fr ln)∧Ends (B+ln) (bookG c tl fr ln):=by
  have hg:=good_sh hc hE h0 (show B+k≤1000000 by omega)
  rcases firstF_sh (tl:=tl) hc hE h0 hf hfB hB with ⟨h1,h2⟩|⟨h1,h2,h3,h4⟩
  · unfold bookG
    rw [h1,h2]
    exact ⟨rfl,ends_mono hE (by omega)⟩
  · obtain ⟨_,_,f1⟩:=first_facts hc h1
    obtain ⟨_,_,f2⟩:=first_facts hg (tl:=tl) (fr:=fr+k) (ln:=ln) (by rw [h4])
    rw [bookG_eq h1,bookG_eq (by rw [h4])]
    rw [h4] at f2 ⊢
    have e:((tl,(firstF c tl fr ln).1+k,(firstF c tl fr ln).1+k+ln,1):Bk.El)=shB k (tl,(firstF c tl fr ln).1,(firstF c tl fr ln).1+ln,1):=by
      unfold shB
      show (tl,(firstF c tl fr ln).1+k,(firstF c tl fr ln).1+k+ln,(1:Int))=(tl,(firstF c tl fr ln).1+k,(firstF c tl fr ln).1+ln+k,(1:Int))
      rw [show (firstF c tl fr ln).1+k+ln=(firstF c tl fr ln).1+ln+k by omega]
    have f2:freeF (shC k c) (tl,(firstF c tl fr ln).1+k,(firstF c tl fr ln).1+k+ln,1)=true:=f2
    rw [e] at f2
    refine ⟨?_,ends_book hc (ends_mono hE (by omega)) (by show (firstF c tl fr ln).1+ln≤_;omega)⟩
    show bookF (shC k c) (tl,(firstF c tl fr ln).1+k,(firstF c tl fr ln).1+k+ln,1)=_
    rw [e,book_sh f1 f2]
theorem stG_sh {k b:Int} (h0:0≤k) (hb0:0≤b) (hb:b≤10000):∀ {ns:List NeedT} {c:CalT} {t B:Int} {ch:List PairT},CalG c→Ends B c→0≤t→t≤B→(∀ x∈ns,(0:Int)≤x.2.2∧x.2.2≤(10000:Int)) →
    B+40000 * (ns.length:Int)+k≤900000→stG b (shC k c) (t+k) ns ch=(stG b c t ns ch).map (List.map (shS k))
  | [],c,t,B,ch,_,_,_,_,_,_=>rfl
  | _::_,c,t,B,[],_,_,_,_,_,_=>rfl
  | x::ns,c,t,B,p::ch,hc,hE,ht,htB,hx,hB=>by
    obtain ⟨x0,x1⟩:=hx x (by simp)
    rw [List.length_cons] at hB
    have hE1:Ends (B+b) c:=ends_mono hE (by omega)
    have e1:t+k+b=t+b+k:=by omega
    simp only [stG]
    rw [e1]
    have hk1:=bookG_sh (tl:=p.1) (fr:=t+b) (ln:=x.2.2) hc hE1 h0 (by omega) (by omega) (by omega) x0
    have hg1:=(bookG_good hc p.1 (t+b) x.2.2).1
    rcases firstF_sh (tl:=p.1) (fr:=t+b) (ln:=x.2.2) hc hE1 h0 (by omega) (by omega) (by omega) with ⟨h1,h2⟩|⟨h1,h2,h3,h4⟩
    · rw [h1,h2]
      rfl
    · have x2:(1:Int)≤x.2.2:=(first_facts hc h1).1.2.2
      rw [h1,h4,hk1.1,cond_true,cond_true]
      obtain ⟨v,hv⟩:∃ v,v=(firstF c p.1 (t+b) x.2.2).1:=⟨_,rfl⟩
      obtain ⟨c1,hc1⟩:∃ c1,c1=bookG c p.1 (t+b) x.2.2:=⟨_,rfl⟩
      rw [← hv] at h2 h3
      rw [← hc1] at hk1 hg1
      rw [← hv,← hc1]
      have e2:v+k+x.2.2 - 1+b=v+x.2.2 - 1+b+k:=by omega
      dsimp only
      rw [e2]
      have hE2:Ends (B+b+x.2.2+b) c1:=ends_mono hk1.2 (by omega)
      have hk2:=bookG_sh (tl:=p.2) (fr:=v+x.2.2 - 1+b) (ln:=x.2.2) hg1 hE2 h0 (by omega) (by omega) (by omega) x0
      have hg2:=(bookG_good hg1 p.2 (v+x.2.2 - 1+b) x.2.2).1
      rcases firstF_sh (tl:=p.2) (fr:=v+x.2.2 - 1+b) (ln:=x.2.2) hg1 hE2 h0 (by omega) (by omega) (by omega) with ⟨h5,h6⟩|⟨h5,h6,h7,h8⟩
      · rw [h5,h6]
        rfl
      · rw [h5,h8,hk2.1,cond_true,cond_true]
        obtain ⟨u,hu⟩:∃ u,u=(firstF c1 p.2 (v+x.2.2 - 1+b) x.2.2).1:=⟨_,rfl⟩
        rw [← hu] at h6 h7
        rw [← hu]
        dsimp only
        rw [show max (v+k) (u+k)+x.2.2=max v u+x.2.2+k by omega]
        have ih:=stG_sh h0 hb0 hb (ns:=ns) (c:=bookG c1 p.2 (v+x.2.2 - 1+b) x.2.2) (t:=max v u+x.2.2) (B:=B+40000) (ch:=ch) hg2 (ends_mono hk2.2 (by omega)) (by omega) (by omega) (fun y hy=>hx y (by simp [hy])) (by omega)
        rw [ih,Option.map_map,Option.map_map]
        rfl
theorem getI_map {α β:Type} {f:α→β} {d:α} {d':β} {l:List α} {i:Nat} (h:i < l.length):getI (l.map f) d' i=f (getI l d i):=by
  unfold getI
  rw [List.getD_eq_getElem?_getD,List.getD_eq_getElem?_getD,List.getElem?_map,List.getElem?_eq_getElem h]
  rfl
theorem slotsG_sh {k b:Int}:∀ {xs:List StT},slotsG b (xs.map (shS k))=slotsG b xs
  | []=>rfl
  | [x]=>by
    show [sSt x+k - (mSt x+k+sMax x - 1+b)]=[sSt x - (mSt x+sMax x - 1+b)]
    congr 1
    omega
  | x::y::r=>by
    have ih:=slotsG_sh (k:=k) (b:=b) (xs:=y::r)
    rw [slotsG_cons,← ih]
    show [sSt x+k - (mSt x+k+sMax x - 1+b),mSt y+k - (mSt x+k+sMax x+b),(if mTl y=mTl x then sSt y+k else mSt y+k) - (sSt x+k+sMax x+b)]++_=_
    congr 1
    rw [show sSt x+k - (mSt x+k+sMax x - 1+b)=sSt x - (mSt x+sMax x - 1+b) by omega,show mSt y+k - (mSt x+k+sMax x+b)=mSt y - (mSt x+sMax x+b) by omega]
    congr 2
    congr 1
    split <;> omega
theorem slotsF_sh {k e b:Int} {xs:List StT} (h:1≤xs.length):slotsF (e+k) b (xs.map (shS k))=slotsF e b xs:=by
  unfold slotsF
  rw [slotsG_sh,getI_map (d:=tStage.dflt) (show 0 < xs.length by omega)]
  congr 1
  show mSt (getI xs tStage.dflt 0)+k - (e+k+b)=_
  omega
theorem windowsF_sh {k:Int} {xs:List StT} {ws:List tWin.El} (h:∀ w∈ws,WiSm xs.length w.1 w.2.1 w.2.2):windowsF (xs.map (shS k)) ws=windowsF xs ws:=by
  unfold windowsF
  refine List.map_congr_left fun w hw=>?_
  have:=h w hw
  unfold WiSm at this
  unfold winM
  rw [getI_map (d:=tStage.dflt) (show w.1.toNat < xs.length by omega),getI_map (d:=tStage.dflt) (show w.2.1.toNat < xs.length by omega)]
  show mSt (getI xs tStage.dflt w.1.toNat)+k+sMin (getI xs tStage.dflt w.1.toNat)+w.2.2 - (sSt (getI xs tStage.dflt w.2.1.toNat)+k)=_
  omega
theorem valid_sh {k e a b:Int} {xs:List StT} {ws:List tWin.El} (h0:0≤k) (he:0≤e∧e+k≤1000000) (hx:∀ x∈xs,(0≤mSt x∧mSt x+sMax x+k≤1000000)∧0≤sSt x∧sSt x+sMax x+k≤1000000) :
    Pl.validF (e+k) a b (xs.map (shS k)) ws=Pl.validF e a b xs ws:=by
  unfold Pl.validF
  have h1:Pl.withinF (e+k) 0 1000000=Pl.withinF e 0 1000000:=by
    unfold Pl.withinF
    rw [decide_eq_true (show (0:Int)≤e+k by omega),decide_eq_true (show e+k≤1000000 by omega),decide_eq_true (show (0:Int)≤e by omega),decide_eq_true (show e≤1000000 by omega)]
  have h2:(xs.map (shS k)).any Pl.badSt=xs.any Pl.badSt:=by
    rw [List.any_map,Bool.eq_iff_iff,List.any_eq_true,List.any_eq_true]
    have e:∀ x∈xs,Pl.badSt (shS k x)=Pl.badSt x:=fun x hxm=>by
      obtain ⟨⟨m0,m1⟩,s0,s1⟩:=hx x hxm
      have w1:∀ v:Int,0≤v→v+sMax x+k≤1000000→Pl.withinF (v+k) 0 (1000000 - sMax x)=Pl.withinF v 0 (1000000 - sMax x):=fun v v0 v1=>by
        unfold Pl.withinF
        rw [decide_eq_true (show (0:Int)≤v+k by omega),decide_eq_true (show v+k≤1000000 - sMax x by omega),decide_eq_true (show (0:Int)≤v by omega),decide_eq_true (show v≤1000000 - sMax x by omega)]
      show (!(Pl.withinF (sMin x) 1 (sMax x)&&decide (sMax x≤10000)&&(Pl.withinF (mTl x) 0 59&&Pl.withinF (mSt x+k) 0 (1000000 - sMax x))&&(Pl.withinF (sTl x) 0 59&&Pl.withinF (sSt x+k) 0 (1000000 - sMax x))&&decide (mTl x≠sTl x)))=_
      rw [w1 _ m0 m1,w1 _ s0 s1]
      rfl
    constructor
    · rintro ⟨x,h1,h2⟩
      exact ⟨x,h1,by rw [← e x h1];exact h2⟩
    · rintro ⟨x,h1,h2⟩
      exact ⟨x,h1,by show Pl.badSt (shS k x)=true;rw [e x h1];exact h2⟩
  rw [h1,h2,List.length_map]
theorem safe_sh {k e a b:Int} {xs:List StT} {ws:List tWin.El} (h0:0≤k) (hn:1≤xs.length) (he:0≤e∧e+k≤1000000) (hx:∀ x∈xs,(0≤mSt x∧mSt x+sMax x+k≤1000000)∧0≤sSt x∧sSt x+sMax x+k≤1000000) :
    safeF (e+k) a b (xs.map (shS k)) ws=safeF e a b xs ws:=by
  unfold safeF
  rw [valid_sh h0 he hx,slotsF_sh hn]
  cases hv:Pl.validF e a b xs ws with
  | false=>rfl
  | true =>
    obtain ⟨_,_,_,hw⟩:=facts_slots (Pl.valid_facts hv)
    rw [windowsF_sh hw]
def shY (k:Int) (y:List StT × Int):List StT × Int:=(y.1.map (shS k),y.2+k)
theorem over_sh {k:Int} {x:StT}:overG (shS k x)=overG x+k:=by
  show max (mSt x+k) (sSt x+k)+sMax x=max (mSt x) (sSt x)+sMax x+k
  omega
theorem last_sh {k:Int} {xs:List StT} (h:1≤xs.length):overG (lastG (xs.map (shS k)))=overG (lastG xs)+k:=by
  unfold lastG
  rw [List.length_map,getI_map (d:=tStage.dflt) (by omega)]
  exact over_sh
theorem step_sh {k B e a b:Int} {c:CalT} {ns:List NeedT} {ws:List tWin.El} (hc:CalG c) (hE:Ends B c) (h0:0≤k) (he:0≤e) (heB:e≤B) (hb0:0≤b) (hb:b≤10000) (hn:1≤ns.length)
    (hx:∀ x∈ns,(0:Int)≤x.2.2∧x.2.2≤(10000:Int)) (hB:B+40000 * (ns.length:Int)+k≤900000) (s:BestT) (ch:List PairT) :
    stepG (shC k c) (e+k) a b ns ws [] (s.map (shY k)) ch=(stepG c e a b ns ws [] s ch).map (shY k):=by
  have hg:=good_sh hc hE h0 (show B+k≤1000000 by omega)
  have hst:=stG_sh h0 hb0 hb hc hE he heB hx hB (ch:=ch)
  unfold stepG
  rw [hst]
  cases hs:stG b c e ns ch with
  | none=>rfl
  | some xs =>
    obtain ⟨hl,hf⟩:=stG_facts hc hs
    obtain ⟨_,hf'⟩:=stG_facts hg (show stG b (shC k c) (e+k) ns ch=some (xs.map (shS k)) by rw [hst,hs];rfl)
    have hx1:1≤xs.length:=by omega
    have hsb:∀ x∈xs,(0≤mSt x∧mSt x+sMax x+k≤1000000)∧0≤sSt x∧sSt x+sMax x+k≤1000000:=fun x hx=>by
      have h1:=hf x hx
      have h2:=hf' (shS k x) (List.mem_map.2 ⟨x,hx,rfl⟩)
      have h3:mSt x+k+sMax x≤1000000:=h2.m1
      have h4:sSt x+k+sMax x≤1000000:=h2.s1
      have:=h1.m0
      have:=h1.s0
      exact ⟨⟨by omega,by omega⟩,by omega,by omega⟩
    have e1:∀ ys:List StT,lateAny [] ys=false:=fun ys=>lateAny_no fun j _=>rfl
    have e2:(s.map (shY k)).isSome=s.isSome:=by cases s <;> rfl
    have e3:((s.map (shY k)).isSome&&decide (overG (lastG (xs.map (shS k)))≥bLst (s.map (shY k))))=(s.isSome&&decide (overG (lastG xs)≥bLst s)):=by
      rw [e2,last_sh hx1]
      cases s with
      | none=>rfl
      | some y =>
        show decide (overG (lastG xs)+k≥y.2+k)=decide (overG (lastG xs)≥y.2)
        congr 1
        exact propext ⟨fun h=>by omega,fun h=>by omega⟩
    show (bif (s.map (shY k)).isSome&&decide (overG (lastG (xs.map (shS k)))≥bLst (s.map (shY k))) then s.map (shY k) else bif lateAny [] (xs.map (shS k)) then s.map (shY k) else bif safeF (e+k) a b (xs.map (shS k)) ws then some (xs.map (shS k),overG (lastG (xs.map (shS k)))) else s.map (shY k))=_
    rw [e3,e1,safe_sh h0 hx1 ⟨he,by omega⟩ hsb,last_sh hx1]
    show _=Option.map (shY k) (bif s.isSome&&decide (overG (lastG xs)≥bLst s) then s else bif lateAny [] xs then s else bif safeF e a b xs ws then some (xs,overG (lastG xs)) else s)
    rw [e1]
    cases (s.isSome&&decide (overG (lastG xs)≥bLst s))
    · cases safeF e a b xs ws <;> rfl
    · rfl
theorem fold_sh {k B e a b:Int} {c:CalT} {ns:List NeedT} {ws:List tWin.El} (hc:CalG c) (hE:Ends B c) (h0:0≤k) (he:0≤e) (heB:e≤B) (hb0:0≤b) (hb:b≤10000) (hn:1≤ns.length)
    (hx:∀ x∈ns,(0:Int)≤x.2.2∧x.2.2≤(10000:Int)) (hB:B+40000 * (ns.length:Int)+k≤900000):∀ (l:List (List PairT)) (s:BestT),
    l.foldl (stepG (shC k c) (e+k) a b ns ws []) (s.map (shY k))=(l.foldl (stepG c e a b ns ws []) s).map (shY k)
  | [],_=>rfl
  | ch::l,s=>by
    rw [List.foldl_cons,List.foldl_cons,step_sh hc hE h0 he heB hb0 hb hn hx hB,fold_sh hc hE h0 he heB hb0 hb hn hx hB l]
theorem rvalid_sh {k e a b:Int} {ns:List tNeed.El} {ws:List tWin.El} (h0:0≤k) (he:0≤e) (he1:e+k≤1000000):rvalidF (e+k) a b ns ws=rvalidF e a b ns ws:=by
  unfold rvalidF headBad
  rw [show inF (e+k) 0 1000000=true by unfold inF;simp;omega,show inF e 0 1000000=true by unfold inF;simp;omega]
theorem make_sh {k B e a b:Int} {c:CalT} {ns:List NeedT} {ws:List tWin.El} (hc:CalG c) (hE:Ends B c) (h0:0≤k) (he:0≤e) (heB:e≤B) (hB:B+160000+k≤900000) :
    makeG (shC k c) (e+k) a b ns ws=(makeG c e a b ns ws).map (shY k):=by
  unfold makeG
  rw [rvalid_sh h0 he (by omega)]
  cases hr:rvalidF e a b ns ws with
  | false=>rfl
  | true =>
    obtain ⟨h1,h2,h3,h4⟩:=rvalid_facts hr
    rw [cond_true,cond_true]
    exact fold_sh hc hE h0 he heB (by omega) h2.2.2 h3.1 (fun x hx=>by
      obtain ⟨_,k1,k2,k3⟩:=h4 x hx
      exact ⟨Int.le_trans (Int.le_trans (by decide) k1) k2,k3⟩) (by have:=h3.2.1;omega) _ none
theorem ends_all {B:Int}:∀ {l:List Bk.El} {c:CalT},CalG c→Ends B c→(∀ b∈l,enB b≤B)→Ends B (bookAll l c)
  | [],_,_,h,_=>h
  | b::l,c,hc,h,hl=>(show Ends B (bookAll l (bookF c b)) from ends_all (c:=bookF c b) (book_good hc b).1 (ends_book hc h (hl b (by simp))) fun d hd=>hl d (by simp [hd]))
theorem flat_len {c:CalT}:c.flatten.length=lenF c:=by unfold lenF;rw [List.length_flatten]
end Go.AM.YtkgmmmhokgdcaaaGreat.Re
end
