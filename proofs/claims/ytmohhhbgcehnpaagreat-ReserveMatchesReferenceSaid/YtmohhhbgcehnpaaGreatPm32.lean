/- ReT, CaLEx, CaLFi, CaLOr, CaLFr, CaRefT. -/
import Derived.Test.YtmohhhbgcehnpaaGreatPm31
import Derived.Test.YtmohhhbgcehnpaaGreatPm22
import Derived.Test.YtmohhhbgcehnpaaGreatPm18

section
set_option linter.all false
namespace Go.AM.YtmohhhbgcehnpaaGreat.Re
open Go.Proofs
theorem fold_some {c:CalT} {e a b:Int} {ns:List NeedT} {ws:List tWin.El} {kvs:DlT} {y:List StT × Int}:∀ {l:List (List PairT)} {s:BestT},l.foldl (stepG c e a b ns ws kvs) s=some y →
 s=some y∨∃ ch∈l,∃ xs,stG b c e ns ch=some xs∧lateAny kvs xs=false∧safeF e a b xs ws=true∧y=(xs,overG (lastG xs))
 | [],s,h=>.inl h
 | ch::l,s,h=>by
   rw [List.foldl_cons] at h
   rcases fold_some h with h1|⟨ch',h1,h2⟩
   ·unfold stepG at h1
    cases hs:stG b c e ns ch with
    | none=>rw [hs] at h1;exact .inl h1
    | some xs =>
      rw [hs] at h1
      dsimp only at h1
      cases hA:(s.isSome&&decide (overG (lastG xs)≥bLst s)) <;> rw [hA] at h1
      ·rw [cond_false] at h1
       cases hB:lateAny kvs xs <;> rw [hB] at h1
       ·rw [cond_false] at h1
        cases hC:safeF e a b xs ws <;> rw [hC] at h1
        ·exact .inl h1
        ·exact .inr ⟨ch,by simp,xs,hs,hB,hC,(Option.some.inj h1).symm⟩
       ·exact .inl h1
      ·exact .inl h1
   ·exact .inr ⟨ch',by simp [h1],h2⟩
theorem best_some {c:CalT} {e a b:Int} {ns:List NeedT} {ws:List tWin.El} {kvs:DlT} {y:List StT × Int} (h:bestG c e a b ns ws kvs=some y) :
 ∃ ch∈chL ns [],stG b c e ns ch=some y.1∧lateAny kvs y.1=false∧safeF e a b y.1 ws=true∧y.2=overG (lastG y.1):=by
 rcases fold_some (s:=none) h with h1|⟨ch,h1,xs,h2,h3,h4,h5⟩
 ·cases h1
 ·subst h5;exact ⟨ch,h1,h2,h3,h4,rfl⟩
theorem tool_mem {c:CalT} (h:CalG c) {t:Int} (h0:0≤t) (h1:t < 60) {e:Bk.El}:e∈toolL c t↔inC c e∧tlB e=t:=by
 constructor
 ·intro he
  have ht:=((h.tool h0 h1).all e he).2
  have ht:tlB e=t:=by omega
  exact ⟨by unfold inC;rw [ht];exact he,ht⟩
 ·rintro ⟨h2,h3⟩
  unfold inC at h2
  rwa [h3] at h2
theorem tool_book {c:CalT} (h:CalG c) {b:Bk.El} (hf:freeF c b=true) {t:Int} (h0:0≤t) (h1:t < 60) {e:Bk.El}:e∈toolL (bookF c b) t↔(e=b∧tlB b=t)∨e∈toolL c t:=by
 obtain ⟨g1,g2,_⟩:=book_yes h hf
 rw [tool_mem g1 h0 h1,tool_mem h h0 h1]
 constructor
 ·rintro ⟨h2,h3⟩
  rcases (g2 e (by omega)).1 h2 with rfl|h4
  ·exact .inl ⟨rfl,h3⟩
  ·exact .inr ⟨h4,h3⟩
 ·rintro (⟨rfl,h3⟩|⟨h4,h3⟩)
  ·exact ⟨(g2 e (by omega)).2 (.inl rfl),h3⟩
  ·exact ⟨(g2 e (by omega)).2 (.inr h4),h3⟩
theorem free_book {c:CalT} (h:CalG c) {b d:Bk.El} (hf:freeF c b=true):freeF (bookF c b) d=true↔freeF c d=true∧¬ (tlB b=tlB d∧meet b d):=by
 rw [free_iff,free_iff]
 constructor
 ·rintro ⟨h1,h2⟩
  refine ⟨⟨h1,fun e he=>h2 e ((tool_book h hf h1.t0 h1.t1).2 (.inr he))⟩,fun ⟨h3,h4⟩=>h2 b ((tool_book h hf h1.t0 h1.t1).2 (.inl ⟨rfl,h3⟩)) h4⟩
 ·rintro ⟨⟨h1,h2⟩,h3⟩
  refine ⟨h1,fun e he hm=>?_⟩
  rcases (tool_book h hf h1.t0 h1.t1).1 he with ⟨rfl,h4⟩|h4
  ·exact h3 ⟨h4,hm⟩
  ·exact h2 e h4 hm
def apartB (a b:Bk.El):Prop:=¬ (tlB a=tlB b∧meet a b)
theorem allFree_iff:∀ {l:List Bk.El} {c:CalT},CalG c→(allFree c l=true↔(∀ b∈l,freeF c b=true)∧l.Pairwise apartB)
 | [],c,_=>by simp [allFree]
 | b::l,c,h=>by
   simp only [allFree,Bool.and_eq_true,List.mem_cons,forall_eq_or_imp,List.pairwise_cons]
   constructor
   ·rintro ⟨h1,h2⟩
    obtain ⟨h3,h4⟩:=(allFree_iff (book_good h b).1).1 h2
    exact ⟨⟨h1,fun d hd=>((free_book h h1).1 (h3 d hd)).1⟩,fun d hd=>((free_book h h1).1 (h3 d hd)).2,h4⟩
   ·rintro ⟨⟨h1,h2⟩,h3,h4⟩
    exact ⟨h1,(allFree_iff (book_good h b).1).2 ⟨fun d hd=>(free_book h h1).2 ⟨h2 d hd,h3 d hd⟩,h4⟩⟩
def cntC (p:Bk.El→Bool) (c:CalT):Nat:=c.flatten.countP p
theorem cnt_set {p:Bk.El→Bool} {l:List Bk.El}:∀ {c:CalT} {i:Nat},i < c.length→cntC p (c.set i l)+(getI c [] i).countP p=cntC p c+l.countP p
 | [],i,h=>by simp at h
 | x::r,0,_=>by simp [cntC,getI];omega
 | x::r,i+1,h=>by
   have:=cnt_set (p:=p) (l:=l) (c:=r) (i:=i) (by simpa using h)
   simp [cntC,getI] at this ⊢
   omega
theorem cnt_book {p:Bk.El→Bool} {c:CalT} (h:CalG c) {b:Bk.El} (hf:freeF c b=true):cntC p (bookF c b)=cntC p c+(if p b=true then 1 else 0):=by
 unfold bookF
 rw [if_pos hf]
 have hg:=(free_iff.1 hf).1
 have hi:(tlB b).toNat < c.length:=by rw [h.len];have:=hg.t0;have:=hg.t1;omega
 have h1:=cnt_set (p:=p) (l:=addF (toolL c b.1) b) hi
 have h2:(addF (toolL c b.1) b).countP p=(toolL c b.1).countP p+(if p b=true then 1 else 0):=by
  have e:addF (toolL c b.1) b=(toolL c b.1).take (posF (toolL c b.1) (startB b))++[b]++(toolL c b.1).drop (posF (toolL c b.1) (startB b)):=by unfold addF insF;simp
  rw [e,List.countP_append,List.countP_append]
  have h3:(toolL c b.1).countP p=((toolL c b.1).take (posF (toolL c b.1) (startB b))).countP p+((toolL c b.1).drop (posF (toolL c b.1) (startB b))).countP p:=by
   rw [← List.countP_append,List.take_append_drop]
  rw [h3,List.countP_singleton]
  omega
 show cntC p (c.set (tlB b).toNat (addF (toolL c b.1) b))=_
 have h4:(getI c [] (tlB b).toNat)=toolL c b.1:=rfl
 rw [h4] at h1
 omega
theorem all_book:∀ {l:List Bk.El} {c:CalT},CalG c→allFree c l=true →
 (∀ t,0≤t→t < 60→∀ e,e∈toolL (bookAll l c) t↔(e∈l∧tlB e=t)∨e∈toolL c t)∧lenF (bookAll l c)=lenF c+l.length∧∀ p,cntC p (bookAll l c)=cntC p c+l.countP p
 | [],c,_,_=>⟨fun t h0 h1 e=>by simp [bookAll],rfl,fun p=>rfl⟩
 | b::l,c,h,hf=>by
   simp only [allFree,Bool.and_eq_true] at hf
   obtain ⟨h1,h2⟩:=hf
   obtain ⟨k1,k2,k3⟩:=all_book (book_good h b).1 h2
   refine ⟨fun t h0 h3 e=>?_,?_,fun p=>?_⟩
   ·show e∈toolL (bookAll l (bookF c b)) t↔_
    rw [k1 t h0 h3 e,tool_book h h1 h0 h3]
    constructor
    ·rintro (⟨h4,h5⟩|⟨rfl,h5⟩|h4)
     ·exact .inl ⟨List.mem_cons_of_mem _ h4,h5⟩
     ·exact .inl ⟨by simp,h5⟩
     ·exact .inr h4
    ·rintro (⟨h4,h5⟩|h4)
     ·rcases List.mem_cons.1 h4 with rfl|h4
      ·exact .inr (.inl ⟨rfl,h5⟩)
      ·exact .inl ⟨h4,h5⟩
     ·exact .inr (.inr h4)
   ·show lenF (bookAll l (bookF c b))=_
    rw [k2,(book_yes h h1).2.2,List.length_cons]
    omega
   ·show cntC p (bookAll l (bookF c b))=_
    rw [k3 p,cnt_book h h1,List.countP_cons]
    omega
def bks (xs:List StT) (ow:Int):List Bk.El:=xs.flatMap fun x=>[Pl.bk1 x ow,Pl.bk2 x ow]
theorem bkN_take {xs:List StT} {ow:Int}:∀ {i:Nat},i≤xs.length→Pl.bkN xs ow i=bks (xs.take i) ow
 | 0,_=>rfl
 | i+1,h=>by
   rw [show Pl.bkN xs ow (i+1)=Pl.bkN xs ow i++[Pl.bk1 (getI xs tStage.dflt i) ow]++[Pl.bk2 (getI xs tStage.dflt i) ow] from rfl,bkN_take (by omega),take_getI (d:=tStage.dflt) (by omega)]
   unfold bks
   rw [List.flatMap_append]
   simp
theorem planL_eq {e a b:Int} {xs:List tStage.El} {ws:List tWin.El} {ow:Int} (h:Pl.validF e a b xs ws=true) (h1:1≤ow) (h2:ow≤1000000):planL e a b xs ws ow=bks xs ow:=by
 unfold planL Pl.bookF
 rw [if_pos (by rw [h];unfold Pl.withinF;simp [h1,h2]),bkN_take (Nat.le_refl _),List.take_length]
theorem bks_len (xs:List StT) (ow:Int):(bks xs ow).length=2 * xs.length:=by
 unfold bks
 induction xs with
 | nil=>rfl
 | cons x r ih=>rw [List.flatMap_cons,List.length_append,ih,List.length_cons];simp;omega
def owTo (ow:Int) (b:Bk.El):Bk.El:=(b.1,b.2.1,b.2.2.1,ow)
theorem bks_own (xs:List StT) (o ow:Int):bks xs ow=(bks xs o).map (owTo ow):=by
 unfold bks
 induction xs with
 | nil=>rfl
 | cons x r ih=>rw [List.flatMap_cons,List.flatMap_cons,List.map_append,ih];rfl
theorem free_own {c:CalT} {b:Bk.El} {ow:Int} (h:freeF c b=true) (h1:1≤ow) (h2:ow≤1000000):freeF c (owTo ow b)=true:=by
 obtain ⟨k1,k2⟩:=free_iff.1 h
 exact free_iff.2 ⟨⟨k1.t0,k1.t1,k1.s0,k1.se,k1.e1,h1,h2⟩,fun d hd hm=>k2 d hd hm⟩
theorem all_own {c:CalT} (hc:CalG c) {l:List Bk.El} {ow:Int} (h:allFree c l=true) (h1:1≤ow) (h2:ow≤1000000):allFree c (l.map (owTo ow))=true:=by
 obtain ⟨k1,k2⟩:=(allFree_iff hc).1 h
 refine (allFree_iff hc).2 ⟨fun b hb=>?_,?_⟩
 ·obtain ⟨d,hd,rfl⟩:=List.mem_map.1 hb
  exact free_own (k1 d hd) h1 h2
 ·rw [List.pairwise_map]
  exact k2.imp fun h=>h
theorem bookG_eq {c:CalT} {tl fr ln:Int} (h:(firstF c tl fr ln).2=true):bookG c tl fr ln=bookF c (tl,(firstF c tl fr ln).1,(firstF c tl fr ln).1+ln,1):=by
 unfold bookG;rw [h];rfl
theorem stG_all {b:Int}:∀ {ns:List NeedT} {c:CalT} {t:Int} {ch:List PairT} {xs:List StT},CalG c→stG b c t ns ch=some xs→allFree c (bks xs 1)=true
 | [],c,t,ch,xs,_,h=>by
   simp only [stG,Option.some.injEq] at h
   subst h
   rfl
 | _::_,c,t,[],xs,_,h=>by simp [stG] at h
 | x::ns,c,t,p::ch,xs,hc,h=>by
   simp only [stG] at h
   cases h1:(firstF c p.1 (t+b) x.2.2).2 <;> rw [h1] at h
   ·cases h
   ·rw [cond_true] at h
    cases h2:(firstF (bookG c p.1 (t+b) x.2.2) p.2 ((firstF c p.1 (t+b) x.2.2).1+x.2.2 - 1+b) x.2.2).2 <;> rw [h2] at h
    ·cases h
    ·rw [cond_true,Option.map_eq_some_iff] at h
     obtain ⟨l,h3,rfl⟩:=h
     have hg1:=(bookG_good hc p.1 (t+b) x.2.2).1
     have hg2:=(bookG_good hg1 p.2 ((firstF c p.1 (t+b) x.2.2).1+x.2.2 - 1+b) x.2.2).1
     have h5:=stG_all hg2 h3
     have f1:=(first_facts hc h1).2.2
     have f2:=(first_facts hg1 h2).2.2
     obtain ⟨st,hst⟩:∃ st:StT,st=(x.2.1,x.2.2,(p.1,(firstF c p.1 (t+b) x.2.2).1),(p.2,(firstF (bookG c p.1 (t+b) x.2.2) p.2 ((firstF c p.1 (t+b) x.2.2).1+x.2.2 - 1+b) x.2.2).1)):=⟨_,rfl⟩
     have g1:bookF c (Pl.bk1 st 1)=bookG c p.1 (t+b) x.2.2:=by rw [hst];exact (bookG_eq h1).symm
     have g2:bookF (bookG c p.1 (t+b) x.2.2) (Pl.bk2 st 1)=bookG (bookG c p.1 (t+b) x.2.2) p.2 ((firstF c p.1 (t+b) x.2.2).1+x.2.2 - 1+b) x.2.2:=by rw [hst];exact (bookG_eq h2).symm
     rw [← hst]
     show (freeF c (Pl.bk1 st 1)&&(freeF (bookF c (Pl.bk1 st 1)) (Pl.bk2 st 1)&&allFree (bookF (bookF c (Pl.bk1 st 1)) (Pl.bk2 st 1)) (bks l 1)))=true
     rw [g1,g2,h5,show freeF c (Pl.bk1 st 1)=true by rw [hst];exact f1,show freeF (bookG c p.1 (t+b) x.2.2) (Pl.bk2 st 1)=true by rw [hst];exact f2]
     rfl
structure Made (c:CalT) (e a b:Int) (ns:List NeedT) (ws:List tWin.El) (xs:List StT):Prop where
 rv:rvalidF e a b ns ws=true
 safe:safeF e a b xs ws=true
 valid:Pl.validF e a b xs ws=true
 len:xs.length=ns.length
 pos:1≤xs.length
 free:∀ ow,1≤ow→ow≤1000000→allFree c (bks xs ow)=true
theorem made {c:CalT} (hc:CalG c) {e a b:Int} {ns:List NeedT} {ws:List tWin.El} {y:List StT × Int} (h:makeG c e a b ns ws=some y):Made c e a b ns ws y.1:=by
 unfold makeG at h
 cases hr:rvalidF e a b ns ws <;> rw [hr] at h
 ·cases h
 ·rw [cond_true] at h
  obtain ⟨ch,h1,h2,h3,h4,h5⟩:=best_some h
  have h6:=(stG_facts hc h2).1
  have h7:=rvalid_facts hr
  have hv:Pl.validF e a b y.1 ws=true:=by
   unfold safeF at h4
   simp only [Bool.and_eq_true] at h4
   exact h4.1.1
  refine ⟨hr,h4,hv,h6,by rw [h6];exact h7.2.2.1.1,fun ow o1 o2=>?_⟩
  rw [bks_own _ 1 ow]
  exact all_own hc (stG_all hc h2) o1 o2
theorem Made.can {c:CalT} {e a b:Int} {ns:List NeedT} {ws:List tWin.El} {xs:List StT} (m:Made c e a b ns ws xs) {ow:Int} (h1:1≤ow) (h2:ow≤1000000):canB c e a b xs ws ow=true:=by
 unfold canB
 rw [planL_eq m.valid h1 h2,m.free ow h1 h2,Bool.true_and,decide_eq_true_eq,bks_len]
 have:=m.pos
 omega
theorem Made.twice {c:CalT} (hc:CalG c) {e a b:Int} {ns:List NeedT} {ws:List tWin.El} {xs:List StT} (m:Made c e a b ns ws xs) {ow o2:Int} (h1:1≤ow) (h2:ow≤1000000) (h3:1≤o2) (h4:o2≤1000000) :
 canB (bookAll (bks xs ow) c) e a b xs ws o2=false:=by
 cases hcan:canB (bookAll (bks xs ow) c) e a b xs ws o2 with
 | false=>rfl
 | true =>
   exfalso
   unfold canB at hcan
   rw [planL_eq m.valid h3 h4,Bool.and_eq_true] at hcan
   cases xs with
   | nil=>have:=m.pos;simp at this
   | cons x r =>
     have hgc:=(bookAll_good (l:=bks (x::r) ow) hc).1
     have h5:=((allFree_iff hgc).1 hcan.1).1 (Pl.bk1 x o2) (by unfold bks;simp)
     obtain ⟨k1,k2⟩:=free_iff.1 h5
     have h6:=(all_book hc (m.free ow h1 h2)).1 (tlB (Pl.bk1 x o2)) k1.t0 k1.t1 (Pl.bk1 x ow)
     refine k2 _ (h6.2 (.inl ⟨by unfold bks;simp,rfl⟩)) ?_
     have:=k1.se
     exact ⟨this,this⟩
theorem Made.book {c:CalT} (hc:CalG c) {e a b:Int} {ns:List NeedT} {ws:List tWin.El} {xs:List StT} (m:Made c e a b ns ws xs) {ow:Int} (h1:1≤ow) (h2:ow≤1000000) :
 rbErr c e a b xs ws ow=0∧rbCal c e a b xs ws ow=bookAll (bks xs ow) c:=by
 unfold rbErr rbCal
 rw [m.can h1 h2,planL_eq m.valid h1 h2]
 exact ⟨rfl,rfl⟩
theorem Made.again {c:CalT} (hc:CalG c) {e a b:Int} {ns:List NeedT} {ws:List tWin.El} {xs:List StT} (m:Made c e a b ns ws xs) {ow o2:Int} (h1:1≤ow) (h2:ow≤1000000) (h3:1≤o2) (h4:o2≤1000000) :
 rbErr (bookAll (bks xs ow) c) e a b xs ws o2=100∧rbCal (bookAll (bks xs ow) c) e a b xs ws o2=bookAll (bks xs ow) c:=by
 unfold rbErr rbCal
 rw [m.twice hc h1 h2 h3 h4]
 exact ⟨rfl,rfl⟩
theorem ndL_len (x:Int4) (needs:List Int4):(ndL x needs).length≤3:=by unfold ndL ndN;rw [List.length_map,List.length_range];omega
theorem winL_len (n:Int) (ws:List (Int × Int)):(winL n ws).length≤3:=by
 have:∀ (l:List (Int × Int)) (acc:List WinT),(l.foldl (winStep n) acc).length≤acc.length+l.length:=fun l=>by
  induction l with
  | nil=>intro acc;simp
  | cons x r ih =>
    intro acc
    refine Nat.le_trans (ih _) ?_
    have:(winStep n acc x).length≤acc.length+1:=by
     unfold winStep
     cases winFit n acc (mkW x) <;> simp
    simp only [List.length_cons]
    omega
 have h:=this (ws.take 3) []
 rw [List.length_take] at h
 simp only [List.length_nil,Nat.zero_add] at h
 exact Nat.le_trans h (Nat.min_le_left _ _)
end Go.AM.YtmohhhbgcehnpaaGreat.Re
end

section
set_option linter.all false
namespace Go.AM.YtmohhhbgcehnpaaGreat
open Go.Proofs
set_option maxRecDepth 100000
set_option maxHeartbeats 8000000
structure Kept (xss:List (List Bk.El)) (kept:List Bk.El):Prop where
 mem:∀ c,0≤tlB c→(inC xss c↔c∈kept)
 len:lenF xss=kept.length
 pos:∀ c∈kept,0≤tlB c
def clashB (b c:Bk.El):Bool:=decide (c.1=b.1)&&decide (c.2.1 < b.2.2.1)&&decide (b.2.1 < c.2.2.1)
theorem clash_iff {b c:Bk.El}:clashB b c=true↔tlB c=tlB b∧meet c b:=by
 unfold clashB
 simp only [Bool.and_eq_true,decide_eq_true_eq]
 exact ⟨fun ⟨⟨h1,h2⟩,h3⟩=>⟨h1,h2,h3⟩,fun ⟨h1,h2,h3⟩=>⟨⟨h1,h2⟩,h3⟩⟩
theorem Kept.free {xss:List (List Bk.El)} {kept:List Bk.El} (h:Kept xss kept) (g:CalG xss) (b:Bk.El):freeF xss b=(!(kept.any (clashB b))&&validB b.1 b.2.1 b.2.2.1 b.2.2.2):=by
 rw [Bool.eq_iff_iff,free_iff,Bool.and_eq_true,validB_iff]
 constructor
 ·rintro ⟨h1,h2⟩
  refine ⟨?_,h1⟩
  rw [Bool.not_eq_true',List.any_eq_false]
  intro c hc hcl
  obtain ⟨h3,h4⟩:=clash_iff.1 hcl
  have h5:=(h.mem c (h.pos c hc)).2 hc
  unfold inC at h5
  rw [h3] at h5
  exact h2 c h5 h4
 ·rintro ⟨h1,h2⟩
  refine ⟨h2,fun c hc hm=>?_⟩
  rw [Bool.not_eq_true',List.any_eq_false] at h1
  have ht:tlB c=tlB b:=by
   have:=((g.tool h2.t0 h2.t1).all c hc).2
   have:=h2.t0
   have:=((g.tool h2.t0 h2.t1).all c hc).1.t0
   omega
  exact h1 c ((h.mem c (by rw [ht];exact h2.t0)).1 (by unfold inC;rw [ht];exact hc)) (clash_iff.2 ⟨ht,hm⟩)
end Go.AM.YtmohhhbgcehnpaaGreat
end

section
set_option linter.all false
namespace Go.AM.YtmohhhbgcehnpaaGreat
open Go.Proofs
set_option maxRecDepth 100000
set_option maxHeartbeats 8000000
theorem tool_inC {xss:List (List Bk.El)} (g:CalG xss) {t:Int} (h0:0≤t) (h1:t < 60) {c:Bk.El} (hc:c∈toolL xss t):tlB c=t∧GoodB c∧inC xss c:=by
 obtain ⟨h2,h3⟩:=(g.tool h0 h1).all c hc
 have e:tlB c=t:=by omega
 exact ⟨e,h2,by unfold inC;rw [e];exact hc⟩
end Go.AM.YtmohhhbgcehnpaaGreat
end

section
set_option linter.all false
namespace Go.AM.YtmohhhbgcehnpaaGreat
open Go.Proofs
set_option maxRecDepth 100000
set_option maxHeartbeats 8000000
structure Apart (m:List Bk.El):Prop where
 good:∀ b∈m,GoodB b
 pw:m.Pairwise fun a b=>¬ (tlB a=tlB b∧meet a b)
theorem getI_mem {m:List Bk.El} {i:Nat} (h:i < m.length):getI m Bk.dflt i∈m:=by
 have:getI m Bk.dflt i=m[i]:=by simp [getI,List.getD,List.getElem?_eq_getElem h]
 rw [this];exact List.getElem_mem h
theorem Apart.next {m:List Bk.El} (h:Apart m) {i:Nat} (hi:i < m.length) {xss:List (List Bk.El)} (g:CalG xss) (hk:Kept xss (m.take i)):freeF xss (getI m Bk.dflt i)=true:=by
 rw [hk.free g,Bool.and_eq_true]
 refine ⟨?_,(validB_iff _).2 (h.good _ (getI_mem hi))⟩
 rw [Bool.not_eq_true',List.any_eq_false]
 intro c hc hcl
 obtain ⟨h1,h2⟩:=clash_iff.1 hcl
 obtain ⟨j,hj,rfl⟩:=List.getElem_of_mem hc
 rw [List.length_take] at hj
 have:=List.pairwise_iff_getElem.1 h.pw j i (by omega) hi (by omega)
 rw [List.getElem_take] at h1 h2
 have e:getI m Bk.dflt i=m[i]:=by simp [getI,List.getD,List.getElem?_eq_getElem hi]
 rw [e] at h1 h2
 exact this ⟨h1,h2⟩
theorem flat_apart {xss:List (List Bk.El)} (g:CalG xss) (k:Nat) (hk:k≤60):Apart (xss.take k).flatten∧∀ c,(c∈(xss.take k).flatten↔0≤tlB c∧tlB c < k∧inC xss c):=by
 have hl:=g.len
 have e:∀ j (hj:j < xss.length),xss[j]=getI xss [] j:=fun j hj=>by simp [getI,List.getD,List.getElem?_eq_getElem hj]
 have hin:∀ c,c∈(xss.take k).flatten↔0≤tlB c∧tlB c < k∧inC xss c:=fun c=>by
  rw [List.mem_flatten]
  constructor
  ·rintro ⟨l,h1,h2⟩
   obtain ⟨j,hj,rfl⟩:=List.getElem_of_mem h1
   rw [List.length_take] at hj
   rw [List.getElem_take,e j (by omega)] at h2
   have ht:=((g.each j (by omega)).all c h2).2
   refine ⟨by omega,by omega,?_⟩
   unfold inC toolL
   rw [show (tlB c).toNat=j by omega]
   exact h2
  ·rintro ⟨h0,h1,h2⟩
   unfold inC toolL at h2
   refine ⟨_,?_,h2⟩
   have hj:(tlB c).toNat < xss.length:=by omega
   rw [← e _ hj]
   exact List.mem_take_iff_getElem.2 ⟨(tlB c).toNat,by omega,rfl⟩
 refine ⟨⟨fun b hb=>?_,List.pairwise_flatten.2 ⟨fun l hl'=>?_,?_⟩⟩,hin⟩
 ·obtain ⟨h0,h1,h2⟩:=(hin b).1 hb
  exact g.good h2 h0 (by omega)
 ·obtain ⟨j,hj,rfl⟩:=List.getElem_of_mem hl'
  rw [List.length_take] at hj
  rw [List.getElem_take,e j (by omega)]
  refine (g.each j (by omega)).ord.imp fun {a b} h1 h2=>?_
  have:=h2.2.2
  omega
 ·rw [List.pairwise_iff_getElem]
  intro i j hi hj hij a ha b hb hc
  rw [List.length_take] at hi hj
  rw [List.getElem_take,e i (by omega)] at ha
  rw [List.getElem_take,e j (by omega)] at hb
  have h1:=((g.each i (by omega)).all a ha).2
  have h2:=((g.each j (by omega)).all b hb).2
  omega
end Go.AM.YtmohhhbgcehnpaaGreat
end

section
set_option linter.all false
namespace Go.AM.YtmohhhbgcehnpaaGreat
open Go.Proofs
set_option maxRecDepth 100000
set_option maxHeartbeats 8000000
theorem others {l:List Bk.El} (hl:∀ b∈l,owB b=77) {c:Bk.El} (h0:0≤tlB c) (hc:owB c≠77):∀ {xss:List (List Bk.El)},CalG xss→(inC (bookAll l xss) c↔inC xss c):=by
 induction l with
 | nil=>intro xss _;exact Iff.rfl
 | cons b l ih =>
   intro xss g
   have h1:=ih (fun b hb=>hl b (List.mem_cons_of_mem _ hb)) (book_good g b).1
   have h2:inC (bookAll (b::l) xss) c↔inC (bookF xss b) c:=h1
   rw [h2]
   cases hf:freeF xss b
   ·rw [book_no hf]
   ·rw [(book_yes g hf).2.1 c h0]
    constructor
    ·rintro (rfl|h)
     ·exact absurd (hl _ (by simp)) hc
     ·exact h
    ·exact .inr
theorem more {l:List Bk.El} {c:Bk.El} (h0:0≤tlB c):∀ {xss:List (List Bk.El)},CalG xss→inC xss c→inC (bookAll l xss) c:=by
 induction l with
 | nil=>intro xss _ h;exact h
 | cons b l ih =>
   intro xss g h
   refine ih (book_good g b).1 ?_
   cases hf:freeF xss b
   ·rw [book_no hf];exact h
   ·exact ((book_yes g hf).2.1 c h0).2 (.inr h)
theorem freed_flat (xss:List (List Bk.El)) (o:Int):(freedF xss o).flatten=xss.flatten.filter fun b=>!ownsB o b:=by
 unfold freedF delF
 rw [List.filter_flatten]
theorem filter_two (l:List Bk.El) (p:Bk.El→Bool):(l.filter p).length+(l.filter fun b=>!p b).length=l.length:=by
 induction l with
 | nil=>rfl
 | cons b l ih =>
   cases hp:p b
   ·simp only [List.filter_cons,hp,List.length_cons,Bool.not_false,if_true]
    simp
    omega
   ·simp only [List.filter_cons,hp,List.length_cons,Bool.not_true,if_true]
    simp
    omega
theorem freed_len (xss:List (List Bk.El)) (o:Int):lenF (freedF xss o)+(ownedF xss o).length=lenF xss:=by
 have:=filter_two xss.flatten (ownsB o)
 rw [← freed_flat] at this
 unfold ownedF
 rw [← flat_len,← flat_len xss]
 omega
def Before (a b:Bk.El):Prop:=tlB a < tlB b∨(tlB a=tlB b∧enB a≤stB b)
theorem flat_order {xss:List (List Bk.El)} (g:CalG xss):xss.flatten.Pairwise Before:=by
 have hl:=g.len
 have e:∀ j (hj:j < xss.length),xss[j]=getI xss [] j:=fun j hj=>by simp [getI,List.getD,List.getElem?_eq_getElem hj]
 refine List.pairwise_flatten.2 ⟨fun l hl'=>?_,?_⟩
 ·obtain ⟨j,hj,rfl⟩:=List.getElem_of_mem hl'
  rw [e j hj]
  have hg:=g.each j (by omega)
  refine List.pairwise_iff_getElem.2 fun p q hp hq hpq=>?_
  have h1:=List.pairwise_iff_getElem.1 hg.ord p q hp hq hpq
  have h2:=(hg.all _ (List.getElem_mem hp)).2
  have h3:=(hg.all _ (List.getElem_mem hq)).2
  exact .inr ⟨by omega,h1⟩
 ·rw [List.pairwise_iff_getElem]
  intro i j hi hj hij a ha b hb
  rw [e i hi] at ha
  rw [e j hj] at hb
  have h1:=((g.each i (by omega)).all a ha).2
  have h2:=((g.each j (by omega)).all b hb).2
  exact .inl (by omega)
theorem flat_all {xss:List (List Bk.El)} (g:CalG xss):Apart xss.flatten∧∀ c,(c∈xss.flatten↔0≤tlB c∧tlB c < 60∧inC xss c):=by
 have:=flat_apart g 60 (by omega)
 rwa [List.take_of_length_le (by rw [g.len];omega)] at this
theorem two_apart {xss:List (List Bk.El)} (g:CalG xss) {a b:Bk.El} (ha:inC xss a) (hb:inC xss b) (h0:0≤tlB a) (h1:tlB a < 60) (ht:tlB a=tlB b) (hne:a≠b):¬ meet a b:=fun hm=>by
 unfold inC at ha hb
 rw [← ht] at hb
 have hg:=g.tool h0 h1
 obtain ⟨i,hi,hia⟩:=List.getElem_of_mem ha
 obtain ⟨j,hj,hjb⟩:=List.getElem_of_mem hb
 have m1:=hm.1
 have m2:=hm.2
 have hp:=List.pairwise_iff_getElem.1 hg.ord
 rcases Nat.lt_trichotomy i j with h|h|h
 ·have:=hp i j hi hj h
  rw [hia,hjb] at this
  omega
 ·subst h;exact hne (hia.symm.trans hjb)
 ·have:=hp j i hj hi h
  rw [hia,hjb] at this
  omega
structure Again (x0 x1 xss:List (List Bk.El)) (m:List Bk.El):Prop where
 mem:∀ c,0≤tlB c→(inC xss c↔inC x0 c∨c∈m)
 good:CalG xss
 len:lenF xss=lenF x0+m.length
theorem Again.free {x0 x1 xss:List (List Bk.El)} {m:List Bk.El} (h:Again x0 x1 xss m) (g1:CalG x1) (h01:∀ c,0≤tlB c→inC x0 c→inC x1 c) (hm:∀ c∈m,inC x1 c) {b:Bk.El} (hb:inC x1 b) (h0:0≤tlB b) (h1:tlB b < 60)
 (hnew:∀ c,inC x0 c∨c∈m→c≠b):freeF xss b=true:=by
 refine free_iff.2 ⟨g1.good hb h0 h1,fun c hc hcm=>?_⟩
 have ht:=((h.good.tool h0 h1).all c hc)
 have hte:tlB c=tlB b:=by have:=ht.2;have:=ht.1.t0;omega
 have hcc:inC xss c:=by unfold inC;rw [hte];exact hc
 have hor:=(h.mem c (by omega)).1 hcc
 have hc1:inC x1 c:=by
  rcases hor with h'|h'
  ·exact h01 c (by omega) h'
  ·exact hm c h'
 exact two_apart g1 hc1 hb (by omega) (by omega) hte (hnew c hor) hcm
end Go.AM.YtmohhhbgcehnpaaGreat
end

section
set_option linter.all false
namespace Go.AM.YtmohhhbgcehnpaaGreat
open Go.Proofs
theorem ord_uniq:∀ {l m:List Bk.El},(∀ c∈l,GoodB c)→(∀ c∈m,GoodB c)→l.Pairwise Before→m.Pairwise Before→(∀ c,c∈l↔c∈m)→l=m
 | [],[],_,_,_,_,_=>rfl
 | [],b::m,_,_,_,_,h=>absurd ((h b).2 (by simp)) (by simp)
 | a::l,[],_,_,_,_,h=>absurd ((h a).1 (by simp)) (by simp)
 | a::l,b::m,gl,gm,hl,hm,h=>by
   obtain ⟨p1,p2⟩:=List.pairwise_cons.1 hl
   obtain ⟨q1,q2⟩:=List.pairwise_cons.1 hm
   have sa:=(gl a (by simp)).se
   have sb:=(gm b (by simp)).se
   have hab:a=b:=by
    rcases List.mem_cons.1 ((h a).1 (by simp)) with h1|h1
    ·exact h1
    ·rcases List.mem_cons.1 ((h b).2 (by simp)) with h2|h2
     ·exact h2.symm
     ·have h3:=q1 a h1
      have h4:=p1 b h2
      rcases h3 with h3|h3 <;> rcases h4 with h4|h4 <;> omega
   subst hab
   have hn1:a ∉ l:=fun h1=>by
    rcases p1 a h1 with h2|h2 <;> omega
   have hn2:a ∉ m:=fun h1=>by
    rcases q1 a h1 with h2|h2 <;> omega
   rw [ord_uniq (l:=l) (m:=m) (fun c hc=>gl c (by simp [hc])) (fun c hc=>gm c (by simp [hc])) p2 q2 fun c=>by
    constructor
    ·intro hc
     rcases List.mem_cons.1 ((h c).1 (by simp [hc])) with rfl|h1
     ·exact absurd hc hn1
     ·exact h1
    ·intro hc
     rcases List.mem_cons.1 ((h c).2 (by simp [hc])) with rfl|h1
     ·exact absurd hc hn2
     ·exact h1]
theorem in_tool {xss:List (List Bk.El)} {t:Int} (h0:0≤t) (g:CalG xss) (h1:t < 60) {c:Bk.El}:c∈toolL xss t↔tlB c=t∧inC xss c:=by
 constructor
 ·intro h
  obtain ⟨h2,_,h3⟩:=tool_inC g h0 h1 h
  exact ⟨h2,h3⟩
 ·rintro ⟨rfl,h⟩
  exact h
theorem ref_busy {xss:List (List Bk.El)} (g:CalG xss) (t s e:Int):xss.flatten.any (meetR t s e)=busyF xss t s e:=by
 rw [Bool.eq_iff_iff,busy_iff,List.any_eq_true]
 obtain ⟨_,hin⟩:=flat_all g
 constructor
 ·rintro ⟨c,hc,hm⟩
  obtain ⟨h0,h1,h2⟩:=(hin c).1 hc
  unfold meetR at hm
  simp only [Bool.and_eq_true,decide_eq_true_eq] at hm
  obtain ⟨⟨⟨h3,h4⟩,h5⟩,h6⟩:=hm
  have h3:tlB c=t:=h3
  subst h3
  exact ⟨h0,h1,h4,c,h2,h5,h6⟩
 ·rintro ⟨h0,h1,h2,c,hc,h3,h4⟩
  obtain ⟨h5,h6⟩:=(in_tool h0 g h1).1 hc
  refine ⟨c,(hin c).2 ⟨by omega,by omega,h6⟩,?_⟩
  unfold meetR
  simp only [Bool.and_eq_true,decide_eq_true_eq]
  exact ⟨⟨⟨h5,h2⟩,h3⟩,h4⟩
theorem ref_list {xss:List (List Bk.El)} (g:CalG xss) (t:Int):xss.flatten.filter (fun b=>decide (b.1=t))=listF xss t:=by
 obtain ⟨ha,hin⟩:=flat_all g
 unfold listF
 by_cases ht:toolB t=true
 ·rw [if_pos ht]
  obtain ⟨h0,h1⟩:=toolB_true ht
  have hg:=g.tool h0 h1
  refine ord_uniq (fun c hc=>ha.good c (List.mem_filter.1 hc).1) (fun c hc=>(hg.all c hc).1) ((flat_order g).sublist List.filter_sublist) ?_ fun c=>?_
  ·refine List.pairwise_iff_getElem.2 fun p q hp hq hpq=>?_
   have h2:=List.pairwise_iff_getElem.1 hg.ord p q hp hq hpq
   have h3:=(hg.all _ (List.getElem_mem hp)).2
   have h4:=(hg.all _ (List.getElem_mem hq)).2
   exact .inr ⟨by omega,h2⟩
  ·rw [List.mem_filter,decide_eq_true_eq,in_tool h0 g h1,hin]
   constructor
   ·rintro ⟨⟨h2,h3,h4⟩,h5⟩
    exact ⟨h5,h4⟩
   ·rintro ⟨h5,h4⟩
    exact ⟨⟨by omega,by omega,h4⟩,h5⟩
 ·rw [if_neg ht,List.filter_eq_nil_iff]
  intro c hc hct
  obtain ⟨h0,h1,_⟩:=(hin c).1 hc
  have hct:tlB c=t:=of_decide_eq_true hct
  exact ht (toolB_of (by omega) (by omega))
theorem ref_free {xss:List (List Bk.El)} (g:CalG xss) (b:Bk.El):freeR xss.flatten b=freeF xss b:=by
 unfold freeR freeF
 rw [ref_busy g]
theorem ahead_iff {b c:Bk.El}:aheadB b c=true↔tlB c < tlB b∨(tlB c=tlB b∧stB c < stB b):=by
 unfold aheadB
 simp only [Bool.or_eq_true,Bool.and_eq_true,decide_eq_true_eq]
 exact Iff.rfl
theorem ahead_split {l:List Bk.El} (hg:∀ c∈l,GoodB c) (ho:l.Pairwise Before) (b:Bk.El):(∀ c∈l.take (posR l b),aheadB b c=true)∧(∀ c∈l.drop (posR l b),aheadB b c=false):=by
 unfold posR
 induction l with
 | nil=>simp
 | cons x l ih =>
   obtain ⟨h1,h2⟩:=List.pairwise_cons.1 ho
   obtain ⟨i1,i2⟩:=ih (fun c hc=>hg c (by simp [hc])) h2
   cases hx:aheadB b x
   ·rw [List.takeWhile_cons_of_neg (by rw [hx];simp)]
    refine ⟨by simp,fun c hc=>?_⟩
    rcases List.mem_cons.1 hc with rfl|hc
    ·exact hx
    ·have h3:=h1 c hc
     have hxs:=(hg x (by simp)).se
     rw [← Bool.not_eq_true,ahead_iff] at hx ⊢
     rcases h3 with h3|h3 <;> omega
   ·rw [List.takeWhile_cons_of_pos hx]
    refine ⟨fun c hc=>?_,i2⟩
    rcases List.mem_cons.1 hc with rfl|hc
    ·exact hx
    ·exact i1 c hc
theorem ref_book {xss:List (List Bk.El)} (g:CalG xss) (b:Bk.El):bookR xss.flatten b=(bookF xss b).flatten:=by
 unfold bookR
 rw [ref_free g]
 cases hf:freeF xss b
 ·rw [book_no hf];rfl
 ·rw [if_pos rfl]
  obtain ⟨g1,h1,_⟩:=book_yes g hf
  obtain ⟨ha,hin⟩:=flat_all g
  obtain ⟨ha1,hin1⟩:=flat_all g1
  obtain ⟨hb,hn⟩:=free_iff.1 hf
  have ho:=flat_order g
  obtain ⟨s1,s2⟩:=ahead_split ha.good ho b
  have hmem:∀ c,c∈xss.flatten.take (posR xss.flatten b)++([b]++xss.flatten.drop (posR xss.flatten b))↔c=b∨c∈xss.flatten:=fun c=>by
   conv=>rhs;rw [← List.take_append_drop (posR xss.flatten b) xss.flatten]
   simp only [List.mem_append,List.mem_singleton]
   constructor
   ·rintro (h|h|h)
    ·exact .inr (.inl h)
    ·exact .inl h
    ·exact .inr (.inr h)
   ·rintro (h|h|h)
    ·exact .inr (.inl h)
    ·exact .inl h
    ·exact .inr (.inr h)
  have hnm:∀ c∈xss.flatten,tlB c=tlB b→¬ meet c b:=fun c hc ht=>by
   obtain ⟨c0,c1,c2⟩:=(hin c).1 hc
   exact hn c ((in_tool hb.t0 g hb.t1).2 ⟨ht,c2⟩)
  have hbe:=hb.se
  have hleft:∀ c∈xss.flatten.take (posR xss.flatten b),Before c b:=fun c hc=>by
   have h3:=ahead_iff.1 (s1 c hc)
   have hcl:=List.mem_of_mem_take hc
   rcases h3 with h3|⟨h3,h4⟩
   ·exact .inl h3
   ·refine .inr ⟨h3,?_⟩
    have h5:=hnm c hcl h3
    have h6:¬ stB b < enB c:=fun h=>h5 ⟨by omega,h⟩
    omega
  have hright:∀ c∈xss.flatten.drop (posR xss.flatten b),Before b c:=fun c hc=>by
   have h3:=s2 c hc
   rw [← Bool.not_eq_true,ahead_iff] at h3
   have hcl:=List.mem_of_mem_drop hc
   have hcs:=(ha.good c hcl).se
   rcases Int.lt_trichotomy (tlB b) (tlB c) with h4|h4|h4
   ·exact .inl h4
   ·refine .inr ⟨h4,?_⟩
    have h5:=hnm c hcl h4.symm
    have h6:¬ stB c < enB b:=fun h=>h5 ⟨h,by omega⟩
    omega
   ·omega
  refine ord_uniq (fun c hc=>?_) ha1.good ?_ (flat_order g1) fun c=>?_
  ·rcases (hmem c).1 hc with rfl|hc
   ·exact hb
   ·exact ha.good c hc
  ·refine List.pairwise_append.2 ⟨ho.sublist (List.take_sublist _ _),List.pairwise_append.2 ⟨by simp,ho.sublist (List.drop_sublist _ _),fun a ha c hc=>?_⟩,fun a ha c hc=>?_⟩
   ·rw [List.mem_singleton.1 ha];exact hright c hc
   ·rcases List.mem_append.1 hc with hc|hc
    ·rw [List.mem_singleton.1 hc];exact hleft a ha
    ·have:=List.pairwise_append.1 (show (xss.flatten.take (posR xss.flatten b)++xss.flatten.drop (posR xss.flatten b)).Pairwise Before by rw [List.take_append_drop];exact ho)
     exact this.2.2 a ha c hc
  ·rw [hmem,hin1,hin]
   constructor
   ·rintro (rfl|⟨h2,h3,h4⟩)
    ·exact ⟨hb.t0,hb.t1,(h1 _ hb.t0).2 (.inl rfl)⟩
    ·exact ⟨h2,h3,(h1 _ h2).2 (.inr h4)⟩
   ·rintro ⟨h2,h3,h4⟩
    rcases (h1 _ h2).1 h4 with h5|h5
    ·exact .inl h5
    ·exact .inr ⟨h2,h3,h5⟩
theorem fold_stay {t n:Int}:∀ {l:List Bk.El} {f:Int},(∀ c∈l,¬ (f≤1000000 - n∧stB c < f+n))→foldR t n l f=f
 | [],f,_=>rfl
 | b::l,f,h=>by
   have h1:=h b (by simp)
   have:stepR t n f b=f:=by
    unfold stepR
    rw [if_neg]
    rintro ⟨_,h2,h3,_⟩
    exact h1 ⟨h2,h3⟩
   show foldR t n l (stepR t n f b)=f
   rw [this]
   exact fold_stay fun c hc=>h c (by simp [hc])
theorem fold_filter {t n:Int}:∀ {l:List Bk.El} {f:Int},foldR t n l f=foldR t n (l.filter fun b=>decide (b.1=t)) f
 | [],f=>rfl
 | b::l,f=>by
   by_cases hb:b.1=t
   ·rw [List.filter_cons_of_pos (by simpa using hb)]
    exact fold_filter (l:=l)
   ·rw [List.filter_cons_of_neg (by simpa using hb)]
    have:stepR t n f b=f:=by
     unfold stepR
     rw [if_neg fun h=>hb h.1]
    show foldR t n l (stepR t n f b)=_
    rw [this]
    exact fold_filter (l:=l)
theorem firstG_cons (g:Int × Int) (gs:List (Int × Int)) (n:Int):firstG (g::gs) n=if longB n g=true then (g.1,true) else firstG gs n:=by
 unfold firstG
 cases h:longB n g
 ·rw [List.find?_cons_of_neg (by rw [h];simp)];simp
 ·rw [List.find?_cons_of_pos h];simp
theorem long_eq {n a b:Int} (h0:0≤a) (h1:b≤1000000) (h2:0≤b) (h3:a≤1000000):longB n (a,b)=decide (n≤b - a):=by
 unfold longB
 rw [wrap64_id (by show _≤b - a;omega) (by show b - a < _;omega)]
theorem fold_first {t:Nat} {n:Int} (hn:1≤n) (hn1:n≤1000000):∀ {l:List Bk.El} {f:Int},GoodL t l→0≤f →
 firstG (gapsL l f) n=if 1000000 - n < foldR t n l f then (0,false) else (foldR t n l f,true)
 | [],f,_,hf=>by
   show firstG (if f < 1000000 then [(f,1000000)] else []) n=if 1000000 - n < f then (0,false) else (f,true)
   by_cases h:f < 1000000
   ·rw [if_pos h,firstG_cons,long_eq hf (by omega) (by omega) (by omega)]
    by_cases h2:1000000 - n < f
    ·rw [if_pos h2,if_neg (by rw [decide_eq_true_eq];omega)];rfl
    ·rw [if_neg h2,if_pos (by rw [decide_eq_true_eq];omega)]
   ·rw [if_neg h,if_pos (by omega)];rfl
 | b::l,f,h,hf=>by
   have hl:GoodL t l:=⟨fun c hc=>h.all c (by simp [hc]),(List.pairwise_cons.1 h.ord).2⟩
   obtain ⟨hb,hbt⟩:=h.all b (by simp)
   have h1:=(List.pairwise_cons.1 h.ord).1
   have hbs:=hb.se
   have hb0:=hb.s0
   have hb1:=hb.e1
   have hmx:f≤max f (enB b)∧enB b≤max f (enB b):=⟨Int.le_max_left _ _,Int.le_max_right _ _⟩
   have ih:=fold_first hn hn1 (l:=l) (f:=max f (enB b)) hl (by omega)
   have e1:gapsL (b::l) f=(if f < stB b then [(f,stB b)] else [])++gapsL l (max f (enB b)):=rfl
   have e2:foldR t n (b::l) f=foldR t n l (stepR t n f b):=rfl
   rw [e1,e2]
   by_cases hlong:f+n≤stB b
   ·rw [if_pos (by omega),List.singleton_append,firstG_cons,long_eq hf (by omega) (by omega) (by omega),if_pos (by rw [decide_eq_true_eq];omega)]
    have e3:stepR t n f b=f:=by
     unfold stepR
     rw [if_neg]
     rintro ⟨_,_,h3,_⟩
     have h3:stB b < f+n:=h3
     omega
    rw [e3,fold_stay fun c hc h2=>by have:=h1 c hc;omega,if_neg (by omega)]
   ·have e4:firstG ((if f < stB b then [(f,stB b)] else [])++gapsL l (max f (enB b))) n=firstG (gapsL l (max f (enB b))) n:=by
     by_cases h2:f < stB b
     ·rw [if_pos h2,List.singleton_append,firstG_cons,long_eq hf (by omega) (by omega) (by omega),if_neg (by rw [decide_eq_true_eq];omega)]
     ·rw [if_neg h2,List.nil_append]
    rw [e4,ih]
    by_cases hs:f≤1000000 - n
    ·have e3:stepR t n f b=max f (enB b):=by
      unfold stepR
      by_cases h3:f < enB b
      ·rw [if_pos ⟨hbt,hs,by show stB b < f+n;omega,h3⟩,Int.max_eq_right (by omega)];rfl
      ·rw [if_neg fun h=>h3 h.2.2.2,Int.max_eq_left (by omega)]
     rw [e3]
    ·have e3:stepR t n f b=f:=by
      unfold stepR
      rw [if_neg fun h=>hs h.2.1]
     have h4:=foldR_le t n l (max f (enB b))
     rw [e3,fold_stay fun c hc h2=>hs h2.1,if_pos (by omega),if_pos (by omega)]
theorem ref_first {xss:List (List Bk.El)} (g:CalG xss) (t f n:Int):refFirstF xss.flatten t f n=firstF xss t f n:=by
 unfold refFirstF firstF
 by_cases ht:toolB t=true∧1≤n
 ·rw [if_pos ht]
  obtain ⟨h0,h1⟩:=toolB_true ht.1
  have hg:=g.tool h0 h1
  have hmx:0≤max f 0:=Int.le_max_right _ _
  have el:(xss.flatten.filter fun b=>decide (b.1=t))=toolL xss t:=by
   rw [ref_list g];unfold listF;rw [if_pos ht.1]
  by_cases hn:n≤1000000
  ·rw [if_neg (by omega),fold_filter,el]
   have:=fold_first ht.2 hn hg hmx
   rw [show ((t.toNat:Nat):Int)=t by omega] at this
   rw [this]
  ·rw [if_pos (by omega)]
   have:firstG (gapsL (toolL xss t) (max f 0)) n=(0,false):=by
    unfold firstG
    have hno:(gapsL (toolL xss t) (max f 0)).find? (longB n)=none:=List.find?_eq_none.2 fun g hgm=>by
     obtain ⟨a1,a2,a3,_⟩:=gaps_spec hg hmx g hgm
     rw [long_iff hg hmx g hgm]
     omega
    rw [hno]
   rw [this]
 ·rw [if_neg ht,if_pos]
  apply Classical.byContradiction
  intro h
  exact ht ⟨toolB_of (by omega) (by omega),by omega⟩
end Go.AM.YtmohhhbgcehnpaaGreat
end
