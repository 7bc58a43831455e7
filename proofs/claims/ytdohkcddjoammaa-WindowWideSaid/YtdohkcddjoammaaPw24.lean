/- CaT, CaU, ReF, ReL, GrF, GrG. -/
import Derived.Test.YtdohkcddjoammaaPw20
import Derived.Test.YtdohkcddjoammaaPw17
import Derived.Test.YtdohkcddjoammaaPw23

section
set_option linter.all false
namespace Go.AM.Ytdohkcddjoammaa
open Go.Proofs
def tlB (b:Bk.El):Int:=b.1
def stB (b:Bk.El):Int:=b.2.1
def enB (b:Bk.El):Int:=b.2.2.1
def owB (b:Bk.El):Int:=b.2.2.2
theorem bk_eq {a b:Bk.El} (h1:tlB a=tlB b) (h2:stB a=stB b) (h3:enB a=enB b) (h4:owB a=owB b):a=b:=Prod.ext h1 (Prod.ext h2 (Prod.ext h3 h4))
structure GoodB (b:Bk.El):Prop where
  t0:0≤tlB b
  t1:tlB b < 60
  s0:0≤stB b
  se:stB b < enB b
  e1:enB b≤1000000
  o0:1≤owB b
  o1:owB b≤1000000
theorem validB_iff (b:Bk.El):validB b.1 b.2.1 b.2.2.1 b.2.2.2=true↔GoodB b:=by
  unfold validB toolB
  simp only [Bool.and_eq_true,decide_eq_true_eq]
  constructor
  · rintro ⟨⟨⟨⟨⟨h1,h2⟩,h3⟩,h4,h5⟩,h6⟩,h7⟩
    exact ⟨h4,h5,h1,h2,h3,h6,h7⟩
  · rintro ⟨h4,h5,h1,h2,h3,h6,h7⟩
    exact ⟨⟨⟨⟨⟨h1,h2⟩,h3⟩,h4,h5⟩,h6⟩,h7⟩
def meet (a b:Bk.El):Prop:=stB a < enB b∧stB b < enB a
structure GoodL (t:Nat) (l:List Bk.El):Prop where
  all:∀ b∈l,GoodB b∧tlB b=t
  ord:l.Pairwise fun a b=>enB a≤stB b
theorem GoodL.sorted {t:Nat} {l:List Bk.El} (h:GoodL t l):SortedB l:=fun i j hij hj=>by
  have:=List.pairwise_iff_getElem.1 h.ord i j (by omega) hj hij
  have h1:=(h.all l[i] (List.getElem_mem _)).1.se
  show startB (getI l Bk.dflt i)≤startB (getI l Bk.dflt j)
  have e1:getI l Bk.dflt i=l[i]:=by simp [getI,List.getD,List.getElem?_eq_getElem (show i < l.length by omega)]
  have e2:getI l Bk.dflt j=l[j]:=by simp [getI,List.getD,List.getElem?_eq_getElem hj]
  rw [e1,e2]
  show stB l[i]≤stB l[j]
  omega
theorem nil_good (t:Nat):GoodL t []:=⟨by simp,List.Pairwise.nil⟩
theorem pos_split {t:Nat} {l:List Bk.El} (h:GoodL t l) (s:Int):(∀ c∈l.take (posF l s),stB c < s)∧(∀ c∈l.drop (posF l s),s≤stB c):=by
  have hp:l.take (posF l s)=l.takeWhile (fun b=>decide (startB b < s)):=by
    have:=List.takeWhile_prefix (p:=fun b=>decide (startB b < s)) (l:=l)
    unfold posF
    exact (List.prefix_iff_eq_take.1 this).symm
  have hd:l.drop (posF l s)=l.dropWhile (fun b=>decide (startB b < s)):=by
    have h1:=List.takeWhile_append_dropWhile (p:=fun b=>decide (startB b < s)) (l:=l)
    have h2:=List.take_append_drop (posF l s) l
    rw [← hp] at h1
    exact List.append_cancel_left (h2.trans h1.symm)
  refine ⟨fun c hc=>?_,fun c hc=>?_⟩
  · rw [hp] at hc
    have:∀ {m:List Bk.El} {c:Bk.El},c∈m.takeWhile (fun b=>decide (startB b < s))→startB c < s:=by
      intro m
      induction m with
      | nil=>intro c hc;simp at hc
      | cons x m ih =>
        intro c hc
        by_cases hx:startB x < s
        · rw [List.takeWhile_cons_of_pos (by simpa using hx)] at hc
          rcases List.mem_cons.1 hc with rfl|hc
          · exact hx
          · exact ih hc
        · rw [List.takeWhile_cons_of_neg (by simpa using hx)] at hc;simp at hc
    exact this hc
  · have hsub:(l.drop (posF l s)).Pairwise fun a b=>enB a≤stB b:=h.ord.sublist (List.drop_sublist _ _)
    have hall:∀ b∈l.drop (posF l s),GoodB b:=fun b hb=>(h.all b (List.mem_of_mem_drop hb)).1
    rw [hd] at hsub hall hc
    generalize hm:l.dropWhile (fun b=>decide (startB b < s))=m at hsub hall hc
    cases m with
    | nil=>simp at hc
    | cons x m =>
      have hx:¬ startB x < s:=by
        have:=List.head_dropWhile_not (fun b=>decide (startB b < s)) (l:=l) (by rw [hm];simp)
        simp only [hm,List.head_cons] at this
        simpa using this
      have hx:s≤stB x:=by have:¬ stB x < s:=hx;omega
      rcases List.mem_cons.1 hc with rfl|hc
      · exact hx
      · have h1:=(List.pairwise_cons.1 hsub).1 c hc
        have h2:=(hall x (by simp)).se
        omega
theorem add_good {t:Nat} {l:List Bk.El} {b:Bk.El} (h:GoodL t l) (hb:GoodB b) (ht:tlB b=t) (hn:∀ c∈l,¬ meet c b) :
    GoodL t (addF l b)∧(∀ c,c∈addF l b↔c=b∨c∈l)∧(addF l b).length=l.length+1:=by
  obtain ⟨h1,h2⟩:=pos_split h (startB b)
  have e:addF l b=l.take (posF l (startB b))++[b]++l.drop (posF l (startB b)):=by unfold addF insF;simp
  have hmem:∀ c,c∈addF l b↔c=b∨c∈l:=fun c=>by
    rw [e]
    conv=>rhs;rw [← List.take_append_drop (posF l (startB b)) l]
    simp only [List.mem_append,List.mem_singleton]
    constructor
    · rintro ((h|h)|h)
      · exact .inr (.inl h)
      · exact .inl h
      · exact .inr (.inr h)
    · rintro (h|h|h)
      · exact .inl (.inr h)
      · exact .inl (.inl h)
      · exact .inr h
  refine ⟨⟨fun c hc=>?_,?_⟩,hmem,?_⟩
  · rcases (hmem c).1 hc with rfl|hc
    · exact ⟨hb,ht⟩
    · exact h.all c hc
  · rw [e,List.append_assoc]
    have hbe:=hb.se
    have hleft:∀ c∈l.take (posF l (startB b)),enB c≤stB b:=fun c hc=>by
      have h3:stB c < stB b:=h1 c hc
      have h4:=hn c (List.mem_of_mem_take hc)
      have h5:¬ stB b < enB c:=fun h6=>h4 ⟨by omega,h6⟩
      omega
    have hright:∀ c∈l.drop (posF l (startB b)),enB b≤stB c:=fun c hc=>by
      have h3:stB b≤stB c:=h2 c hc
      have hcm:=List.mem_of_mem_drop hc
      have h4:=hn c hcm
      have h6:=(h.all c hcm).1.se
      have h5:¬ stB c < enB b:=fun h7=>h4 ⟨h7,by omega⟩
      omega
    refine List.pairwise_append.2 ⟨h.ord.sublist (List.take_sublist _ _),List.pairwise_cons.2 ⟨hright,h.ord.sublist (List.drop_sublist _ _)⟩,fun a ha c hc=>?_⟩
    rcases List.mem_cons.1 hc with rfl|hc
    · exact hleft a ha
    · have h3:=hleft a ha
      have h4:=hright c hc
      omega
  · rw [e]
    have:=congrArg List.length (List.take_append_drop (posF l (startB b)) l)
    simp only [List.length_append,List.length_cons,List.length_nil] at this ⊢
    omega
theorem good_uniq {t:Nat}:∀ {l m:List Bk.El},GoodL t l→GoodL t m→(∀ c,c∈l↔c∈m)→l=m
  | [],[],_,_,_=>rfl
  | [],b::m,_,_,h=>absurd ((h b).2 (by simp)) (by simp)
  | a::l,[],_,_,h=>absurd ((h a).1 (by simp)) (by simp)
  | a::l,b::m,hl,hm,h=>by
    obtain ⟨p1,p2⟩:=List.pairwise_cons.1 hl.ord
    obtain ⟨q1,q2⟩:=List.pairwise_cons.1 hm.ord
    have sa:=(hl.all a (by simp)).1.se
    have sb:=(hm.all b (by simp)).1.se
    have hab:a=b:=by
      rcases List.mem_cons.1 ((h a).1 (by simp)) with h1|h1
      · exact h1
      · rcases List.mem_cons.1 ((h b).2 (by simp)) with h2|h2
        · exact h2.symm
        · have h3:=q1 a h1
          have h4:=p1 b h2
          omega
    subst hab
    have hn1:a ∉ l:=fun h1=>by have:=p1 a h1;omega
    have hn2:a ∉ m:=fun h1=>by have:=q1 a h1;omega
    rw [good_uniq (l:=l) (m:=m) ⟨fun c hc=>hl.all c (by simp [hc]),p2⟩ ⟨fun c hc=>hm.all c (by simp [hc]),q2⟩ fun c=>by
      constructor
      · intro hc
        rcases List.mem_cons.1 ((h c).1 (by simp [hc])) with rfl|h1
        · exact absurd hc hn1
        · exact h1
      · intro hc
        rcases List.mem_cons.1 ((h c).2 (by simp [hc])) with rfl|h1
        · exact absurd hc hn2
        · exact h1]
theorem filter_good {t:Nat} {l:List Bk.El} (h:GoodL t l) (p:Bk.El→Bool):GoodL t (l.filter p) :=
  ⟨fun b hb=>h.all b (List.mem_filter.1 hb).1,h.ord.sublist List.filter_sublist⟩
structure CalG (xss:List (List Bk.El)):Prop where
  len:xss.length=60
  each:∀ t,t < 60→GoodL t (getI xss [] t)
def inC (xss:List (List Bk.El)) (b:Bk.El):Prop:=b∈toolL xss (tlB b)
theorem noCal_good:CalG noCal:=⟨by simp [noCal],fun t ht=>by
  have:getI noCal [] t=[]:=by
    unfold getI noCal
    rw [List.getD_eq_getElem?_getD,List.getElem?_replicate]
    split <;> rfl
  rw [this];exact nil_good t⟩
theorem CalG.sorted {xss:List (List Bk.El)} (h:CalG xss):CalS xss:=fun xs hx=>by
  obtain ⟨i,hi,rfl⟩:=List.getElem_of_mem hx
  have:=(h.each i (by rw [← h.len];exact hi)).sorted
  rwa [show getI xss [] i=xss[i] by simp [getI,List.getD,List.getElem?_eq_getElem hi]] at this
theorem mem_len {xss:List (List Bk.El)} {xs:List Bk.El} (h:xs∈xss):xs.length≤lenF xss:=by
  induction xss with
  | nil=>simp at h
  | cons y r ih =>
    simp only [lenF,List.map_cons,List.sum_cons] at ih ⊢
    rcases List.mem_cons.1 h with rfl|h
    · omega
    · have:=ih h;omega
theorem CalG.cal {xss:List (List Bk.El)} (h:CalG xss) (hl:lenF xss≤1000000):Cal xss:=⟨h.len,fun xs hx=>Nat.le_trans (mem_len hx) hl⟩
theorem CalG.tool {xss:List (List Bk.El)} (h:CalG xss) {t:Int} (h0:0≤t) (h1:t < 60):GoodL t.toNat (toolL xss t):=h.each t.toNat (by omega)
theorem CalG.good {xss:List (List Bk.El)} (h:CalG xss) {b:Bk.El} (hb:inC xss b) (h0:0≤tlB b) (h1:tlB b < 60):GoodB b:=((h.tool h0 h1).all b hb).1
theorem lenF_set {xss:List (List Bk.El)} {l:List Bk.El}:∀ {i:Nat},i < xss.length→lenF (xss.set i l)+(getI xss [] i).length=lenF xss+l.length:=by
  induction xss with
  | nil=>intro i h;simp at h
  | cons x r ih =>
    intro i h
    cases i with
    | zero=>simp [lenF,getI];omega
    | succ i =>
      have:=ih (i:=i) (by simpa using h)
      simp only [lenF,getI,List.set_cons_succ,List.map_cons,List.sum_cons,List.getD_cons_succ] at this ⊢
      omega
theorem get_set_same {xss:List (List Bk.El)} {i:Nat} {l:List Bk.El} (h:i < xss.length):getI (xss.set i l) [] i=l:=by
  simp [getI,List.getD,h]
theorem get_set_other {xss:List (List Bk.El)} {i j:Nat} {l:List Bk.El} (h:i≠j):getI (xss.set i l) [] j=getI xss [] j:=by
  simp [getI,List.getD,List.getElem?_set_ne h]
theorem busy_iff {xss:List (List Bk.El)} {t s e:Int}:busyF xss t s e=true↔0≤t∧t < 60∧s < e∧∃ c∈toolL xss t,stB c < e∧s < enB c:=by
  unfold busyF
  simp only [Bool.and_eq_true,decide_eq_true_eq,List.any_eq_true]
  constructor
  · rintro ⟨h1,h2,c,hc,h3⟩
    obtain ⟨h4,h5⟩:=toolB_true h1
    refine ⟨h4,h5,h2,c,hc,?_⟩
    simpa [meetE,meetB,stB,enB] using h3
  · rintro ⟨h1,h2,h3,c,hc,h4⟩
    exact ⟨toolB_of h1 h2,h3,c,hc,by simpa [meetE,meetB,stB,enB] using h4⟩
theorem free_iff {xss:List (List Bk.El)} {b:Bk.El}:freeF xss b=true↔GoodB b∧∀ c∈toolL xss (tlB b),¬ meet c b:=by
  unfold freeF
  rw [Bool.and_eq_true,validB_iff]
  constructor
  · rintro ⟨h1,h2⟩
    refine ⟨h1,fun c hc hm=>?_⟩
    have:busyF xss b.1 b.2.1 b.2.2.1=true:=busy_iff.2 ⟨h1.t0,h1.t1,h1.se,c,hc,hm⟩
    rw [this] at h2;cases h2
  · rintro ⟨h1,h2⟩
    refine ⟨h1,?_⟩
    cases hb:busyF xss b.1 b.2.1 b.2.2.1
    · rfl
    · obtain ⟨_,_,_,c,hc,hm⟩:=busy_iff.1 hb
      exact absurd hm (h2 c hc)
theorem book_yes {xss:List (List Bk.El)} {b:Bk.El} (h:CalG xss) (hf:freeF xss b=true):CalG (bookF xss b)∧(∀ c,0≤tlB c→(inC (bookF xss b) c↔c=b∨inC xss c))∧lenF (bookF xss b)=lenF xss+1:=by
  obtain ⟨hg,hn⟩:=free_iff.1 hf
  have hlt:(tlB b).toNat < 60:=by have:=hg.t1;have:=hg.t0;omega
  have hltx:(tlB b).toNat < xss.length:=by rw [h.len];exact hlt
  obtain ⟨a1,a2,a3⟩:=add_good (h.tool hg.t0 hg.t1) hg (by have:=hg.t0;omega) hn
  have e:bookF xss b=xss.set (tlB b).toNat (addF (toolL xss (tlB b)) b):=by unfold bookF;rw [if_pos hf];rfl
  rw [e]
  refine ⟨⟨by simpa using h.len,fun t ht=>?_⟩,fun c hc=>?_,?_⟩
  · by_cases hte:(tlB b).toNat=t
    · subst hte
      rw [get_set_same hltx];exact a1
    · rw [get_set_other hte];exact h.each t ht
  · unfold inC toolL
    by_cases hte:(tlB b).toNat=(tlB c).toNat
    · rw [← hte,get_set_same hltx];exact a2 c
    · rw [get_set_other hte]
      constructor
      · exact fun h=>.inr h
      · rintro (rfl|h)
        · exact absurd rfl hte
        · exact h
  · have:=lenF_set (l:=addF (toolL xss (tlB b)) b) hltx
    have e2:(getI xss [] (tlB b).toNat).length=(toolL xss (tlB b)).length:=rfl
    omega
theorem book_no {xss:List (List Bk.El)} {b:Bk.El} (hf:freeF xss b=false):bookF xss b=xss:=by unfold bookF;rw [if_neg (by rw [hf];simp)]
theorem book_good {xss:List (List Bk.El)} (h:CalG xss) (b:Bk.El):CalG (bookF xss b)∧lenF (bookF xss b)≤lenF xss+1:=by
  cases hf:freeF xss b
  · rw [book_no hf];exact ⟨h,by omega⟩
  · obtain ⟨h1,_,h2⟩:=book_yes h hf
    exact ⟨h1,by omega⟩
theorem cal_uniq {a b:List (List Bk.El)} (ha:CalG a) (hb:CalG b) (h:∀ c,0≤tlB c→tlB c < 60→(inC a c↔inC b c)):a=b:=by
  refine List.ext_getElem (by rw [ha.len,hb.len]) fun i h1 h2=>?_
  have hi:i < 60:=by rw [← ha.len];exact h1
  have e1:a[i]=getI a [] i:=by simp [getI,List.getD,List.getElem?_eq_getElem h1]
  have e2:b[i]=getI b [] i:=by simp [getI,List.getD,List.getElem?_eq_getElem h2]
  rw [e1,e2]
  refine good_uniq (ha.each i hi) (hb.each i hi) fun c=>?_
  constructor
  · intro hc
    have ht:=((ha.each i hi).all c hc).2
    have e3:(tlB c).toNat=i:=by omega
    have:=(h c (by omega) (by omega)).1 (by unfold inC toolL;rw [e3];exact hc)
    unfold inC toolL at this
    rwa [e3] at this
  · intro hc
    have ht:=((hb.each i hi).all c hc).2
    have e3:(tlB c).toNat=i:=by omega
    have:=(h c (by omega) (by omega)).2 (by unfold inC toolL;rw [e3];exact hc)
    unfold inC toolL at this
    rwa [e3] at this
def bookAll (l:List Bk.El) (xss:List (List Bk.El)):List (List Bk.El):=l.foldl bookF xss
theorem bookAll_good {l:List Bk.El}:∀ {xss:List (List Bk.El)},CalG xss→CalG (bookAll l xss)∧lenF (bookAll l xss)≤lenF xss+l.length:=by
  induction l with
  | nil=>intro xss h;exact ⟨h,by simp [bookAll]⟩
  | cons b l ih =>
    intro xss h
    obtain ⟨h1,h2⟩:=book_good h b
    obtain ⟨h3,h4⟩:=ih h1
    exact ⟨h3,by simp only [bookAll,List.foldl_cons,List.length_cons] at h4 ⊢;omega⟩
theorem bookAll_append (l m:List Bk.El) (xss:List (List Bk.El)):bookAll (l++m) xss=bookAll m (bookAll l xss):=by unfold bookAll;rw [List.foldl_append]
theorem lenF_no:lenF noCal=0:=by simp [lenF,noCal]
theorem wrap64_id {n:Int} (h:-9223372036854775808≤n) (k:n < 9223372036854775808):RowKit.wrap64 n=n:=by unfold RowKit.wrap64;omega
theorem gaps_spec {t:Nat}:∀ {l:List Bk.El} {f:Int},GoodL t l→0≤f→∀ g∈gapsL l f,f≤g.1∧g.1 < g.2∧g.2≤1000000∧∀ c∈l,enB c≤g.1∨g.2≤stB c
  | [],f,_,_,g,hg=>by
    unfold gapsL at hg
    split at hg
    · rw [List.mem_singleton.1 hg];exact ⟨Int.le_refl _,by omega,Int.le_refl _,by simp⟩
    · cases hg
  | b::l,f,h,hf,g,hg=>by
    have hl:GoodL t l:=⟨fun c hc=>h.all c (by simp [hc]),(List.pairwise_cons.1 h.ord).2⟩
    have hb:=(h.all b (by simp)).1
    have h1:=(List.pairwise_cons.1 h.ord).1
    unfold gapsL at hg
    rcases List.mem_append.1 hg with hg|hg
    · split at hg
      · rename_i hlt
        have hlt:f < stB b:=hlt
        rw [List.mem_singleton.1 hg]
        have e1:=hb.e1
        have se:=hb.se
        refine ⟨Int.le_refl _,hlt,by show stB b≤1000000;omega,fun c hc=>.inr ?_⟩
        show stB b≤stB c
        rcases List.mem_cons.1 hc with rfl|hc
        · exact Int.le_refl _
        · have:=h1 c hc;omega
      · cases hg
    · have hmx:f≤max f (enB b)∧enB b≤max f (enB b):=⟨Int.le_max_left _ _,Int.le_max_right _ _⟩
      obtain ⟨a1,a2,a3,a4⟩:=gaps_spec hl (f:=max f (enB b)) (by omega) g hg
      refine ⟨by omega,a2,a3,fun c hc=>?_⟩
      rcases List.mem_cons.1 hc with rfl|hc
      · exact .inl (by omega)
      · exact a4 c hc
theorem long_iff {t:Nat} {l:List Bk.El} {f ln:Int} (h:GoodL t l) (hf:0≤f):∀ g∈gapsL l f,(longB ln g=true↔ln≤g.2 - g.1):=fun g hg=>by
  obtain ⟨a1,a2,a3,_⟩:=gaps_spec h hf g hg
  unfold longB
  rw [wrap64_id (by omega) (by omega)]
  simp
theorem gaps_cover {t:Nat}:∀ {l:List Bk.El} {f s ln:Int},GoodL t l→0≤f→f≤s→1≤ln→s+ln≤1000000→(∀ c∈l,¬ (stB c < s+ln∧s < enB c))→∃ g∈gapsL l f,g.1≤s∧s+ln≤g.2
  | [],f,s,ln,_,_,hs,hl,he,_=>⟨(f,1000000),by unfold gapsL;rw [if_pos (by omega)];simp,hs,he⟩
  | b::l,f,s,ln,h,hf,hs,hl,he,hn=>by
    have hl':GoodL t l:=⟨fun c hc=>h.all c (by simp [hc]),(List.pairwise_cons.1 h.ord).2⟩
    have hb:=(h.all b (by simp)).1
    have hbe:=hb.se
    have hnb:=hn b (by simp)
    have hor:s+ln≤stB b∨enB b≤s:=by
      rcases Int.lt_or_le (stB b) (s+ln) with h1|h1
      · exact .inr (by rcases Int.lt_or_le s (enB b) with h2|h2;exact absurd ⟨h1,h2⟩ hnb;exact h2)
      · exact .inl h1
    rcases hor with h1|h1
    · refine ⟨(f,stB b),?_,hs,h1⟩
      unfold gapsL
      have:f < b.2.1:=by show f < stB b;omega
      rw [if_pos this]
      simp [stB]
    · obtain ⟨g,hg,h2,h3⟩:=gaps_cover (l:=l) (f:=max f (enB b)) (s:=s) (ln:=ln) hl' (by have:=Int.le_max_left f (enB b);omega) (by rcases Int.le_total f (enB b) with h4|h4;rw [Int.max_eq_right h4];exact h1;rw [Int.max_eq_left h4];exact hs) hl he (fun c hc=>hn c (by simp [hc]))
      exact ⟨g,by unfold gapsL;exact List.mem_append.2 (.inr hg),h2,h3⟩
theorem gaps_sorted {t:Nat}:∀ {l:List Bk.El} {f:Int},GoodL t l→0≤f→(gapsL l f).Pairwise fun a b=>a.2≤b.1
  | [],f,_,_=>by unfold gapsL;split <;> simp
  | b::l,f,h,hf=>by
    have hl:GoodL t l:=⟨fun c hc=>h.all c (by simp [hc]),(List.pairwise_cons.1 h.ord).2⟩
    have hb:=(h.all b (by simp)).1.se
    have hmx:f≤max f (enB b)∧enB b≤max f (enB b):=⟨Int.le_max_left _ _,Int.le_max_right _ _⟩
    unfold gapsL
    refine List.pairwise_append.2 ⟨by split <;> simp,gaps_sorted hl (by show 0≤max f (enB b);omega),fun a ha g hg=>?_⟩
    split at ha
    · rw [List.mem_singleton.1 ha]
      have:=(gaps_spec hl (f:=max f (enB b)) (by omega) g hg).1
      show stB b≤g.1
      omega
    · cases ha
theorem first_yes {t:Nat} {l:List Bk.El} {f ln a:Int} (h:GoodL t l) (hf:0≤f) (hl:1≤ln) (hr:firstG (gapsL l f) ln=(a,true)) :
    f≤a∧a+ln≤1000000∧(∀ c∈l,¬ (stB c < a+ln∧a < enB c))∧∀ s,f≤s→s < a→∃ c∈l,stB c < s+ln∧s < enB c:=by
  unfold firstG at hr
  split at hr
  · rename_i g hg
    have hmem:=List.mem_of_find?_eq_some hg
    have hlong:=(long_iff (ln:=ln) h hf g hmem).1 (List.find?_some hg)
    obtain ⟨a1,a2,a3,a4⟩:=gaps_spec h hf g hmem
    have ea:g.1=a:=by injection hr
    subst ea
    refine ⟨a1,by omega,fun c hc hm=>?_,fun s hs hsa=>?_⟩
    · rcases a4 c hc with h1|h1 <;> omega
    · apply Classical.byContradiction
      intro hno
      obtain ⟨g',hg',h2,h3⟩:=gaps_cover (s:=s) (ln:=ln) h hf hs hl (by omega) (fun c hc hm=>hno ⟨c,hc,hm⟩)
      obtain ⟨p,q,hpq,hpn⟩:=List.find?_eq_some_iff_append.1 hg |>.2
      have hl':longB ln g'=true:=(long_iff (ln:=ln) h hf g' hg').2 (by omega)
      have hgs:=gaps_sorted h hf
      rw [hpq] at hg' hgs
      rcases List.mem_append.1 hg' with h4|h4
      · have:=hpn g' h4
        rw [hl'] at this;cases this
      · rcases List.mem_cons.1 h4 with rfl|h4
        · omega
        · have h5:=(List.pairwise_cons.1 (List.pairwise_append.1 hgs).2.1).1 g' h4
          omega
  · injection hr with _ hr;cases hr
theorem first_none {t:Nat} {l:List Bk.El} {f ln a:Int} (h:GoodL t l) (hf:0≤f) (hl:1≤ln) (hr:firstG (gapsL l f) ln=(a,false)):∀ s,f≤s→s+ln≤1000000→∃ c∈l,stB c < s+ln∧s < enB c:=by
  unfold firstG at hr
  split at hr
  · injection hr with _ hr;cases hr
  · rename_i hno
    intro s hs he
    apply Classical.byContradiction
    intro hn
    obtain ⟨g,hg,h2,h3⟩:=gaps_cover (s:=s) (ln:=ln) h hf hs hl he (fun c hc hm=>hn ⟨c,hc,hm⟩)
    have:=List.find?_eq_none.1 hno g hg
    rw [(long_iff (ln:=ln) h hf g hg).2 (by omega)] at this
    exact this rfl
end Go.AM.Ytdohkcddjoammaa
end

section
set_option linter.all false
namespace Go.AM.Ytdohkcddjoammaa
open Go.Proofs
set_option maxRecDepth 100000
set_option maxHeartbeats 4000000
theorem bookAll_ok (l:List Bk.El) (h:l.length≤1000):CalG (bookAll l noCal)∧Cal (bookAll l noCal)∧CalS (bookAll l noCal):=by
  obtain ⟨h1,h2⟩:=bookAll_good (l:=l) noCal_good
  rw [lenF_no] at h2
  exact ⟨h1,h1.cal (by omega),h1.sorted⟩
theorem bookAll_take {l:List Bk.El} {i:Nat} (h:i < l.length) (xss:List (List Bk.El)):bookAll (l.take (i+1)) xss=bookF (bookAll (l.take i) xss) (getI l Bk.dflt i):=by
  rw [take_succ_getI (d:=Bk.dflt) h,bookAll_append];rfl
def bookedS:Spec:=plain fun
  | [.sl (.pair (.int .i64) (.pair (.int .i64) (.pair (.int .i64) (.int .i64)))) l]=>some ⟨l.length≤1000,.ptr 0 0,[.arr Bk (bookAll l noCal) none],false⟩
  | _=>none
theorem freed_good {xss:List (List Bk.El)} (h:CalG xss) (o:Int):CalG (freedF xss o):=⟨by unfold freedF;rw [List.length_map];exact h.len,fun t ht=>by
  have e:getI (freedF xss o) [] t=delF (getI xss [] t) o:=by
    have ht':t < xss.length:=by rw [h.len];exact ht
    unfold freedF getI
    rw [List.getD_eq_getElem?_getD,List.getD_eq_getElem?_getD,List.getElem?_map,List.getElem?_eq_getElem ht']
    rfl
  rw [e];exact filter_good (h.each t ht) _⟩
def saneS:Spec:=plain fun
  | []=>outV True (.bool true)
  | _=>none
end Go.AM.Ytdohkcddjoammaa
end

section
set_option linter.all false
namespace Go.AM.Ytdohkcddjoammaa.Re
open Go.Proofs
set_option maxRecDepth 100000
set_option maxHeartbeats 4000000
abbrev CalT:=List (List Bk.El)
def bookG (xss:CalT) (tl fr ln:Int):CalT:=bif (firstF xss tl fr ln).2 then bookF xss (tl,(firstF xss tl fr ln).1,(firstF xss tl fr ln).1+ln,1) else xss
theorem first_facts {xss:CalT} (h:CalG xss) {tl fr ln:Int} (hf:(firstF xss tl fr ln).2=true) :
    (0≤tl∧tl < 60∧1≤ln)∧(max fr 0≤(firstF xss tl fr ln).1∧(firstF xss tl fr ln).1+ln≤1000000)∧freeF xss (tl,(firstF xss tl fr ln).1,(firstF xss tl fr ln).1+ln,1)=true:=by
  unfold firstF at hf ⊢
  split at hf
  · rename_i hc
    rw [if_pos hc]
    obtain ⟨ht,hl⟩:=hc
    obtain ⟨h0,h1⟩:=toolB_true ht
    obtain ⟨a,r⟩:∃ x,x=firstG (gapsL (toolL xss tl) (max fr 0)) ln:=⟨_,rfl⟩
    obtain ⟨a,b⟩:=a
    rw [← r] at hf ⊢
    obtain rfl:b=true:=hf
    obtain ⟨k1,k2,k3,_⟩:=first_yes (h.tool h0 h1) (by omega) hl r.symm
    refine ⟨⟨h0,h1,hl⟩,⟨k1,k2⟩,free_iff.2 ⟨⟨h0,h1,by show 0≤a;omega,by show a < a+ln;omega,by show a+ln≤1000000;omega,by show (1:Int)≤1;omega,by show (1:Int)≤1000000;omega⟩,fun c hc hm=>k3 c hc hm⟩⟩
  · cases hf
theorem bookG_good {xss:CalT} (h:CalG xss) (tl fr ln:Int):CalG (bookG xss tl fr ln)∧lenF (bookG xss tl fr ln)≤lenF xss+1:=by
  unfold bookG
  cases (firstF xss tl fr ln).2
  · exact ⟨h,by simp⟩
  · exact book_good h _
def rbookS:Spec:=⟨true,fun args rows=>match args,rows with
  | [.ptr 0 0,.int .i64 tl,.int .i64 fr,.int .i64 ln],[.arr (.pair (.int .i64) (.pair (.int .i64) (.pair (.int .i64) (.int .i64)))) xss none] =>
    some ⟨CalG xss∧lenF xss≤900000,.tup [.agg [.int .i64 tl,.int .i64 (firstF xss tl fr ln).1],.bool (firstF xss tl fr ln).2],[.arr Bk (bookG xss tl fr ln) none],true⟩
  | _,_=>none⟩
def endS:Spec:=plain fun
  | [.agg [.int .i64 mn,.int .i64 mx,.int .i64 mt,.int .i64 ms,.int .i64 st,.int .i64 ss]]=>outV (In64 (max ms ss+mx)) (.int .i64 (max ms ss+mx))
  | _=>none
def cloneWN:Spec:=plain fun
  | [.ext (.nl (.pair (.int .i64) (.pair (.int .i64) (.int .i64))))]=>some ⟨True,.own 0,[.seq tWin []],false⟩
  | _=>none
def cloneWM:Spec:=plain fun
  | [.ext (.nn (.pair (.int .i64) (.pair (.int .i64) (.int .i64))) xs)]=>some ⟨xs.length * 24≤140737488355328,.own 0,[.seq tWin xs],false⟩
  | _=>none
def cloneWS:Spec:=plain fun
  | [.sl (.pair (.int .i64) (.pair (.int .i64) (.int .i64))) xs]=>some ⟨xs.length * 24≤140737488355328,.own 0,[.seq tWin xs],false⟩
  | _=>none
end Go.AM.Ytdohkcddjoammaa.Re
end

section
set_option linter.all false
namespace Go.AM.Ytdohkcddjoammaa.Re
open Go.Proofs
set_option maxRecDepth 100000
set_option maxHeartbeats 4000000
def eqB (o:Int) (x:Int):Bool:=decide (x=o)
def remF (xs:List Int) (o:Int):List Int:=xs.filter fun x=>!eqB o x
def rest1S:Spec:=⟨true,fun args rows=>match args,rows with
  | [.int .i64 x,.ptr 0 0],[.box [.int .i64 o]]=>some ⟨True,.bool (decide (x=o)),[.box [.int .i64 o]],true⟩
  | _,_=>none⟩
def cloneIN:Spec:=plain fun
  | [.ext (.nl (.int .i64))]=>some ⟨True,.own 0,[.seq tInt []],false⟩
  | _=>none
theorem cloneINOk:SpecSound Try.prog 33 cloneIN:=by
  refine soundP (envOf sigNil) Try.func33 (c:=body Try.f33) rfl (by kernel_rfl) rfl ?_
  intro args out hf hpre
  split at hf <;> try (cases hf;done)
  cases hf
  refine ⟨Nat.le_of_ble_eq_true rfl,initI rfl ?_⟩
  repeat' (first|with_reducible (first|apply pN|apply cN|apply bN|apply cE|apply cR|apply bR|apply lE|apply lR|apply jE|apply jR)|refine zE ?_|refine zP ?_|refine pD ?_|refine zS ?_|refine zR ?_|refine zO ?_|refine zB ?_|refine zX ?_|refine zT ?_|refine skipI rfl ?_)
  refine condT rfl ?_
  repeat' (first|with_reducible (first|apply pN|apply cN|apply bN|apply cE|apply cR|apply bR|apply lE|apply lR|apply jE|apply jR)|refine zE ?_|refine zP ?_|refine pD ?_|refine zS ?_|refine zR ?_|refine zO ?_|refine zB ?_|refine zX ?_|refine zT ?_|refine skipI rfl ?_)
  refine endR rfl ?_
  repeat' (first|exact trivial|exact rfl|refine ⟨rfl,?_⟩|refine And.intro ?_ ?_)
def cloneIM:Spec:=plain fun
  | [.ext (.nn (.int .i64) xs)]=>some ⟨xs.length * 8≤140737488355328,.own 0,[.seq tInt xs],false⟩
  | _=>none
theorem cloneIMOk:SpecSound Try.prog 33 cloneIM:=by
  refine soundP (envOf sigNil) Try.func33 (c:=body Try.f33) rfl (by kernel_rfl) rfl ?_
  intro args out hf hpre
  split at hf <;> try (cases hf;done)
  rename_i xs
  cases hf
  refine ⟨Nat.le_of_ble_eq_true rfl,initI (args:=[.ext (.nn tInt xs)]) rfl ?_⟩
  change xs.length * 8≤140737488355328 at hpre
  repeat' (first|with_reducible (first|apply pN|apply cN|apply bN|apply cE|apply cR|apply bR|apply lE|apply lR|apply jE|apply jR)|refine zE ?_|refine zP ?_|refine pD ?_|refine zS ?_|refine zR ?_|refine zO ?_|refine zB ?_|refine zX ?_|refine zT ?_|refine skipI rfl ?_)
  refine condF rfl ?_
  repeat' (first|with_reducible (first|apply pN|apply cN|apply bN|apply cE|apply cR|apply bR|apply lE|apply lR|apply jE|apply jR)|refine zE ?_|refine zP ?_|refine pD ?_|refine pC (by first|exact hpre|(simp;omega)) ?_|refine zS ?_|refine zR ?_|refine zO ?_|refine zB ?_|refine zX ?_|refine zT ?_|refine skipI rfl ?_)
  refine endR rfl ?_
  repeat' (first|exact trivial|exact rfl|refine ⟨rfl,?_⟩|refine And.intro ?_ ?_)
def cloneIS:Spec:=plain fun
  | [.sl (.int .i64) xs]=>some ⟨xs.length * 8≤140737488355328,.own 0,[.seq tInt xs],false⟩
  | _=>none
theorem cloneIOk:SpecSound Try.prog 33 cloneIS:=by
  intro args rows out hf hpre hr w0 g0 R0 vals h1 h2 h3 h4 h5
  unfold cloneIS plain at hf
  dsimp only at hf
  split at hf <;> try (cases hf;done)
  rename_i xs
  cases hf
  cases h5 with
  | cons h5 h6 =>
  cases h6
  cases h5 with
  | sl hrd =>
  obtain ⟨a,cap,rfl,hc1,hc2,hc3,hc4⟩:=hrd
  cases a with
  | none =>
    obtain rfl:xs=[]:=by
      cases xs with
      | nil=>rfl
      | cons x r=>obtain ⟨_,_,h,_⟩:=hc4 (by simp);cases h
    exact cloneINOk [.ext (.nl tInt)] rows _ rfl trivial (fun _=>hr rfl) w0 g0 R0 _ h1 h2 h3 h4 (.cons (.ext ⟨cap,rfl,hc2⟩) .nil)
  | some a =>
    exact cloneIMOk [.ext (.nn tInt xs)] rows _ rfl hpre (fun _=>hr rfl) w0 g0 R0 _ h1 h2 h3 h4 (.cons (.ext ⟨⟨some a,cap,rfl,hc1,hc2,hc3,hc4⟩,a,_,_,rfl⟩) .nil)
end Go.AM.Ytdohkcddjoammaa.Re
end

section
set_option linter.all false
namespace Go.AM.Ytdohkcddjoammaa.Fl
open Go.Proofs
set_option maxRecDepth 100000
set_option maxHeartbeats 4000000
def waysS:Spec:=⟨true,fun args rows=>match args,rows with
  | [.agg [.int .i64 mn,.int .i64 mx,.sl (.pair (.int .i64) (.pair (.slice (.int .i64)) (.pair (.int .i64) (.pair (.int .i64) (.pair (.slice (.int .i64)) (.pair (.int .i64) (.int .i64))))))) ss,.sl (.pair (.int .i64) (.pair (.int .i64) (.int .i64))) ws],.int .i64 fr],[] =>
    some ⟨validF mn mx ss ws=true∧(0≤fr∧fr < ss.length),.own 0,[.seq (.opt tWay) (waysF mn ss fr)],true⟩
  | _,_=>none⟩
def sigWays:List (Nat × Spec):=[(64,add1S),(63,ordS),(33,Re.cloneIS)]
theorem sigWaysOk:SigOk Try.prog (look sigWays):=sigCons (sigCons (sigCons sigNil
  Try.func33 (by kernel_rfl) (c:=body Try.f33) rfl Re.cloneIOk)
  Try.func63 (by kernel_rfl) (c:=body Try.f63) rfl ordOk)
  Try.func64 (by kernel_rfl) (c:=body Try.f64) rfl add1Ok
theorem some_and {α:Type} {y:Option α} {b:Bool} (h:(!y.isNone&&b)=true):y.isSome=true:=by cases y <;> simp_all
theorem waysOk:SpecSound Try.prog 40 waysS:=by
  refine soundR (envOf sigWaysOk) Try.func40 (c:=body Try.f40) rfl (by kernel_rfl) rfl ?_
  intro args rows out hf hpre
  split at hf <;> try (cases hf;done)
  rename_i mn mx ss ws fr
  cases hf
  refine ⟨Nat.le_of_ble_eq_true rfl,initI (args:=[.agg [.int .i64 mn,.int .i64 mx,.sl tStep ss,.sl tWin ws],.int .i64 fr]) (rows:=[]) rfl ?_⟩
  obtain ⟨hv,hf0,hf1⟩:=hpre
  have F:=flow_sm hv
  have hn2:=F.n2
  have hstart:∀ n∈aftL (getI ss tStep.dflt fr.toNat).2.2.2.2.2.1 (getI ss tStep.dflt fr.toNat).2.2.2.2.1,0≤n∧n < ((List.replicate ss.length (none:Option WayT)).length:Nat):=fun n hn=>by
    have:=after_in (F.st _ (fl_mem (d:=tStep.dflt) (show fr.toNat < ss.length by omega))) n hn
    rw [List.length_replicate];exact this
  repeat' (first|with_reducible (first|apply pN|apply cN|apply bN|apply cE|apply cR|apply bR|apply lE|apply lR|apply jE|apply jR)|refine zE ?_|refine zP ?_|refine pD ?_|refine pC (by first|exact hstart|omega) ?_|refine zS ?_|refine zR ?_|refine zO ?_|refine zB ?_|refine zX ?_|refine zT ?_|refine skipI rfl ?_)
  obtain ⟨W,hW⟩:∃ W,W=waysF mn ss fr:=⟨_,rfl⟩
  rw [← hW]
  unfold waysF at hW
  obtain ⟨hs1,hs2⟩:=start_ok F fr
  refine loopI (σ:=Nat × List (Option WayT) × List Bool) (fun s=>[]) (fun s=>[(15,.seq (.opt tWay) s.2.1),(19,.seq .bool s.2.2)]) (fun s=>((s.2.1.length=ss.length∧s.2.2.length=ss.length)∧s.2.2.count true=s.1)∧wayOk s.1 s.2.1∧W=wLoop mn ss (ss.length+1 - s.1) s.2.1 s.2.2) (fun s=>ss.length+1 - s.1) (0,startW mn ss fr,List.replicate ss.length false) rfl (fun _=>rfl) rfl ?_ ?_ ?_
  · exact ⟨⟨⟨hs1,List.length_replicate⟩,by simp [List.count_replicate]⟩,hs2,hW⟩
  · repeat' (first|exact trivial|with_reducible exact rfl|refine And.intro ?_ ?_)
    all_goals rfl
  rintro ⟨k,out,done⟩ ⟨⟨⟨hol,hdl⟩,hcnt⟩,hok,hWk⟩
  dsimp only at hol hdl hcnt hok hWk ⊢
  have hk:k≤ss.length:=by rw [← hcnt,← hdl];exact List.count_le_length
  rw [show ss.length+1 - k=(ss.length - k)+1 by omega] at hWk
  unfold wLoop at hWk
  rw [hol] at hWk
  repeat' (first|with_reducible (first|apply pN|apply cN|apply bN|apply cE|apply cR|apply bR|apply lE|apply lR|apply jE|apply jR)|refine zE ?_|refine zP ?_|refine pD ?_|refine zS ?_|refine zR ?_|refine zO ?_|refine zB ?_|refine zX ?_|refine zT ?_|refine skipI rfl ?_)
  refine loopI (σ:=Nat) (fun i=>[(33,.int .i64 i),(9,.int .i64 (pickW out done i))]) (fun i=>[]) (fun i=>i≤ss.length) (fun i=>ss.length - i) 0 rfl (fun _=>rfl) rfl ?_ ?_ ?_
  · exact Nat.zero_le _
  · repeat' (first|exact trivial|exact rfl|refine ⟨rfl,?_⟩|refine And.intro ?_ ?_)
  intro i hi
  repeat' (first|with_reducible (first|apply pN|apply cN|apply bN|apply cE|apply cR|apply bR|apply lE|apply lR|apply jE|apply jR)|refine zE ?_|refine zP ?_|refine pD ?_|refine zS ?_|refine zR ?_|refine zO ?_|refine zB ?_|refine zX ?_|refine zT ?_|refine skipI rfl ?_)
  refine condI rfl (fun c1=>?_) (fun c1=>?_)
  · simp only [decide_eq_true_eq] at c1
    have hil:i < ss.length:=by omega
    have hin:((i:Int)).toNat=i:=by omega
    have hpk:=pickW_spec (out:=out) (done:=done) i
    have hge:∀ h:decide (pickW out done i < 0)=false,0≤pickW out done i∧pickW out done i < out.length∧(getI out none (pickW out done i).toNat).isSome=true:=fun h=>by
      rcases hpk with h1|⟨a,h1,h2,h3,_⟩
      · rw [h1] at h;cases h
      · rw [h1];exact ⟨by omega,by omega,h3⟩
    repeat' (first|with_reducible (first|apply pN|apply cN|apply bN|apply cE|apply cR|apply bR|apply lE|apply lR|apply jE|apply jR)|refine zE ?_|refine zP ?_|refine pD ?_|refine pC (by first|exact fun h _=>some_and h|exact fun _ h=>(hge h).1|exact fun _ h=>(hge h).2.1|exact fun _ h=>(hge h).2.2|(intro _ h;have:=hge h;omega)|(intros;exact True.intro)|omega) ?_|refine zS ?_|refine zR ?_|refine zO ?_|refine zB ?_|refine zX ?_|refine zT ?_|refine skipI rfl ?_)
    have hsucc:pickW out done (i+1)=bif (!(getI out none i).isNone&&!getI done false i)&&(decide (pickW out done i < 0)||decide (ordF ((getI out none i).getD w0) ((getI out none (pickW out done i).toNat).getD w0) < 0)) then (i:Int) else pickW out done i:=rfl
    refine condI rfl (fun c2=>?_) (fun c2=>?_)
    · simp only [hin] at c2
      have c2:((!(getI out none i).isNone&&!getI done false i)&&(decide (pickW out done i < 0)||decide (ordF ((getI out none i).getD w0) ((getI out none (pickW out done i).toNat).getD w0) < 0)))=true:=c2
      rw [c2] at hsucc
      repeat' (first|with_reducible (first|apply pN|apply cN|apply bN|apply cE|apply cR|apply bR|apply lE|apply lR|apply jE|apply jR)|refine zE ?_|refine zP ?_|refine pD ?_|refine zS ?_|refine zR ?_|refine zO ?_|refine zB ?_|refine zX ?_|refine zT ?_|refine skipI rfl ?_)
      refine roundI (i+1) rfl ?_ ?_ ?_
      · show i+1≤ss.length
        omega
      · show ss.length - (i+1) < ss.length - i
        omega
      · repeat' (first|exact trivial|with_reducible exact rfl|refine And.intro ?_ ?_)
        all_goals (first|rfl|exact hsucc)
    · simp only [hin] at c2
      have c2:((!(getI out none i).isNone&&!getI done false i)&&(decide (pickW out done i < 0)||decide (ordF ((getI out none i).getD w0) ((getI out none (pickW out done i).toNat).getD w0) < 0)))=false:=c2
      rw [c2] at hsucc
      repeat' (first|with_reducible (first|apply pN|apply cN|apply bN|apply cE|apply cR|apply bR|apply lE|apply lR|apply jE|apply jR)|refine zE ?_|refine zP ?_|refine pD ?_|refine zS ?_|refine zR ?_|refine zO ?_|refine zB ?_|refine zX ?_|refine zT ?_|refine skipI rfl ?_)
      refine roundI (i+1) rfl ?_ ?_ ?_
      · show i+1≤ss.length
        omega
      · show ss.length - (i+1) < ss.length - i
        omega
      · repeat' (first|exact trivial|with_reducible exact rfl|refine And.intro ?_ ?_)
        all_goals (first|rfl|exact hsucc)
  · simp only [decide_eq_false_iff_not] at c1
    obtain rfl:i=ss.length:=by omega
    obtain ⟨at',hat⟩:∃ a,a=pickW out done ss.length:=⟨_,rfl⟩
    have hpk:=pickW_spec (out:=out) (done:=done) ss.length
    rw [← hat] at hpk hWk ⊢
    repeat' (first|with_reducible (first|apply pN|apply cN|apply bN|apply cE|apply cR|apply bR|apply lE|apply lR|apply jE|apply jR)|refine zE ?_|refine zP ?_|refine pD ?_|refine zS ?_|refine zR ?_|refine zO ?_|refine zB ?_|refine zX ?_|refine zT ?_|refine skipI rfl ?_)
    refine condI rfl (fun c3=>?_) (fun c3=>?_)
    · have c3:decide (at' < 0)=true:=c3
      rw [c3] at hWk
      repeat' (first|with_reducible (first|apply pN|apply cN|apply bN|apply cE|apply cR|apply bR|apply lE|apply lR|apply jE|apply jR)|refine zE ?_|refine zP ?_|refine pD ?_|refine zS ?_|refine zR ?_|refine zO ?_|refine zB ?_|refine zX ?_|refine zT ?_|refine skipI rfl ?_)
      refine endR rfl ?_
      repeat' (first|exact trivial|exact rfl|refine ⟨rfl,?_⟩|refine And.intro ?_ ?_)
      exact hWk
    · have c3:decide (at' < 0)=false:=c3
      rw [c3] at hWk
      rcases hpk with h1|⟨a,h1,h2,h3,h4⟩
      · rw [h1] at c3;cases c3
      subst h1
      have hta:((a:Int)).toNat=a:=by omega
      rw [hta] at hWk
      have hWk:W=wLoop mn ss (ss.length - k) (addW out (nextW mn ss out a) (afterL (getI ss tStep.dflt a))) (done.set a true):=hWk
      have hgo:=getD_ok hok a
      have hnx:=nextW_ok F hok h2
      have hst:=F.st _ (fl_mem (d:=tStep.dflt) h2)
      have haft:=after_in hst
      have hcs:=count_set (l:=done) (by omega) h4
      have hk2:k+1≤ss.length:=by
        have:(done.set a true).count true≤(done.set a true).length:=List.count_le_length
        rw [hcs,List.length_set] at this
        omega
      have hm0:=F.mn0
      have hm1:=F.mm
      have hm2:=F.mx1
      have hs0:=hst.mn
      have hs1:=hst.mm
      have hs2:=hst.mx
      have e1:In64 (((getI out none a).getD w0).1+stMn (getI ss tStep.dflt a)):=by unfold In64;omega
      have e2:In64 (((getI out none a).getD w0).1+stMn (getI ss tStep.dflt a)+mn):=by unfold In64;omega
      have e3:((getI out none a).getD w0).2.length * 8≤140737488355328:=by omega
      have e4:(((getI out none a).getD w0).2.length+[(a:Int)].length) * 8≤140737488355328:=by show (_+1) * 8≤_;omega
      have e5:∀ n∈aftL (stBk (getI ss tStep.dflt a)) (stNx (getI ss tStep.dflt a)),0≤n∧n < (out.length:Int):=fun n hn=>by have:=haft n hn;omega
      repeat' (first|with_reducible (first|apply pN|apply cN|apply bN|apply cE|apply cR|apply bR|apply lE|apply lR|apply jE|apply jR)|refine zE ?_|refine zP ?_|refine pD ?_|refine pC (by first|omega|(simp only [hta];first|exact h3|exact e1|exact e2|exact e3|exact e4|exact e5)) ?_|refine zS ?_|refine zR ?_|refine zO ?_|refine zB ?_|refine zX ?_|refine zT ?_|refine skipI rfl ?_)
      refine roundI (k+1,addW out (nextW mn ss out a) (afterL (getI ss tStep.dflt a)),done.set a true) rfl ?_ ?_ ?_
      · refine ⟨⟨⟨by rw [addW_len];exact hol,by rw [List.length_set];exact hdl⟩,by rw [hcs,hcnt]⟩,addW_ok (wayOk_mono (by omega) hok) hnx,?_⟩
        show W=wLoop mn ss (ss.length+1 - (k+1)) _ _
        rw [show ss.length+1 - (k+1)=ss.length - k by omega]
        exact hWk
      · show ss.length+1 - (k+1) < ss.length+1 - k
        omega
      · repeat' (first|exact trivial|with_reducible exact rfl|refine And.intro ?_ ?_)
        all_goals (try simp only [hta])
        all_goals (first|done|rfl)
end Go.AM.Ytdohkcddjoammaa.Fl
end

section
set_option linter.all false
namespace Go.AM.Ytdohkcddjoammaa.Fl
open Go.Proofs
set_option maxRecDepth 100000
set_option maxHeartbeats 4000000
def wayGet (mn mx:Int) (ss:List StepT) (ws:List WinT) (a b:Int):Option WayT:=bif givF mn mx ss ws [a,b] then getI (waysF mn ss a) none b.toNat else none
theorem giv_facts {mn mx:Int} {ss:List StepT} {ws:List WinT} {a b:Int} (h:givF mn mx ss ws [a,b]=true):validF mn mx ss ws=true∧(0≤a∧a < ss.length)∧(0≤b∧b < ss.length):=by
  unfold givF at h
  rw [Bool.and_eq_true,Bool.not_eq_true',List.any_eq_false] at h
  have h1:=h.2 a (by simp)
  have h2:=h.2 b (by simp)
  unfold badN at h1 h2
  simp only [Bool.or_eq_true,decide_eq_true_eq,not_or] at h1 h2
  exact ⟨h.1,by omega,by omega⟩
def wayS:Spec:=⟨true,fun args rows=>match args,rows with
  | [.agg [.int .i64 mn,.int .i64 mx,.sl (.pair (.int .i64) (.pair (.slice (.int .i64)) (.pair (.int .i64) (.pair (.int .i64) (.pair (.slice (.int .i64)) (.pair (.int .i64) (.int .i64))))))) ss,.sl (.pair (.int .i64) (.pair (.int .i64) (.int .i64))) ws],.int .i64 a,.int .i64 b],[] =>
    some ⟨True,.tup [.sl tInt ((wayGet mn mx ss ws a b).getD w0).2,.bool (wayGet mn mx ss ws a b).isSome],[],true⟩
  | _,_=>none⟩
def quickS:Spec:=⟨true,fun args rows=>match args,rows with
  | [.agg [.int .i64 mn,.int .i64 mx,.sl (.pair (.int .i64) (.pair (.slice (.int .i64)) (.pair (.int .i64) (.pair (.int .i64) (.pair (.slice (.int .i64)) (.pair (.int .i64) (.int .i64))))))) ss,.sl (.pair (.int .i64) (.pair (.int .i64) (.int .i64))) ws],.int .i64 a,.int .i64 b],[] =>
    some ⟨True,.tup [.int .i64 ((wayGet mn mx ss ws a b).getD w0).1,.bool (wayGet mn mx ss ws a b).isSome],[],true⟩
  | _,_=>none⟩
def sigWay:List (Nat × Spec):=[(36,givS),(40,waysS),(33,Re.cloneIS)]
theorem sigWayOk:SigOk Try.prog (look sigWay):=sigCons (sigCons (sigCons sigNil
  Try.func33 (by kernel_rfl) (c:=body Try.f33) rfl Re.cloneIOk)
  Try.func40 (by kernel_rfl) (c:=body Try.f40) rfl waysOk)
  Try.func36 (by kernel_rfl) (c:=body Try.f36) rfl givOk
theorem wayOk':SpecSound Try.prog 25 wayS:=by
  refine soundR (envOf sigWayOk) Try.func25 (c:=body Try.f25) rfl (by kernel_rfl) rfl ?_
  intro args rows out hf hpre
  split at hf <;> try (cases hf;done)
  rename_i mn mx ss ws a b
  cases hf
  refine ⟨Nat.le_of_ble_eq_true rfl,initI (args:=[.agg [.int .i64 mn,.int .i64 mx,.sl tStep ss,.sl tWin ws],.int .i64 a,.int .i64 b]) (rows:=[]) rfl ?_⟩
  obtain ⟨r,hr⟩:∃ r,r=wayGet mn mx ss ws a b:=⟨_,rfl⟩
  rw [← hr]
  repeat' (first|with_reducible (first|apply pN|apply cN|apply bN|apply cE|apply cR|apply bR|apply lE|apply lR|apply jE|apply jR)|refine zE ?_|refine zP ?_|refine pD ?_|refine zS ?_|refine zR ?_|refine zO ?_|refine zB ?_|refine zX ?_|refine zT ?_|refine skipI rfl ?_)
  refine condI rfl (fun c1=>?_) (fun c1=>?_)
  · have c1:givF mn mx ss ws [a,b]=false:=by simpa using c1
    unfold wayGet at hr
    rw [c1] at hr
    rw [show r=none from hr]
    repeat' (first|with_reducible (first|apply pN|apply cN|apply bN|apply cE|apply cR|apply bR|apply lE|apply lR|apply jE|apply jR)|refine zE ?_|refine zP ?_|refine pD ?_|refine zS ?_|refine zR ?_|refine zO ?_|refine zB ?_|refine zX ?_|refine zT ?_|refine skipI rfl ?_)
    refine endR rfl ?_
    repeat' (first|exact trivial|exact rfl|refine ⟨rfl,?_⟩|refine And.intro ?_ ?_)
  · have c1:givF mn mx ss ws [a,b]=true:=by simpa using c1
    unfold wayGet at hr
    rw [c1] at hr
    have hr:r=getI (waysF mn ss a) (Ty.opt tWay).dflt b.toNat:=hr
    obtain ⟨hv,ha,hb⟩:=giv_facts c1
    have F:=flow_sm hv
    obtain ⟨hwl,hwo⟩:=waysF_ok F a
    repeat' (first|with_reducible (first|apply pN|apply cN|apply bN|apply cE|apply cR|apply bR|apply lE|apply lR|apply jE|apply jR)|refine zE ?_|refine zP ?_|refine pD ?_|refine pC (by first|exact ⟨hv,ha⟩|omega) ?_|refine zS ?_|refine zR ?_|refine zO ?_|refine zB ?_|refine zX ?_|refine zT ?_|refine skipI rfl ?_)
    simp only [← hr]
    refine condI rfl (fun c2=>?_) (fun c2=>?_)
    · cases r with
      | some w=>cases c2
      | none =>
        repeat' (first|with_reducible (first|apply pN|apply cN|apply bN|apply cE|apply cR|apply bR|apply lE|apply lR|apply jE|apply jR)|refine zE ?_|refine zP ?_|refine pD ?_|refine zS ?_|refine zR ?_|refine zO ?_|refine zB ?_|refine zX ?_|refine zT ?_|refine skipI rfl ?_)
        refine endR rfl ?_
        repeat' (first|exact trivial|exact rfl|refine ⟨rfl,?_⟩|refine And.intro ?_ ?_)
    · cases r with
      | none=>cases c2
      | some w =>
        have hok:=(getD_ok hwo b.toNat).2
        rw [show getI (waysF mn ss a) none b.toNat=some w from hr.symm] at hok
        have hok:w.2.length≤41:=hok
        repeat' (first|with_reducible (first|apply pN|apply cN|apply bN|apply cE|apply cR|apply bR|apply lE|apply lR|apply jE|apply jR)|refine zE ?_|refine zP ?_|refine zS ?_|refine zO ?_|refine zB ?_|refine zX ?_|refine zT ?_|refine skipI rfl ?_)
        refine zR ?_
        repeat' (first|with_reducible refine pN ?_|refine pD ?_|refine pC (by first|exact rfl|(show List.length (α:=Int) w.2 * 8≤_;omega)) ?_)
        repeat with_reducible refine cN ?_
        refine freezeI 27 rfl ?_
        repeat' (first|with_reducible (first|apply pN|apply cN|apply bN|apply cE|apply cR|apply bR|apply lE|apply lR|apply jE|apply jR)|refine zE ?_|refine zP ?_|refine pD ?_|refine zS ?_|refine zR ?_|refine zO ?_|refine zB ?_|refine zX ?_|refine zT ?_|refine skipI rfl ?_)
        refine endR rfl ?_
        repeat' (first|exact trivial|exact rfl|refine ⟨rfl,?_⟩|refine And.intro ?_ ?_)
theorem quickOk:SpecSound Try.prog 57 quickS:=by
  refine soundR (envOf sigWayOk) Try.func57 (c:=body Try.f57) rfl (by kernel_rfl) rfl ?_
  intro args rows out hf hpre
  split at hf <;> try (cases hf;done)
  rename_i mn mx ss ws a b
  cases hf
  refine ⟨Nat.le_of_ble_eq_true rfl,initI (args:=[.agg [.int .i64 mn,.int .i64 mx,.sl tStep ss,.sl tWin ws],.int .i64 a,.int .i64 b]) (rows:=[]) rfl ?_⟩
  obtain ⟨r,hr⟩:∃ r,r=wayGet mn mx ss ws a b:=⟨_,rfl⟩
  rw [← hr]
  repeat' (first|with_reducible (first|apply pN|apply cN|apply bN|apply cE|apply cR|apply bR|apply lE|apply lR|apply jE|apply jR)|refine zE ?_|refine zP ?_|refine pD ?_|refine zS ?_|refine zR ?_|refine zO ?_|refine zB ?_|refine zX ?_|refine zT ?_|refine skipI rfl ?_)
  refine condI rfl (fun c1=>?_) (fun c1=>?_)
  · have c1:givF mn mx ss ws [a,b]=false:=by simpa using c1
    unfold wayGet at hr
    rw [c1] at hr
    rw [show r=none from hr]
    repeat' (first|with_reducible (first|apply pN|apply cN|apply bN|apply cE|apply cR|apply bR|apply lE|apply lR|apply jE|apply jR)|refine zE ?_|refine zP ?_|refine pD ?_|refine zS ?_|refine zR ?_|refine zO ?_|refine zB ?_|refine zX ?_|refine zT ?_|refine skipI rfl ?_)
    refine endR rfl ?_
    repeat' (first|exact trivial|exact rfl|refine ⟨rfl,?_⟩|refine And.intro ?_ ?_)
  · have c1:givF mn mx ss ws [a,b]=true:=by simpa using c1
    unfold wayGet at hr
    rw [c1] at hr
    have hr:r=getI (waysF mn ss a) (Ty.opt tWay).dflt b.toNat:=hr
    obtain ⟨hv,ha,hb⟩:=giv_facts c1
    have F:=flow_sm hv
    obtain ⟨hwl,hwo⟩:=waysF_ok F a
    repeat' (first|with_reducible (first|apply pN|apply cN|apply bN|apply cE|apply cR|apply bR|apply lE|apply lR|apply jE|apply jR)|refine zE ?_|refine zP ?_|refine pD ?_|refine pC (by first|exact ⟨hv,ha⟩|omega) ?_|refine zS ?_|refine zR ?_|refine zO ?_|refine zB ?_|refine zX ?_|refine zT ?_|refine skipI rfl ?_)
    simp only [← hr]
    refine condI rfl (fun c2=>?_) (fun c2=>?_)
    · cases r with
      | some w=>cases c2
      | none =>
        repeat' (first|with_reducible (first|apply pN|apply cN|apply bN|apply cE|apply cR|apply bR|apply lE|apply lR|apply jE|apply jR)|refine zE ?_|refine zP ?_|refine pD ?_|refine zS ?_|refine zR ?_|refine zO ?_|refine zB ?_|refine zX ?_|refine zT ?_|refine skipI rfl ?_)
        refine endR rfl ?_
        repeat' (first|exact trivial|exact rfl|refine ⟨rfl,?_⟩|refine And.intro ?_ ?_)
    · cases r with
      | none=>cases c2
      | some w =>
        repeat' (first|with_reducible (first|apply pN|apply cN|apply bN|apply cE|apply cR|apply bR|apply lE|apply lR|apply jE|apply jR)|refine zE ?_|refine zP ?_|refine pD ?_|refine pC (by exact rfl) ?_|refine zS ?_|refine zR ?_|refine zO ?_|refine zB ?_|refine zX ?_|refine zT ?_|refine skipI rfl ?_)
        refine endR rfl ?_
        repeat' (first|exact trivial|exact rfl|refine ⟨rfl,?_⟩|refine And.intro ?_ ?_)
end Go.AM.Ytdohkcddjoammaa.Fl
end
