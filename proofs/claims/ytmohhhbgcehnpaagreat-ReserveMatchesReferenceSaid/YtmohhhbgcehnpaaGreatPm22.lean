/- CaT, CaU, PlBase, PlA, PlB, PlC, PlD, PlE. -/
import Derived.Test.YtmohhhbgcehnpaaGreatPm17
import Derived.Test.YtmohhhbgcehnpaaGreatPm18
import Derived.Test.YtmohhhbgcehnpaaGreatPm21
import Derived.Test.YtmohhhbgcehnpaaGreatPm14

section
set_option linter.all false
namespace Go.AM.YtmohhhbgcehnpaaGreat
open Go.Proofs
def tlB (b:Bk.El):Int:=b.1
def stB (b:Bk.El):Int:=b.2.1
def enB (b:Bk.El):Int:=b.2.2.1
def owB (b:Bk.El):Int:=b.2.2.2
structure GoodB (b:Bk.El):Prop where
 t0:0≤tlB b
 t1:tlB b < 60
 s0:0≤stB b
 se:stB b < enB b
 e1:enB b≤1000000
 o0:1≤owB b
 o1:owB b≤1000000
theorem validB_iff (b:Bk.El):validB b.1 b.2.1 b.2.2.1 b.2.2.2=true↔GoodB b:=by
 unfold validB toolB
 simp only [Bool.and_eq_true,decide_eq_true_eq]
 constructor
 ·rintro ⟨⟨⟨⟨⟨h1,h2⟩,h3⟩,h4,h5⟩,h6⟩,h7⟩
  exact ⟨h4,h5,h1,h2,h3,h6,h7⟩
 ·rintro ⟨h4,h5,h1,h2,h3,h6,h7⟩
  exact ⟨⟨⟨⟨⟨h1,h2⟩,h3⟩,h4,h5⟩,h6⟩,h7⟩
def meet (a b:Bk.El):Prop:=stB a < enB b∧stB b < enB a
structure GoodL (t:Nat) (l:List Bk.El):Prop where
 all:∀ b∈l,GoodB b∧tlB b=t
 ord:l.Pairwise fun a b=>enB a≤stB b
theorem GoodL.sorted {t:Nat} {l:List Bk.El} (h:GoodL t l):SortedB l:=fun i j hij hj=>by
 have:=List.pairwise_iff_getElem.1 h.ord i j (by omega) hj hij
 have h1:=(h.all l[i] (List.getElem_mem _)).1.se
 show startB (getI l Bk.dflt i)≤startB (getI l Bk.dflt j)
 have e1:getI l Bk.dflt i=l[i]:=by simp [getI,List.getD,List.getElem?_eq_getElem (show i < l.length by omega)]
 have e2:getI l Bk.dflt j=l[j]:=by simp [getI,List.getD,List.getElem?_eq_getElem hj]
 rw [e1,e2]
 show stB l[i]≤stB l[j]
 omega
theorem nil_good (t:Nat):GoodL t []:=⟨by simp,List.Pairwise.nil⟩
theorem pos_split {t:Nat} {l:List Bk.El} (h:GoodL t l) (s:Int):(∀ c∈l.take (posF l s),stB c < s)∧(∀ c∈l.drop (posF l s),s≤stB c):=by
 have hp:l.take (posF l s)=l.takeWhile (fun b=>decide (startB b < s)):=by
  have:=List.takeWhile_prefix (p:=fun b=>decide (startB b < s)) (l:=l)
  unfold posF
  exact (List.prefix_iff_eq_take.1 this).symm
 have hd:l.drop (posF l s)=l.dropWhile (fun b=>decide (startB b < s)):=by
  have h1:=List.takeWhile_append_dropWhile (p:=fun b=>decide (startB b < s)) (l:=l)
  have h2:=List.take_append_drop (posF l s) l
  rw [← hp] at h1
  exact List.append_cancel_left (h2.trans h1.symm)
 refine ⟨fun c hc=>?_,fun c hc=>?_⟩
 ·rw [hp] at hc
  have:∀ {m:List Bk.El} {c:Bk.El},c∈m.takeWhile (fun b=>decide (startB b < s))→startB c < s:=by
   intro m
   induction m with
   | nil=>intro c hc;simp at hc
   | cons x m ih =>
     intro c hc
     by_cases hx:startB x < s
     ·rw [List.takeWhile_cons_of_pos (by simpa using hx)] at hc
      rcases List.mem_cons.1 hc with rfl|hc
      ·exact hx
      ·exact ih hc
     ·rw [List.takeWhile_cons_of_neg (by simpa using hx)] at hc;simp at hc
  exact this hc
 ·have hsub:(l.drop (posF l s)).Pairwise fun a b=>enB a≤stB b:=h.ord.sublist (List.drop_sublist _ _)
  have hall:∀ b∈l.drop (posF l s),GoodB b:=fun b hb=>(h.all b (List.mem_of_mem_drop hb)).1
  rw [hd] at hsub hall hc
  generalize hm:l.dropWhile (fun b=>decide (startB b < s))=m at hsub hall hc
  cases m with
  | nil=>simp at hc
  | cons x m =>
    have hx:¬ startB x < s:=by
     have:=List.head_dropWhile_not (fun b=>decide (startB b < s)) (l:=l) (by rw [hm];simp)
     simp only [hm,List.head_cons] at this
     simpa using this
    have hx:s≤stB x:=by have:¬ stB x < s:=hx;omega
    rcases List.mem_cons.1 hc with rfl|hc
    ·exact hx
    ·have h1:=(List.pairwise_cons.1 hsub).1 c hc
     have h2:=(hall x (by simp)).se
     omega
theorem add_good {t:Nat} {l:List Bk.El} {b:Bk.El} (h:GoodL t l) (hb:GoodB b) (ht:tlB b=t) (hn:∀ c∈l,¬ meet c b) :
 GoodL t (addF l b)∧(∀ c,c∈addF l b↔c=b∨c∈l)∧(addF l b).length=l.length+1:=by
 obtain ⟨h1,h2⟩:=pos_split h (startB b)
 have e:addF l b=l.take (posF l (startB b))++[b]++l.drop (posF l (startB b)):=by unfold addF insF;simp
 have hmem:∀ c,c∈addF l b↔c=b∨c∈l:=fun c=>by
  rw [e]
  conv=>rhs;rw [← List.take_append_drop (posF l (startB b)) l]
  simp only [List.mem_append,List.mem_singleton]
  constructor
  ·rintro ((h|h)|h)
   ·exact .inr (.inl h)
   ·exact .inl h
   ·exact .inr (.inr h)
  ·rintro (h|h|h)
   ·exact .inl (.inr h)
   ·exact .inl (.inl h)
   ·exact .inr h
 refine ⟨⟨fun c hc=>?_,?_⟩,hmem,?_⟩
 ·rcases (hmem c).1 hc with rfl|hc
  ·exact ⟨hb,ht⟩
  ·exact h.all c hc
 ·rw [e,List.append_assoc]
  have hbe:=hb.se
  have hleft:∀ c∈l.take (posF l (startB b)),enB c≤stB b:=fun c hc=>by
   have h3:stB c < stB b:=h1 c hc
   have h4:=hn c (List.mem_of_mem_take hc)
   have h5:¬ stB b < enB c:=fun h6=>h4 ⟨by omega,h6⟩
   omega
  have hright:∀ c∈l.drop (posF l (startB b)),enB b≤stB c:=fun c hc=>by
   have h3:stB b≤stB c:=h2 c hc
   have hcm:=List.mem_of_mem_drop hc
   have h4:=hn c hcm
   have h6:=(h.all c hcm).1.se
   have h5:¬ stB c < enB b:=fun h7=>h4 ⟨h7,by omega⟩
   omega
  refine List.pairwise_append.2 ⟨h.ord.sublist (List.take_sublist _ _),List.pairwise_cons.2 ⟨hright,h.ord.sublist (List.drop_sublist _ _)⟩,fun a ha c hc=>?_⟩
  rcases List.mem_cons.1 hc with rfl|hc
  ·exact hleft a ha
  ·have h3:=hleft a ha
   have h4:=hright c hc
   omega
 ·rw [e]
  have:=congrArg List.length (List.take_append_drop (posF l (startB b)) l)
  simp only [List.length_append,List.length_cons,List.length_nil] at this ⊢
  omega
theorem filter_good {t:Nat} {l:List Bk.El} (h:GoodL t l) (p:Bk.El→Bool):GoodL t (l.filter p) :=
 ⟨fun b hb=>h.all b (List.mem_filter.1 hb).1,h.ord.sublist List.filter_sublist⟩
structure CalG (xss:List (List Bk.El)):Prop where
 len:xss.length=60
 each:∀ t,t < 60→GoodL t (getI xss [] t)
def inC (xss:List (List Bk.El)) (b:Bk.El):Prop:=b∈toolL xss (tlB b)
theorem noCal_good:CalG noCal:=⟨by simp [noCal],fun t ht=>by
 have:getI noCal [] t=[]:=by
  unfold getI noCal
  rw [List.getD_eq_getElem?_getD,List.getElem?_replicate]
  split <;> rfl
 rw [this];exact nil_good t⟩
theorem CalG.sorted {xss:List (List Bk.El)} (h:CalG xss):CalS xss:=fun xs hx=>by
 obtain ⟨i,hi,rfl⟩:=List.getElem_of_mem hx
 have:=(h.each i (by rw [← h.len];exact hi)).sorted
 rwa [show getI xss [] i=xss[i] by simp [getI,List.getD,List.getElem?_eq_getElem hi]] at this
theorem mem_len {xss:List (List Bk.El)} {xs:List Bk.El} (h:xs∈xss):xs.length≤lenF xss:=by
 induction xss with
 | nil=>simp at h
 | cons y r ih =>
   simp only [lenF,List.map_cons,List.sum_cons] at ih ⊢
   rcases List.mem_cons.1 h with rfl|h
   ·omega
   ·have:=ih h;omega
theorem CalG.cal {xss:List (List Bk.El)} (h:CalG xss) (hl:lenF xss≤1000000):Cal xss:=⟨h.len,fun xs hx=>Nat.le_trans (mem_len hx) hl⟩
theorem CalG.tool {xss:List (List Bk.El)} (h:CalG xss) {t:Int} (h0:0≤t) (h1:t < 60):GoodL t.toNat (toolL xss t):=h.each t.toNat (by omega)
theorem CalG.good {xss:List (List Bk.El)} (h:CalG xss) {b:Bk.El} (hb:inC xss b) (h0:0≤tlB b) (h1:tlB b < 60):GoodB b:=((h.tool h0 h1).all b hb).1
theorem lenF_set {xss:List (List Bk.El)} {l:List Bk.El}:∀ {i:Nat},i < xss.length→lenF (xss.set i l)+(getI xss [] i).length=lenF xss+l.length:=by
 induction xss with
 | nil=>intro i h;simp at h
 | cons x r ih =>
   intro i h
   cases i with
   | zero=>simp [lenF,getI];omega
   | succ i =>
     have:=ih (i:=i) (by simpa using h)
     simp only [lenF,getI,List.set_cons_succ,List.map_cons,List.sum_cons,List.getD_cons_succ] at this ⊢
     omega
theorem get_set_same {xss:List (List Bk.El)} {i:Nat} {l:List Bk.El} (h:i < xss.length):getI (xss.set i l) [] i=l:=by
 simp [getI,List.getD,h]
theorem get_set_other {xss:List (List Bk.El)} {i j:Nat} {l:List Bk.El} (h:i≠j):getI (xss.set i l) [] j=getI xss [] j:=by
 simp [getI,List.getD,List.getElem?_set_ne h]
theorem busy_iff {xss:List (List Bk.El)} {t s e:Int}:busyF xss t s e=true↔0≤t∧t < 60∧s < e∧∃ c∈toolL xss t,stB c < e∧s < enB c:=by
 unfold busyF
 simp only [Bool.and_eq_true,decide_eq_true_eq,List.any_eq_true]
 constructor
 ·rintro ⟨h1,h2,c,hc,h3⟩
  obtain ⟨h4,h5⟩:=toolB_true h1
  refine ⟨h4,h5,h2,c,hc,?_⟩
  simpa [meetE,meetB,stB,enB] using h3
 ·rintro ⟨h1,h2,h3,c,hc,h4⟩
  exact ⟨toolB_of h1 h2,h3,c,hc,by simpa [meetE,meetB,stB,enB] using h4⟩
theorem free_iff {xss:List (List Bk.El)} {b:Bk.El}:freeF xss b=true↔GoodB b∧∀ c∈toolL xss (tlB b),¬ meet c b:=by
 unfold freeF
 rw [Bool.and_eq_true,validB_iff]
 constructor
 ·rintro ⟨h1,h2⟩
  refine ⟨h1,fun c hc hm=>?_⟩
  have:busyF xss b.1 b.2.1 b.2.2.1=true:=busy_iff.2 ⟨h1.t0,h1.t1,h1.se,c,hc,hm⟩
  rw [this] at h2;cases h2
 ·rintro ⟨h1,h2⟩
  refine ⟨h1,?_⟩
  cases hb:busyF xss b.1 b.2.1 b.2.2.1
  ·rfl
  ·obtain ⟨_,_,_,c,hc,hm⟩:=busy_iff.1 hb
   exact absurd hm (h2 c hc)
theorem book_yes {xss:List (List Bk.El)} {b:Bk.El} (h:CalG xss) (hf:freeF xss b=true):CalG (bookF xss b)∧(∀ c,0≤tlB c→(inC (bookF xss b) c↔c=b∨inC xss c))∧lenF (bookF xss b)=lenF xss+1:=by
 obtain ⟨hg,hn⟩:=free_iff.1 hf
 have hlt:(tlB b).toNat < 60:=by have:=hg.t1;have:=hg.t0;omega
 have hltx:(tlB b).toNat < xss.length:=by rw [h.len];exact hlt
 obtain ⟨a1,a2,a3⟩:=add_good (h.tool hg.t0 hg.t1) hg (by have:=hg.t0;omega) hn
 have e:bookF xss b=xss.set (tlB b).toNat (addF (toolL xss (tlB b)) b):=by unfold bookF;rw [if_pos hf];rfl
 rw [e]
 refine ⟨⟨by simpa using h.len,fun t ht=>?_⟩,fun c hc=>?_,?_⟩
 ·by_cases hte:(tlB b).toNat=t
  ·subst hte
   rw [get_set_same hltx];exact a1
  ·rw [get_set_other hte];exact h.each t ht
 ·unfold inC toolL
  by_cases hte:(tlB b).toNat=(tlB c).toNat
  ·rw [← hte,get_set_same hltx];exact a2 c
  ·rw [get_set_other hte]
   constructor
   ·exact fun h=>.inr h
   ·rintro (rfl|h)
    ·exact absurd rfl hte
    ·exact h
 ·have:=lenF_set (l:=addF (toolL xss (tlB b)) b) hltx
  have e2:(getI xss [] (tlB b).toNat).length=(toolL xss (tlB b)).length:=rfl
  omega
theorem book_no {xss:List (List Bk.El)} {b:Bk.El} (hf:freeF xss b=false):bookF xss b=xss:=by unfold bookF;rw [if_neg (by rw [hf];simp)]
theorem book_good {xss:List (List Bk.El)} (h:CalG xss) (b:Bk.El):CalG (bookF xss b)∧lenF (bookF xss b)≤lenF xss+1:=by
 cases hf:freeF xss b
 ·rw [book_no hf];exact ⟨h,by omega⟩
 ·obtain ⟨h1,_,h2⟩:=book_yes h hf
  exact ⟨h1,by omega⟩
def bookAll (l:List Bk.El) (xss:List (List Bk.El)):List (List Bk.El):=l.foldl bookF xss
theorem bookAll_good {l:List Bk.El}:∀ {xss:List (List Bk.El)},CalG xss→CalG (bookAll l xss)∧lenF (bookAll l xss)≤lenF xss+l.length:=by
 induction l with
 | nil=>intro xss h;exact ⟨h,by simp [bookAll]⟩
 | cons b l ih =>
   intro xss h
   obtain ⟨h1,h2⟩:=book_good h b
   obtain ⟨h3,h4⟩:=ih h1
   exact ⟨h3,by simp only [bookAll,List.foldl_cons,List.length_cons] at h4 ⊢;omega⟩
theorem bookAll_append (l m:List Bk.El) (xss:List (List Bk.El)):bookAll (l++m) xss=bookAll m (bookAll l xss):=by unfold bookAll;rw [List.foldl_append]
theorem lenF_no:lenF noCal=0:=by simp [lenF,noCal]
theorem wrap64_id {n:Int} (h:-9223372036854775808≤n) (k:n < 9223372036854775808):RowKit.wrap64 n=n:=by unfold RowKit.wrap64;omega
theorem gaps_spec {t:Nat}:∀ {l:List Bk.El} {f:Int},GoodL t l→0≤f→∀ g∈gapsL l f,f≤g.1∧g.1 < g.2∧g.2≤1000000∧∀ c∈l,enB c≤g.1∨g.2≤stB c
 | [],f,_,_,g,hg=>by
   unfold gapsL at hg
   split at hg
   ·rw [List.mem_singleton.1 hg];exact ⟨Int.le_refl _,by omega,Int.le_refl _,by simp⟩
   ·cases hg
 | b::l,f,h,hf,g,hg=>by
   have hl:GoodL t l:=⟨fun c hc=>h.all c (by simp [hc]),(List.pairwise_cons.1 h.ord).2⟩
   have hb:=(h.all b (by simp)).1
   have h1:=(List.pairwise_cons.1 h.ord).1
   unfold gapsL at hg
   rcases List.mem_append.1 hg with hg|hg
   ·split at hg
    ·rename_i hlt
     have hlt:f < stB b:=hlt
     rw [List.mem_singleton.1 hg]
     have e1:=hb.e1
     have se:=hb.se
     refine ⟨Int.le_refl _,hlt,by show stB b≤1000000;omega,fun c hc=>.inr ?_⟩
     show stB b≤stB c
     rcases List.mem_cons.1 hc with rfl|hc
     ·exact Int.le_refl _
     ·have:=h1 c hc;omega
    ·cases hg
   ·have hmx:f≤max f (enB b)∧enB b≤max f (enB b):=⟨Int.le_max_left _ _,Int.le_max_right _ _⟩
    obtain ⟨a1,a2,a3,a4⟩:=gaps_spec hl (f:=max f (enB b)) (by omega) g hg
    refine ⟨by omega,a2,a3,fun c hc=>?_⟩
    rcases List.mem_cons.1 hc with rfl|hc
    ·exact .inl (by omega)
    ·exact a4 c hc
theorem long_iff {t:Nat} {l:List Bk.El} {f ln:Int} (h:GoodL t l) (hf:0≤f):∀ g∈gapsL l f,(longB ln g=true↔ln≤g.2 - g.1):=fun g hg=>by
 obtain ⟨a1,a2,a3,_⟩:=gaps_spec h hf g hg
 unfold longB
 rw [wrap64_id (by omega) (by omega)]
 simp
theorem gaps_cover {t:Nat}:∀ {l:List Bk.El} {f s ln:Int},GoodL t l→0≤f→f≤s→1≤ln→s+ln≤1000000→(∀ c∈l,¬ (stB c < s+ln∧s < enB c))→∃ g∈gapsL l f,g.1≤s∧s+ln≤g.2
 | [],f,s,ln,_,_,hs,hl,he,_=>⟨(f,1000000),by unfold gapsL;rw [if_pos (by omega)];simp,hs,he⟩
 | b::l,f,s,ln,h,hf,hs,hl,he,hn=>by
   have hl':GoodL t l:=⟨fun c hc=>h.all c (by simp [hc]),(List.pairwise_cons.1 h.ord).2⟩
   have hb:=(h.all b (by simp)).1
   have hbe:=hb.se
   have hnb:=hn b (by simp)
   have hor:s+ln≤stB b∨enB b≤s:=by
    rcases Int.lt_or_le (stB b) (s+ln) with h1|h1
    ·exact .inr (by rcases Int.lt_or_le s (enB b) with h2|h2;exact absurd ⟨h1,h2⟩ hnb;exact h2)
    ·exact .inl h1
   rcases hor with h1|h1
   ·refine ⟨(f,stB b),?_,hs,h1⟩
    unfold gapsL
    have:f < b.2.1:=by show f < stB b;omega
    rw [if_pos this]
    simp [stB]
   ·obtain ⟨g,hg,h2,h3⟩:=gaps_cover (l:=l) (f:=max f (enB b)) (s:=s) (ln:=ln) hl' (by have:=Int.le_max_left f (enB b);omega) (by rcases Int.le_total f (enB b) with h4|h4;rw [Int.max_eq_right h4];exact h1;rw [Int.max_eq_left h4];exact hs) hl he (fun c hc=>hn c (by simp [hc]))
    exact ⟨g,by unfold gapsL;exact List.mem_append.2 (.inr hg),h2,h3⟩
theorem gaps_sorted {t:Nat}:∀ {l:List Bk.El} {f:Int},GoodL t l→0≤f→(gapsL l f).Pairwise fun a b=>a.2≤b.1
 | [],f,_,_=>by unfold gapsL;split <;> simp
 | b::l,f,h,hf=>by
   have hl:GoodL t l:=⟨fun c hc=>h.all c (by simp [hc]),(List.pairwise_cons.1 h.ord).2⟩
   have hb:=(h.all b (by simp)).1.se
   have hmx:f≤max f (enB b)∧enB b≤max f (enB b):=⟨Int.le_max_left _ _,Int.le_max_right _ _⟩
   unfold gapsL
   refine List.pairwise_append.2 ⟨by split <;> simp,gaps_sorted hl (by show 0≤max f (enB b);omega),fun a ha g hg=>?_⟩
   split at ha
   ·rw [List.mem_singleton.1 ha]
    have:=(gaps_spec hl (f:=max f (enB b)) (by omega) g hg).1
    show stB b≤g.1
    omega
   ·cases ha
theorem first_yes {t:Nat} {l:List Bk.El} {f ln a:Int} (h:GoodL t l) (hf:0≤f) (hl:1≤ln) (hr:firstG (gapsL l f) ln=(a,true)) :
 f≤a∧a+ln≤1000000∧(∀ c∈l,¬ (stB c < a+ln∧a < enB c))∧∀ s,f≤s→s < a→∃ c∈l,stB c < s+ln∧s < enB c:=by
 unfold firstG at hr
 split at hr
 ·rename_i g hg
  have hmem:=List.mem_of_find?_eq_some hg
  have hlong:=(long_iff (ln:=ln) h hf g hmem).1 (List.find?_some hg)
  obtain ⟨a1,a2,a3,a4⟩:=gaps_spec h hf g hmem
  have ea:g.1=a:=by injection hr
  subst ea
  refine ⟨a1,by omega,fun c hc hm=>?_,fun s hs hsa=>?_⟩
  ·rcases a4 c hc with h1|h1 <;> omega
  ·apply Classical.byContradiction
   intro hno
   obtain ⟨g',hg',h2,h3⟩:=gaps_cover (s:=s) (ln:=ln) h hf hs hl (by omega) (fun c hc hm=>hno ⟨c,hc,hm⟩)
   obtain ⟨p,q,hpq,hpn⟩:=List.find?_eq_some_iff_append.1 hg |>.2
   have hl':longB ln g'=true:=(long_iff (ln:=ln) h hf g' hg').2 (by omega)
   have hgs:=gaps_sorted h hf
   rw [hpq] at hg' hgs
   rcases List.mem_append.1 hg' with h4|h4
   ·have:=hpn g' h4
    rw [hl'] at this;cases this
   ·rcases List.mem_cons.1 h4 with rfl|h4
    ·omega
    ·have h5:=(List.pairwise_cons.1 (List.pairwise_append.1 hgs).2.1).1 g' h4
     omega
 ·injection hr with _ hr;cases hr
end Go.AM.YtmohhhbgcehnpaaGreat
end

section
set_option linter.all false
namespace Go.AM.YtmohhhbgcehnpaaGreat
open Go.Proofs
set_option maxRecDepth 100000
set_option maxHeartbeats 4000000
theorem bookAll_ok (l:List Bk.El) (h:l.length≤1000):CalG (bookAll l noCal)∧Cal (bookAll l noCal)∧CalS (bookAll l noCal):=by
 obtain ⟨h1,h2⟩:=bookAll_good (l:=l) noCal_good
 rw [lenF_no] at h2
 exact ⟨h1,h1.cal (by omega),h1.sorted⟩
theorem bookAll_take {l:List Bk.El} {i:Nat} (h:i < l.length) (xss:List (List Bk.El)):bookAll (l.take (i+1)) xss=bookF (bookAll (l.take i) xss) (getI l Bk.dflt i):=by
 rw [take_succ_getI (d:=Bk.dflt) h,bookAll_append];rfl
def bookedS:Spec:=plain fun
 | [.sl (.pair (.int .i64) (.pair (.int .i64) (.pair (.int .i64) (.int .i64)))) l]=>some ⟨l.length≤1000,.ptr 0 0,[.arr Bk (bookAll l noCal) none],false⟩
 | _=>none
theorem freed_good {xss:List (List Bk.El)} (h:CalG xss) (o:Int):CalG (freedF xss o):=⟨by unfold freedF;rw [List.length_map];exact h.len,fun t ht=>by
 have e:getI (freedF xss o) [] t=delF (getI xss [] t) o:=by
  have ht':t < xss.length:=by rw [h.len];exact ht
  unfold freedF getI
  rw [List.getD_eq_getElem?_getD,List.getD_eq_getElem?_getD,List.getElem?_map,List.getElem?_eq_getElem ht']
  rfl
 rw [e];exact filter_good (h.each t ht) _⟩
def saneS:Spec:=plain fun
 | []=>outV True (.bool true)
 | _=>none
end Go.AM.YtmohhhbgcehnpaaGreat
end

section
set_option linter.all false
namespace Go.AM.YtmohhhbgcehnpaaGreat.Pl
open Go.Proofs
abbrev tStage:Ty:=.pair (.int .i64) (.pair (.int .i64) (.pair (.pair (.int .i64) (.int .i64)) (.pair (.int .i64) (.int .i64))))
abbrev tWin:Ty:=.pair (.int .i64) (.pair (.int .i64) (.int .i64))
abbrev tVisit:Ty:=.pair (.int .i64) (.pair (.int .i64) (.pair (.int .i64) (.int .i64)))
abbrev tBook:Ty:=.pair (.int .i64) (.pair (.int .i64) (.pair (.int .i64) (.int .i64)))
abbrev tSix:Ty:=.pair (.int .i64) (.pair (.int .i64) (.pair (.int .i64) (.pair (.int .i64) (.pair (.int .i64) (.int .i64)))))
abbrev tTwo:Ty:=.pair (.int .i64) (.int .i64)
end Go.AM.YtmohhhbgcehnpaaGreat.Pl
end

section
set_option linter.all false
namespace Go.AM.YtmohhhbgcehnpaaGreat.Pl
open Go.Proofs
set_option maxRecDepth 100000
set_option maxHeartbeats 4000000
def withinF (n lo hi:Int):Bool:=decide (lo≤n)&&decide (n≤hi)
def withinS:Spec:=plain fun
 | [.int .i64 n,.int .i64 lo,.int .i64 hi]=>outV True (.bool (withinF n lo hi))
 | _=>none
theorem withinOk:SpecSound Tryz.prog 77 withinS:=by
 refine sound0 sigNil Tryz.func77 (c:=body Tryz.f77) rfl (by kernel_rfl) ?_
 intro args out hf hpre
 split at hf <;> try (cases hf;done)
 cases hf
 refine ⟨Nat.le_of_ble_eq_true rfl,?_⟩
 conv=>whnf
 exact ⟨[],_,rfl,rfl,rfl,trivial,rfl,rfl,rfl,fun _=>⟨rfl,rfl,rfl⟩⟩
def noneS:Spec:=plain fun
 | []=>outV True (.agg [.int .i64 (-1),.int .i64 0])
 | _=>none
theorem noneOk:SpecSound Tryz.prog 78 noneS:=by
 refine sound0 sigNil Tryz.func78 (c:=body Tryz.f78) rfl (by kernel_rfl) ?_
 intro args out hf hpre
 split at hf <;> try (cases hf;done)
 cases hf
 refine ⟨Nat.le_of_ble_eq_true rfl,?_⟩
 conv=>whnf
 exact ⟨[],_,rfl,rfl,aI rfl (aI rfl trivial),trivial,rfl,rfl,rfl,fun _=>⟨rfl,rfl,rfl⟩⟩
def pickF (c n:Int):Int:=(if c < 0 then -(c+1) else c) % n
def sigW:List (Nat × Spec):=[(77,withinS)]
theorem sigWOk:SigOk Tryz.prog (look sigW):=sigCons sigNil Tryz.func77 (by kernel_rfl) (c:=body Tryz.f77) rfl withinOk
def isSlotF (tool start dur:Int):Bool:=withinF tool 0 59&&withinF start 0 (1000000 - dur)
def isSlotS:Spec:=plain fun
 | [.agg [.int .i64 tool,.int .i64 start],.int .i64 dur]=>outV (Sm dur) (.bool (isSlotF tool start dur))
 | _=>none
theorem isSlotOk:SpecSound Tryz.prog 120 isSlotS:=by
 refine sound0 sigWOk Tryz.func120 (c:=body Tryz.f120) rfl (by kernel_rfl) ?_
 intro args out hf hpre
 split at hf <;> try (cases hf;done)
 rename_i tool start dur
 cases hf
 refine ⟨Nat.le_of_ble_eq_true rfl,?_⟩
 obtain ⟨h1,h2⟩:=hpre
 conv=>whnf
 refine aI trivial ?_
 conv=>whnf
 refine aI ?_ ?_
 ·conv=>whnf
  intro _;trivial
 conv=>whnf
 refine ⟨[],_,rfl,rfl,eBool ?_,trivial,rfl,rfl,rfl,fun _=>⟨rfl,rfl,rfl⟩⟩
 simp (disch:=omega) only [wrapId]
 rfl
def sigT:List (Nat × Spec):=[(120,isSlotS),(77,withinS)]
theorem sigTOk:SigOk Tryz.prog (look sigT):=sigCons sigWOk Tryz.func120 (by kernel_rfl) (c:=body Tryz.f120) rfl isSlotOk
def isStageF (mn mx mt ms st ss:Int):Bool:=withinF mn 1 mx&&decide (mx≤10000)&&isSlotF mt ms mx&&isSlotF st ss mx&&decide (mt≠st)
def isStageS:Spec:=plain fun
 | [.agg [.int .i64 mn,.int .i64 mx,.int .i64 mt,.int .i64 ms,.int .i64 st,.int .i64 ss]]=>outV True (.bool (isStageF mn mx mt ms st ss))
 | _=>none
theorem isStageOk:SpecSound Tryz.prog 86 isStageS:=by
 refine sound0 sigTOk Tryz.func86 (c:=body Tryz.f86) rfl (by kernel_rfl) ?_
 intro args out hf hpre
 split at hf <;> try (cases hf;done)
 rename_i mn mx mt ms st ss
 cases hf
 refine ⟨Nat.le_of_ble_eq_true rfl,?_⟩
 conv=>whnf
 refine aI trivial ?_
 conv=>whnf
 refine bI (fun c1=>?_) (fun c1=>?_)
 ·conv=>whnf
  refine ⟨[],_,rfl,rfl,eBool ?_,trivial,rfl,rfl,rfl,fun _=>⟨rfl,rfl,rfl⟩⟩
  simp only [Bool.or_eq_true,Bool.not_eq_true',decide_eq_true_eq] at c1
  unfold isStageF
  rcases c1 with c1|c1
  ·simp [c1]
  ·have:decide (mx≤10000)=false:=by simp;omega
   simp [this]
 ·simp only [Bool.or_eq_false_iff,Bool.not_eq_false',decide_eq_false_iff_not] at c1
  obtain ⟨c1,c2⟩:=c1
  have c3:=c1
  unfold withinF at c3
  simp only [Bool.and_eq_true,decide_eq_true_eq] at c3
  have hs:Sm mx:=by unfold Sm;omega
  conv=>whnf
  refine aI hs ?_
  conv=>whnf
  refine aI ?_ ?_
  ·conv=>whnf
   intro _;exact hs
  conv=>whnf
  refine ⟨[],_,rfl,rfl,eBool ?_,trivial,rfl,rfl,rfl,fun _=>⟨rfl,rfl,rfl⟩⟩
  unfold isStageF
  rw [c1]
  have:decide (mx≤10000)=true:=by simp;omega
  rw [this]
  rfl
end Go.AM.YtmohhhbgcehnpaaGreat.Pl
end

section
set_option linter.all false
namespace Go.AM.YtmohhhbgcehnpaaGreat.Pl
open Go.Proofs
set_option maxRecDepth 100000
set_option maxHeartbeats 4000000
def sigStage:List (Nat × Spec):=[(86,isStageS),(120,isSlotS),(77,withinS)]
theorem sigStageOk:SigOk Tryz.prog (look sigStage):=sigCons sigTOk Tryz.func86 (by kernel_rfl) (c:=body Tryz.f86) rfl isStageOk
def badS:Spec:=plain fun
 | [.agg [.int .i64 mn,.int .i64 mx,.int .i64 mt,.int .i64 ms,.int .i64 st,.int .i64 ss]]=>outV True (.bool (!isStageF mn mx mt ms st ss))
 | _=>none
theorem badOk:SpecSound Tryz.prog 85 badS:=by
 refine sound0 sigStageOk Tryz.func85 (c:=body Tryz.f85) rfl (by kernel_rfl) ?_
 intro args out hf hpre
 split at hf <;> try (cases hf;done)
 rename_i mn mx mt ms st ss
 cases hf
 refine ⟨Nat.le_of_ble_eq_true rfl,?_⟩
 conv=>whnf
 refine aI trivial ?_
 conv=>whnf
 exact ⟨[],_,rfl,rfl,rfl,trivial,rfl,rfl,rfl,fun _=>⟨rfl,rfl,rfl⟩⟩
def sigBad:List (Nat × Spec):=[(85,badS)]
theorem sigBadOk:SigOk Tryz.prog (look sigBad):=sigCons sigNil Tryz.func85 (by kernel_rfl) (c:=body Tryz.f85) rfl badOk
def badSt (s:tStage.El):Bool:=!isStageF s.1 s.2.1 s.2.2.1.1 s.2.2.1.2 s.2.2.2.1 s.2.2.2.2
def idxStS:Spec:=plain fun
 | [.sl (.pair (.int .i64) (.pair (.int .i64) (.pair (.pair (.int .i64) (.int .i64)) (.pair (.int .i64) (.int .i64))))) xs,.fn 85 [] []]=>outV (xs.length≤1000000000000) (.int .i64 (idxF badSt xs))
 | _=>none
theorem idxStOk:SpecSound Tryz.prog 119 idxStS:=by
 refine sound0 sigBadOk Tryz.func119 (c:=body Tryz.f119) rfl (by kernel_rfl) ?_
 intro args out hf hpre
 split at hf <;> try (cases hf;done)
 rename_i xs
 cases hf
 change xs.length≤1000000000000 at hpre
 refine ⟨Nat.le_of_ble_eq_true rfl,?_⟩
 conv=>whnf
 refine ⟨Nat,fun i=>⟨19,[(0,⟨[],.sl tStage xs⟩),(1,⟨[],.fn 85 [] []⟩),(7,⟨[],.int .i64 xs.length⟩),(8,⟨[],.int .i64 i⟩)],[],[],[]⟩,
  fun i=>i≤xs.length∧∀ j,j < i→badSt (getI xs tStage.dflt j)=false,fun i=>xs.length - i,0,⟨by omega,fun j hj=>by omega⟩,.same ⟨rfl,rfl,rfl,⟨rfl,rfl,rfl,rfl,trivial⟩,trivial,rfl,rfl,rfl⟩,?_⟩
 intro i ⟨hi,hb⟩
 conv=>whnf
 refine bI (fun c1=>?_) (fun c1=>?_)
 ·simp only [decide_eq_true_eq] at c1
  conv=>whnf
  refine aI (by omega) ?_
  conv=>whnf
  refine aI (by omega) ?_
  conv=>whnf
  refine aI trivial ?_
  conv=>whnf
  refine bI (fun c2=>?_) (fun c2=>?_)
  ·conv=>whnf
   refine ⟨[],_,rfl,rfl,eInt ?_,trivial,rfl,rfl,rfl,fun _=>⟨rfl,rfl,rfl⟩⟩
   exact idxF_found (d:=tStage.dflt) (by omega) hb c2
  ·conv=>whnf
   refine ⟨i+1,⟨by omega,fun j hj=>?_⟩,(by show xs.length - (i+1) < xs.length - i;omega),.same ⟨rfl,rfl,rfl,⟨rfl,rfl,rfl,slotInt rfl (wrapEq (by omega) (by omega) (by omega)),trivial⟩,trivial,rfl,rfl,rfl⟩⟩
   by_cases hji:j=i
   ·subst hji;exact c2
   ·exact hb j (by omega)
 ·simp only [decide_eq_false_iff_not] at c1
  conv=>whnf
  refine ⟨[],_,rfl,rfl,eInt ?_,trivial,rfl,rfl,rfl,fun _=>⟨rfl,rfl,rfl⟩⟩
  exact idxF_none (d:=tStage.dflt) fun j hj=>hb j (by omega)
def sigIdxSt:List (Nat × Spec):=[(119,idxStS)]
theorem sigIdxStOk:SigOk Tryz.prog (look sigIdxSt):=sigCons sigNil Tryz.func119 (by kernel_rfl) (c:=body Tryz.f119) rfl idxStOk
def anyStS:Spec:=plain fun
 | [.sl (.pair (.int .i64) (.pair (.int .i64) (.pair (.pair (.int .i64) (.int .i64)) (.pair (.int .i64) (.int .i64))))) xs,.fn 85 [] []]=>outV (xs.length≤1000000000000) (.bool (xs.any badSt))
 | _=>none
theorem anyStOk:SpecSound Tryz.prog 84 anyStS:=by
 refine sound0 sigIdxStOk Tryz.func84 (c:=body Tryz.f84) rfl (by kernel_rfl) ?_
 intro args out hf hpre
 split at hf <;> try (cases hf;done)
 rename_i xs
 cases hf
 refine ⟨Nat.le_of_ble_eq_true rfl,?_⟩
 conv=>whnf
 refine aI hpre ?_
 conv=>whnf
 refine ⟨[],_,rfl,rfl,eBool ?_,trivial,rfl,rfl,rfl,fun _=>⟨rfl,rfl,rfl⟩⟩
 exact idxF_any.symm
def winF (n:Nat) (l w:tWin.El):Bool :=
 (decide (l.1 < w.1)||(decide (l.1=w.1)&&decide (l.2.1 < w.2.1)))&&decide (0≤w.1)&&decide (w.1 < w.2.1)&&decide (w.2.1 < (n:Int))&&withinF w.2.2 0 1000000
def winS:Spec:=⟨true,fun args rows=>match args,rows with
 | [.agg [.int .i64 a,.int .i64 b,.int .i64 c],.ptr 0 0,.ptr 1 0],[.box [.int .i64 x,.int .i64 y,.int .i64 z],.box [.int .i64 p,.int .i64 q,.int .i64 r,.sl (.pair (.int .i64) (.pair (.int .i64) (.pair (.pair (.int .i64) (.int .i64)) (.pair (.int .i64) (.int .i64))))) xs,.sl (.pair (.int .i64) (.pair (.int .i64) (.int .i64))) ys]] =>
   some ⟨True,.bool (winF xs.length (x,y,z) (a,b,c)),[.box [.int .i64 a,.int .i64 b,.int .i64 c],.box [.int .i64 p,.int .i64 q,.int .i64 r,.sl tStage xs,.sl tWin ys]],true⟩
 | _,_=>none⟩
theorem winOk:SpecSound Tryz.prog 83 winS:=by
 refine sound1 sigWOk Tryz.func83 (c:=body Tryz.f83) rfl (by kernel_rfl) ?_
 intro args rows out hf hpre
 split at hf <;> try (cases hf;done)
 cases hf
 refine ⟨Nat.le_of_ble_eq_true rfl,?_⟩
 conv=>whnf
 refine aI ?_ ?_
 ·conv=>whnf
  intro _;trivial
 conv=>whnf
 exact ⟨[],_,rfl,rfl,rfl,aI (aI rfl (aI rfl (aI rfl trivial))) (aI (aI rfl (aI rfl (aI rfl (aI rfl (aI rfl trivial))))) trivial),rfl,rfl,rfl,fun h=>by cases h⟩
def sigWin:List (Nat × Spec):=[(83,winS)]
theorem sigWinOk:SigOk Tryz.prog (look sigWin):=sigCons sigNil Tryz.func83 (by kernel_rfl) (c:=body Tryz.f83) rfl winOk
def badWinS:Spec:=⟨true,fun args rows=>match args,rows with
 | [.agg [.int .i64 a,.int .i64 b,.int .i64 c],.ptr 0 0],[.box [.fn 83 [] [.ptr 1 0,.ptr 2 0]],.box [.int .i64 x,.int .i64 y,.int .i64 z],.box [.int .i64 p,.int .i64 q,.int .i64 r,.sl (.pair (.int .i64) (.pair (.int .i64) (.pair (.pair (.int .i64) (.int .i64)) (.pair (.int .i64) (.int .i64))))) xs,.sl (.pair (.int .i64) (.pair (.int .i64) (.int .i64))) ys]] =>
   some ⟨True,.bool (!winF xs.length (x,y,z) (a,b,c)),[.box [.fn 83 [] [.ptr 1 0,.ptr 2 0]],.box [.int .i64 a,.int .i64 b,.int .i64 c],.box [.int .i64 p,.int .i64 q,.int .i64 r,.sl tStage xs,.sl tWin ys]],true⟩
 | _,_=>none⟩
theorem badWinOk:SpecSound Tryz.prog 88 badWinS:=by
 refine sound1 sigWinOk Tryz.func88 (c:=body Tryz.f88) rfl (by kernel_rfl) ?_
 intro args rows out hf hpre
 split at hf <;> try (cases hf;done)
 cases hf
 refine ⟨Nat.le_of_ble_eq_true rfl,?_⟩
 conv=>whnf
 refine aI trivial ?_
 conv=>whnf
 exact ⟨[],_,rfl,rfl,rfl,aI (aI (aI rfl (aI trivial (aI (aI rfl rfl) (aI (aI rfl rfl) trivial)))) trivial) (aI (aI rfl (aI rfl (aI rfl trivial))) (aI (aI rfl (aI rfl (aI rfl (aI rfl (aI rfl trivial))))) trivial)),rfl,rfl,rfl,fun h=>by cases h⟩
def sigBadW:List (Nat × Spec):=[(88,badWinS)]
theorem sigBadWOk:SigOk Tryz.prog (look sigBadW):=sigCons sigNil Tryz.func88 (by kernel_rfl) (c:=body Tryz.f88) rfl badWinOk
def ahead (l:tWin.El) (ws:List tWin.El):Nat→tWin.El
 | 0=>l
 | i+1=>getI ws tWin.dflt i
def duo (l:tWin.El):List tWin.El→List (tWin.El × tWin.El)
 | []=>[]
 | w::r=>(l,w)::duo w r
theorem duo_length:∀ {ws:List tWin.El} {l:tWin.El},(duo l ws).length=ws.length
 | [],_=>rfl
 | w::r,l=>by simp [duo,duo_length]
theorem duo_get:∀ {ws:List tWin.El} {l:tWin.El} {i:Nat},i < ws.length→getI (duo l ws) (l,l) i=(ahead l ws i,getI ws tWin.dflt i)
 | [],_,_,h=>by simp at h
 | w::r,l,0,_=>rfl
 | w::r,l,i+1,h=>by
   have h1:=duo_get (ws:=r) (l:=w) (i:=i) (by simpa using h)
   have hd:∀ (d e:tWin.El × tWin.El),getI (duo w r) d i=getI (duo w r) e i:=fun d e=>by
    have:i < (duo w r).length:=by rw [duo_length];simpa using h
    simp [getI,List.getD,List.getElem?_eq_getElem this]
   show getI (duo w r) (l,l) i=_
   rw [hd (l,l) (w,w),h1]
   cases i <;> rfl
def badW (n:Nat) (q:tWin.El × tWin.El):Bool:=!winF n q.1 q.2
def idxWinS:Spec:=⟨true,fun args rows=>match args,rows with
 | [.sl (.pair (.int .i64) (.pair (.int .i64) (.int .i64))) ws,.fn 88 [] [.ptr 0 0]],[.box [.fn 83 [] [.ptr 1 0,.ptr 2 0]],.box [.int .i64 x,.int .i64 y,.int .i64 z],.box [.int .i64 p,.int .i64 q,.int .i64 r,.sl (.pair (.int .i64) (.pair (.int .i64) (.pair (.pair (.int .i64) (.int .i64)) (.pair (.int .i64) (.int .i64))))) xs,.sl (.pair (.int .i64) (.pair (.int .i64) (.int .i64))) ys]] =>
   some ⟨ws.length≤1000000000000,.int .i64 (idxF (badW xs.length) (duo (x,y,z) ws)),[.dead,.dead,.dead],true⟩
 | _,_=>none⟩
theorem idxWinOk:SpecSound Tryz.prog 121 idxWinS:=by
 refine sound1 sigBadWOk Tryz.func121 (c:=body Tryz.f121) rfl (by kernel_rfl) ?_
 intro args rows out hf hpre
 split at hf <;> try (cases hf;done)
 rename_i ws x y z p q r xs ys
 cases hf
 change ws.length≤1000000000000 at hpre
 refine ⟨Nat.le_of_ble_eq_true rfl,?_⟩
 conv=>whnf
 refine ⟨Nat,fun i=>⟨19,[(0,⟨[],.sl tWin ws⟩),(1,⟨[],.fn 88 [] [.ptr 100000 0]⟩),(7,⟨[],.int .i64 ws.length⟩),(8,⟨[],.int .i64 i⟩)],[],[100000,100001,100002],
  [(100000,.box [.fn 83 [] [.ptr 100001 0,.ptr 100002 0]]),(100001,.box [.int .i64 (ahead (x,y,z) ws i).1,.int .i64 (ahead (x,y,z) ws i).2.1,.int .i64 (ahead (x,y,z) ws i).2.2]),(100002,.box [.int .i64 p,.int .i64 q,.int .i64 r,.sl tStage xs,.sl tWin ys])]⟩,
  fun i=>i≤ws.length∧∀ j,j < i→badW xs.length (getI (duo (x,y,z) ws) ((x,y,z),(x,y,z)) j)=false,fun i=>ws.length - i,0,⟨by omega,fun j hj=>by omega⟩,.same ⟨rfl,rfl,rfl,⟨rfl,rfl,rfl,rfl,trivial⟩,⟨rfl,rfl,rfl,trivial⟩,rfl,rfl,rfl⟩,?_⟩
 intro i ⟨hi,hb⟩
 conv=>whnf
 refine bI (fun c1=>?_) (fun c1=>?_)
 ·simp only [decide_eq_true_eq] at c1
  have hlt:i < ws.length:=by omega
  conv=>whnf
  refine aI (by omega) ?_
  conv=>whnf
  refine aI (by omega) ?_
  conv=>whnf
  refine aI trivial ?_
  conv=>whnf
  refine bI (fun c2=>?_) (fun c2=>?_)
  ·conv=>whnf
   refine ⟨[],_,rfl,rfl,eInt ?_,aI trivial (aI trivial (aI trivial trivial)),rfl,rfl,rfl,fun h=>by cases h⟩
   exact idxF_found (d:=((x,y,z),(x,y,z))) (by rw [duo_length];exact hlt) hb (by rw [duo_get hlt];exact c2)
  ·conv=>whnf
   refine ⟨i+1,⟨by omega,fun j hj=>?_⟩,(by show ws.length - (i+1) < ws.length - i;omega),.same ⟨rfl,rfl,rfl,⟨rfl,rfl,rfl,slotInt rfl (wrapEq (by omega) (by omega) (by omega)),trivial⟩,⟨rfl,rfl,rfl,trivial⟩,rfl,rfl,rfl⟩⟩
   by_cases hji:j=i
   ·subst hji;rw [duo_get hlt];exact c2
   ·exact hb j (by omega)
 ·simp only [decide_eq_false_iff_not] at c1
  conv=>whnf
  refine ⟨[],_,rfl,rfl,eInt ?_,aI trivial (aI trivial (aI trivial trivial)),rfl,rfl,rfl,fun h=>by cases h⟩
  exact idxF_none (d:=((x,y,z),(x,y,z))) fun j hj=>hb j (by rw [duo_length] at hj;omega)
def sigIdxW:List (Nat × Spec):=[(121,idxWinS)]
theorem sigIdxWOk:SigOk Tryz.prog (look sigIdxW):=sigCons sigNil Tryz.func121 (by kernel_rfl) (c:=body Tryz.f121) rfl idxWinOk
def anyWinS:Spec:=⟨true,fun args rows=>match args,rows with
 | [.sl (.pair (.int .i64) (.pair (.int .i64) (.int .i64))) ws,.fn 88 [] [.ptr 0 0]],[.box [.fn 83 [] [.ptr 1 0,.ptr 2 0]],.box [.int .i64 x,.int .i64 y,.int .i64 z],.box [.int .i64 p,.int .i64 q,.int .i64 r,.sl (.pair (.int .i64) (.pair (.int .i64) (.pair (.pair (.int .i64) (.int .i64)) (.pair (.int .i64) (.int .i64))))) xs,.sl (.pair (.int .i64) (.pair (.int .i64) (.int .i64))) ys]] =>
   some ⟨ws.length≤1000000000000,.bool ((duo (x,y,z) ws).any (badW xs.length)),[.dead,.dead,.dead],true⟩
 | _,_=>none⟩
theorem anyWinOk:SpecSound Tryz.prog 87 anyWinS:=by
 refine sound1 sigIdxWOk Tryz.func87 (c:=body Tryz.f87) rfl (by kernel_rfl) ?_
 intro args rows out hf hpre
 split at hf <;> try (cases hf;done)
 rename_i ws x y z p q r xs ys
 cases hf
 refine ⟨Nat.le_of_ble_eq_true rfl,?_⟩
 conv=>whnf
 refine aI hpre ?_
 conv=>whnf
 refine ⟨[],_,rfl,rfl,eBool ?_,aI trivial (aI trivial (aI trivial trivial)),rfl,rfl,rfl,fun h=>by cases h⟩
 exact idxF_any.symm
def sigValid:List (Nat × Spec):=[(77,withinS),(84,anyStS),(87,anyWinS)]
theorem sigValidOk:SigOk Tryz.prog (look sigValid):=sigCons (sigCons (sigCons sigNil Tryz.func87 (by kernel_rfl) (c:=body Tryz.f87) rfl anyWinOk) Tryz.func84 (by kernel_rfl) (c:=body Tryz.f84) rfl anyStOk) Tryz.func77 (by kernel_rfl) (c:=body Tryz.f77) rfl withinOk
end Go.AM.YtmohhhbgcehnpaaGreat.Pl
end

section
set_option linter.all false
namespace Go.AM.YtmohhhbgcehnpaaGreat.Pl
open Go.Proofs
set_option maxRecDepth 100000
set_option maxHeartbeats 4000000
def validF (e a b:Int) (xs:List tStage.El) (ws:List tWin.El):Bool :=
 withinF e 0 1000000&&withinF a 0 b&&decide (b≤10000)&&withinF (xs.length:Int) 1 8&&decide ((ws.length:Int)≤20)&&(!xs.any badSt&&!(duo (-1,0,0) ws).any (badW xs.length))
def validS:Spec:=plain fun
 | [.agg [.int .i64 e,.int .i64 a,.int .i64 b,.sl (.pair (.int .i64) (.pair (.int .i64) (.pair (.pair (.int .i64) (.int .i64)) (.pair (.int .i64) (.int .i64))))) xs,.sl (.pair (.int .i64) (.pair (.int .i64) (.int .i64))) ws]]=>outV True (.bool (validF e a b xs ws))
 | _=>none
theorem validOk:SpecSound Tryz.prog 51 validS:=by
 refine sound0 sigValidOk Tryz.func51 (c:=body Tryz.f51) rfl (by kernel_rfl) ?_
 intro args out hf hpre
 split at hf <;> try (cases hf;done)
 rename_i e a b xs ws
 cases hf
 refine ⟨Nat.le_of_ble_eq_true rfl,?_⟩
 conv=>whnf
 refine aI trivial ?_
 conv=>whnf
 refine aI ?_ ?_
 ·conv=>whnf
  intro _;trivial
 conv=>whnf
 refine bI (fun c1=>?_) (fun c1=>?_)
 ·conv=>whnf
  refine ⟨[],_,rfl,rfl,eBool ?_,trivial,rfl,rfl,rfl,fun _=>⟨rfl,rfl,rfl⟩⟩
  unfold validF
  simp only [Bool.or_eq_true,Bool.not_eq_true',decide_eq_true_eq] at c1
  rcases c1 with (c1|c1)|c1
  ·simp [c1]
  ·simp [c1]
  ·have:decide (b≤10000)=false:=by simp;omega
   simp [this]
 ·simp only [Bool.or_eq_false_iff,Bool.not_eq_false',decide_eq_false_iff_not] at c1
  obtain ⟨⟨c1,c2⟩,c3⟩:=c1
  have c3':decide (b≤10000)=true:=by simp;omega
  conv=>whnf
  refine aI trivial ?_
  conv=>whnf
  refine bI (fun c4=>?_) (fun c4=>?_)
  ·conv=>whnf
   refine ⟨[],_,rfl,rfl,eBool ?_,trivial,rfl,rfl,rfl,fun _=>⟨rfl,rfl,rfl⟩⟩
   unfold validF
   simp only [Bool.or_eq_true,Bool.not_eq_true',decide_eq_true_eq] at c4
   rcases c4 with c4|c4
   ·simp [c4]
   ·have:decide ((ws.length:Int)≤20)=false:=by simp;omega
    rw [this];simp
  ·simp only [Bool.or_eq_false_iff,Bool.not_eq_false',decide_eq_false_iff_not] at c4
   obtain ⟨c4,c5⟩:=c4
   have c5':decide ((ws.length:Int)≤20)=true:=by simp;omega
   have c6:=c4
   unfold withinF at c6
   simp only [Bool.and_eq_true,decide_eq_true_eq] at c6
   conv=>whnf
   refine aI (by show xs.length≤1000000000000;omega) ?_
   conv=>whnf
   refine aI ?_ ?_
   ·conv=>whnf
    intro _
    show ws.length≤1000000000000
    omega
   conv=>whnf
   refine ⟨[],_,rfl,rfl,eBool ?_,trivial,rfl,rfl,rfl,fun _=>⟨rfl,rfl,rfl⟩⟩
   unfold validF
   rw [c1,c2,c3',c4,c5']
   rfl
def sigV:List (Nat × Spec):=[(77,withinS),(51,validS)]
theorem sigVOk:SigOk Tryz.prog (look sigV):=sigCons (sigCons sigNil Tryz.func51 (by kernel_rfl) (c:=body Tryz.f51) rfl validOk) Tryz.func77 (by kernel_rfl) (c:=body Tryz.f77) rfl withinOk
end Go.AM.YtmohhhbgcehnpaaGreat.Pl
end

section
set_option linter.all false
namespace Go.AM.YtmohhhbgcehnpaaGreat.Pl
open Go.Proofs
set_option maxRecDepth 100000
set_option maxHeartbeats 4000000
def eqStF (xs ys:List (Int × Int × (Int × Int) × Int × Int)):Bool:=decide (xs=ys)
def eqWiF (xs ys:List (Int × Int × Int)):Bool:=decide (xs=ys)
def sameF (e a b:Int) (xs:List (Int × Int × (Int × Int) × Int × Int)) (ws:List (Int × Int × Int)) (e' a' b':Int) (xs':List (Int × Int × (Int × Int) × Int × Int)) (ws':List (Int × Int × Int)):Bool :=
 decide (e=e')&&decide (a=a')&&decide (b=b')&&eqStF xs xs'&&eqWiF ws ws'
def sameS:Spec:=plain fun
 | [.agg [.int .i64 e,.int .i64 a,.int .i64 b,.sl (.pair (.int .i64) (.pair (.int .i64) (.pair (.pair (.int .i64) (.int .i64)) (.pair (.int .i64) (.int .i64))))) xs,.sl (.pair (.int .i64) (.pair (.int .i64) (.int .i64))) ws],.agg [.int .i64 e',.int .i64 a',.int .i64 b',.sl (.pair (.int .i64) (.pair (.int .i64) (.pair (.pair (.int .i64) (.int .i64)) (.pair (.int .i64) (.int .i64))))) xs',.sl (.pair (.int .i64) (.pair (.int .i64) (.int .i64))) ws']] =>
   outV (xs.length≤1000000000000∧xs'.length≤1000000000000∧ws.length≤1000000000000∧ws'.length≤1000000000000) (.bool (sameF e a b xs ws e' a' b' xs' ws'))
 | _=>none
end Go.AM.YtmohhhbgcehnpaaGreat.Pl
end

section
set_option linter.all false
namespace Go.AM.YtmohhhbgcehnpaaGreat.Pl
open Go.Proofs
set_option maxRecDepth 100000
set_option maxHeartbeats 4000000
def sigPoss:List (Nat × Spec):=[(51,validS),(77,withinS),(78,noneS)]
theorem sigPossOk:SigOk Tryz.prog (look sigPoss):=sigCons (sigCons (sigCons sigNil Tryz.func78 (by kernel_rfl) (c:=body Tryz.f78) rfl noneOk) Tryz.func77 (by kernel_rfl) (c:=body Tryz.f77) rfl withinOk) Tryz.func51 (by kernel_rfl) (c:=body Tryz.f51) rfl validOk
def fitsAt (a b:Int) (xs:List tStage.El) (du mo:List Int) (i:Nat):Bool :=
 withinF (getI du 0 i) (getI xs tStage.dflt i).1 (getI xs tStage.dflt i).2.1&&withinF (getI mo 0 i) a b
def possF (e a b:Int) (xs:List tStage.El) (ws:List tWin.El) (du mo:List Int) (de tl fa:Int):Bool :=
 validF e a b xs ws&&decide (du.length=xs.length)&&decide (mo.length=xs.length)&&withinF de a b&&(List.range xs.length).all (fitsAt a b xs du mo) &&
  ((decide (tl=-1)&&decide (fa=0))||(withinF tl 0 59&&withinF fa 0 1000000))
def possS:Spec:=plain fun
 | [.agg [.int .i64 e,.int .i64 a,.int .i64 b,.sl (.pair (.int .i64) (.pair (.int .i64) (.pair (.pair (.int .i64) (.int .i64)) (.pair (.int .i64) (.int .i64))))) xs,.sl (.pair (.int .i64) (.pair (.int .i64) (.int .i64))) ws],
  .agg [.sl (.int .i64) du,.sl (.int .i64) mo,.int .i64 de,.int .i64 tl,.int .i64 fa]]=>outV (xs.length≤1000000000000) (.bool (possF e a b xs ws du mo de tl fa))
 | _=>none
theorem possOk:SpecSound Tryz.prog 47 possS:=by
 refine sound0 sigPossOk Tryz.func47 (c:=body Tryz.f47) rfl (by kernel_rfl) ?_
 intro args out hf hpre
 split at hf <;> try (cases hf;done)
 rename_i e a b xs ws du mo de tl fa
 cases hf
 change xs.length≤1000000000000 at hpre
 refine ⟨Nat.le_of_ble_eq_true rfl,?_⟩
 conv=>whnf
 refine aI trivial ?_
 conv=>whnf
 refine aI ?_ ?_
 ·conv=>whnf
  intro _;trivial
 conv=>whnf
 refine bI (fun c1=>?_) (fun c1=>?_)
 ·conv=>whnf
  refine ⟨[],_,rfl,rfl,eBool ?_,trivial,rfl,rfl,rfl,fun _=>⟨rfl,rfl,rfl⟩⟩
  simp only [Bool.or_eq_true,Bool.not_eq_true',decide_eq_true_eq] at c1
  unfold possF
  rcases c1 with ((c1|c1)|c1)|c1
  ·simp [c1]
  ·have:decide (du.length=xs.length)=false:=by rw [decide_eq_false_iff_not];omega
   rw [this];simp
  ·have:decide (mo.length=xs.length)=false:=by rw [decide_eq_false_iff_not];omega
   rw [this];simp
  ·simp [c1]
 ·simp only [Bool.or_eq_false_iff,Bool.not_eq_false',decide_eq_false_iff_not,Decidable.not_not] at c1
  obtain ⟨⟨⟨c1,c2⟩,c3⟩,c4⟩:=c1
  have l1:du.length=xs.length:=by omega
  have l2:mo.length=xs.length:=by omega
  conv=>whnf
  refine ⟨Nat,fun i=>⟨90,[(2,⟨[],.ptr 2 0⟩),(3,⟨[],.ptr 3 0⟩),(40,⟨[],.sl tStage xs⟩),(41,⟨[],.int .i64 xs.length⟩),(42,⟨[],.int .i64 i⟩)],[],[2,3],
   [(2,.box [.int .i64 e,.int .i64 a,.int .i64 b,.sl tStage xs,.sl tWin ws]),(3,.box [.sl tInt du,.sl tInt mo,.int .i64 de,.int .i64 tl,.int .i64 fa])]⟩,
   fun i=>i≤xs.length∧∀ j,j < i→fitsAt a b xs du mo j=true,fun i=>xs.length - i,0,⟨by omega,fun j hj=>by omega⟩,.same ⟨rfl,rfl,rfl,⟨rfl,rfl,rfl,rfl,rfl,trivial⟩,⟨rfl,rfl,trivial⟩,rfl,rfl,rfl⟩,?_⟩
  intro i ⟨hi,hb⟩
  conv=>whnf
  refine bI (fun c5=>?_) (fun c5=>?_)
  ·simp only [decide_eq_true_eq] at c5
   conv=>whnf
   refine aI (by omega) ?_
   conv=>whnf
   refine aI (by omega) ?_
   conv=>whnf
   refine aI (by omega) ?_
   conv=>whnf
   refine aI (by omega) ?_
   conv=>whnf
   refine aI trivial ?_
   conv=>whnf
   refine aI ?_ ?_
   ·conv=>whnf
    intro _;omega
   conv=>whnf
   refine aI ?_ ?_
   ·conv=>whnf
    intro _;omega
   conv=>whnf
   refine aI ?_ ?_
   ·conv=>whnf
    intro _;trivial
   conv=>whnf
   refine bI (fun c6=>?_) (fun c6=>?_)
   ·conv=>whnf
    refine ⟨[],_,rfl,rfl,eBool ?_,trivial,rfl,rfl,rfl,fun _=>⟨rfl,rfl,rfl⟩⟩
    unfold possF
    have h1:(List.range xs.length).all (fitsAt a b xs du mo)=false:=by
     cases h2:(List.range xs.length).all (fitsAt a b xs du mo) with
     | false=>rfl
     | true =>
       have h3:=List.all_eq_true.1 h2 i (by simp;omega)
       have h4:(!fitsAt a b xs du mo i)=true:=by
        unfold fitsAt
        rw [Bool.not_and]
        exact c6
       rw [h3] at h4;cases h4
    rw [h1];simp
   ·conv=>whnf
    refine ⟨i+1,⟨by omega,fun j hj=>?_⟩,(by show xs.length - (i+1) < xs.length - i;omega),.same ⟨rfl,rfl,rfl,⟨rfl,rfl,rfl,rfl,slotInt rfl (wrapEq (by omega) (by omega) (by omega)),trivial⟩,⟨rfl,rfl,trivial⟩,rfl,rfl,rfl⟩⟩
    by_cases hji:j=i
    ·subst hji
     have h4:(!fitsAt a b xs du mo j)=false:=by
      unfold fitsAt
      rw [Bool.not_and]
      exact c6
     simpa using h4
    ·exact hb j (by omega)
  ·simp only [decide_eq_false_iff_not] at c5
   have hall:(List.range xs.length).all (fitsAt a b xs du mo)=true:=List.all_eq_true.2 fun j hj=>hb j (by simp at hj;omega)
   have d1:decide (du.length=xs.length)=true:=by rw [decide_eq_true_eq];exact l1
   have d2:decide (mo.length=xs.length)=true:=by rw [decide_eq_true_eq];exact l2
   conv=>whnf
   refine aI trivial ?_
   conv=>whnf
   refine aI ?_ ?_
   ·conv=>whnf
    intro _;trivial
   conv=>whnf
   refine aI ?_ ?_
   ·conv=>whnf
    intro _ _;trivial
   conv=>whnf
   refine ⟨[],_,rfl,rfl,eBool ?_,trivial,rfl,rfl,rfl,fun _=>⟨rfl,rfl,rfl⟩⟩
   unfold possF
   rw [c1,d1,d2,c4,hall]
   rfl
def reachedF (mt ms st ss de tl fa t mv du:Int):(Int × Int) × Bool :=
 if tl=mt∧fa < ms+du then
  if fa≤t then ((st,ss),decide (t+mv≤ss))
  else if fa < ms then ((st,ss),decide (max (t+mv) fa+de≤ss))
  else if ms < t+mv then ((mt,ms),false)
  else ((st,ss),decide (fa+de≤ss))
 else ((mt,ms),decide (t+mv≤ms))
def reachedS:Spec:=plain fun
 | [.agg [.int .i64 _,.int .i64 _,.int .i64 mt,.int .i64 ms,.int .i64 st,.int .i64 ss],.agg [.sl (.int .i64) _,.sl (.int .i64) _,.int .i64 de,.int .i64 tl,.int .i64 fa],.int .i64 t,.int .i64 mv,.int .i64 du] =>
   outV (Sm ms∧Sm de∧Sm fa∧Sm t∧Sm mv∧Sm du) (.tup [.agg [.int .i64 (reachedF mt ms st ss de tl fa t mv du).1.1,.int .i64 (reachedF mt ms st ss de tl fa t mv du).1.2],.bool (reachedF mt ms st ss de tl fa t mv du).2])
 | _=>none
theorem reachedOk:SpecSound Tryz.prog 48 reachedS:=by
 refine sound0 sigNil Tryz.func48 (c:=body Tryz.f48) rfl (by kernel_rfl) ?_
 intro args out hf hpre
 split at hf <;> try (cases hf;done)
 rename_i mn mx mt ms st ss x1 x2 de tl fa t mv du
 cases hf
 refine ⟨Nat.le_of_ble_eq_true rfl,?_⟩
 obtain ⟨h1,h2,h3,h4,h5,h6⟩:=hpre
 unfold Sm at h1 h2 h3 h4 h5 h6
 conv=>whnf
 refine bI (fun c1=>?_) (fun c1=>?_)
 ·conv=>whnf
  refine ⟨[],_,rfl,rfl,?_,trivial,rfl,rfl,rfl,fun _=>⟨rfl,rfl,rfl⟩⟩
  refine aI (aI (eInt ?_) (aI (eInt ?_) trivial)) (aI (eBool ?_) trivial)
  all_goals simp (disch:=omega) only [wrapId] at c1 ⊢
  all_goals simp only [Bool.not_eq_true',Bool.and_eq_false_iff,decide_eq_false_iff_not] at c1
  all_goals unfold reachedF
  all_goals (repeat' split) <;> first|rfl|(exfalso;omega)
 ·simp (disch:=omega) only [wrapId] at c1
  simp only [Bool.not_eq_false',Bool.and_eq_true,decide_eq_true_eq] at c1
  conv=>whnf
  refine bI (fun c2=>?_) (fun c2=>?_)
  ·conv=>whnf
   refine ⟨[],_,rfl,rfl,?_,trivial,rfl,rfl,rfl,fun _=>⟨rfl,rfl,rfl⟩⟩
   refine aI (aI (eInt ?_) (aI (eInt ?_) trivial)) (aI (eBool ?_) trivial)
   all_goals simp (disch:=omega) only [wrapId,decide_eq_true_eq] at c2 ⊢
   all_goals unfold reachedF
   all_goals (repeat' split) <;> first|rfl|(exfalso;omega)
  ·simp only [decide_eq_false_iff_not] at c2
   conv=>whnf
   refine bI (fun c3=>?_) (fun c3=>?_)
   ·simp only [decide_eq_true_eq] at c3
    conv=>whnf
    refine ⟨[],_,rfl,rfl,?_,trivial,rfl,rfl,rfl,fun _=>⟨rfl,rfl,rfl⟩⟩
    refine aI (aI (eInt ?_) (aI (eInt ?_) trivial)) (aI (eBool ?_) trivial)
    all_goals try simp (disch:=omega) only [wrapId]
    all_goals unfold reachedF
    all_goals (repeat' split) <;> first|rfl|(exfalso;omega)
   ·simp only [decide_eq_false_iff_not] at c3
    conv=>whnf
    refine bI (fun c4=>?_) (fun c4=>?_)
    ·simp (disch:=omega) only [wrapId,decide_eq_true_eq] at c4
     conv=>whnf
     refine ⟨[],_,rfl,rfl,?_,trivial,rfl,rfl,rfl,fun _=>⟨rfl,rfl,rfl⟩⟩
     refine aI (aI (eInt ?_) (aI (eInt ?_) trivial)) (aI (eBool ?_) trivial)
     all_goals unfold reachedF
     all_goals (repeat' split) <;> first|rfl|(exfalso;omega)
    ·simp (disch:=omega) only [wrapId,decide_eq_false_iff_not] at c4
     conv=>whnf
     refine ⟨[],_,rfl,rfl,?_,trivial,rfl,rfl,rfl,fun _=>⟨rfl,rfl,rfl⟩⟩
     refine aI (aI (eInt ?_) (aI (eInt ?_) trivial)) (aI (eBool ?_) trivial)
     all_goals try simp (disch:=omega) only [wrapId]
     all_goals unfold reachedF
     all_goals (repeat' split) <;> first|rfl|(exfalso;omega)
end Go.AM.YtmohhhbgcehnpaaGreat.Pl
end
