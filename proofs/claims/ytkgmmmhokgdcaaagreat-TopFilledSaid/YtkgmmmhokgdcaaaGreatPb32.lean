/- DiT, DiS, DiV, WkBase, WkPick, WkMade, WkMadeV, WkChosen, WkRun, DiLPl. -/
import Derived.Test.YtkgmmmhokgdcaaaGreatPb31
import Derived.Test.YtkgmmmhokgdcaaaGreatPb21
import Derived.Test.YtkgmmmhokgdcaaaGreatPb29
import Derived.Test.YtkgmmmhokgdcaaaGreatPb22
import Derived.Test.YtkgmmmhokgdcaaaGreatPb27

section
set_option linter.all false
namespace Go.AM.YtkgmmmhokgdcaaaGreat
open Go.Proofs
def ruleV (rc r:Int) (j:JobT):Int :=
  if r=1 then (if jHot j=true then 0 else 1) else if r=2 then jDue j else if r=3 then (if jRec j=rc then 0 else 1) else if r=4 then jArr j else if r=5 then jLen j else - jCnt j
theorem cmpI_spec (a b:Int):(cmpI a b < 0↔a < b)∧(cmpI a b=0↔a=b):=by
  unfold cmpI
  split
  · constructor <;> constructor <;> intro <;> omega
  · split
    · constructor <;> constructor <;> intro <;> omega
    · constructor <;> constructor <;> intro <;> omega
theorem holdC_spec (p:JobT→Bool) (x y:JobT):(holdC p x y < 0↔(if p x=true then (0:Int) else 1) < (if p y=true then 0 else 1))∧(holdC p x y=0↔(if p x=true then (0:Int) else 1)=(if p y=true then 0 else 1)):=by
  unfold holdC
  cases p x <;> cases p y <;> simp
theorem rule_spec {rc r:Int} (h:ruleOk r) (x y:JobT):(ruleC rc r x y < 0↔ruleV rc r x < ruleV rc r y)∧(ruleC rc r x y=0↔ruleV rc r x=ruleV rc r y):=by
  unfold ruleOk at h
  obtain rfl|rfl|rfl|rfl|rfl|rfl:r=1∨r=2∨r=3∨r=4∨r=5∨r=6:=by omega
  · exact holdC_spec jHot x y
  · exact cmpI_spec (jDue x) (jDue y)
  · have:=holdC_spec (fun j=>decide (jRec j=rc)) x y
    simp only [decide_eq_true_eq] at this
    exact this
  · exact cmpI_spec (jArr x) (jArr y)
  · exact cmpI_spec (jLen x) (jLen y)
  · have:=cmpI_spec (jCnt y) (jCnt x)
    show (cmpI (jCnt y) (jCnt x) < 0↔- jCnt x < - jCnt y)∧(cmpI (jCnt y) (jCnt x)=0↔- jCnt x=- jCnt y)
    omega
def aheadV (rc:Int) (x y:JobT):List Int→Prop
  | []=>jLot x < jLot y
  | r::rs=>ruleV rc r x < ruleV rc r y∨(ruleV rc r x=ruleV rc r y∧aheadV rc x y rs)
theorem ordC_neg {rc:Int} {x y:JobT}:∀ {rs:List Int},(∀ r∈rs,ruleOk r)→(ordC rs rc x y < 0↔aheadV rc x y rs)
  | [],_=>by
    show (if riseC jLot x y≠0 then riseC jLot x y else 0) < 0↔jLot x < jLot y
    have:=cmpI_spec (jLot x) (jLot y)
    unfold riseC
    split
    · exact this.1
    · rename_i h
      have h:cmpI (jLot x) (jLot y)=0:=Decidable.not_not.1 h
      have:=this.2.1 h
      omega
  | r::rs,h=>by
    have ih:=ordC_neg (rc:=rc) (x:=x) (y:=y) (rs:=rs) fun r hr=>h r (List.mem_cons_of_mem _ hr)
    have hs:=rule_spec (rc:=rc) (h r (by simp)) x y
    show (if ruleC rc r x y≠0 then ruleC rc r x y else ordC rs rc x y) < 0↔_
    unfold aheadV
    split
    · rename_i h0
      constructor
      · exact fun h=>.inl (hs.1.1 h)
      · rintro (h|⟨h,_⟩)
        · exact hs.1.2 h
        · exact absurd (hs.2.2 h) h0
    · rename_i h0
      have h0:=Decidable.not_not.1 h0
      have e:=hs.2.1 h0
      constructor
      · exact fun h=>.inr ⟨e,ih.1 h⟩
      · rintro (h|⟨_,h⟩)
        · omega
        · exact ih.2 h
theorem aheadV_trans {rc:Int} {x y z:JobT}:∀ {rs:List Int},aheadV rc x y rs→aheadV rc y z rs→aheadV rc x z rs
  | [],h,k=>Int.lt_trans h k
  | r::rs,h,k=>by
    unfold aheadV at *
    rcases h with h|⟨h,h'⟩ <;> rcases k with k|⟨k,k'⟩
    · exact .inl (by omega)
    · exact .inl (by omega)
    · exact .inl (by omega)
    · exact .inr ⟨by omega,aheadV_trans h' k'⟩
theorem aheadV_irr {rc:Int} {x:JobT}:∀ {rs:List Int},¬ aheadV rc x x rs
  | [],h=>Int.lt_irrefl _ h
  | r::rs,h=>by
    unfold aheadV at h
    rcases h with h|⟨_,h⟩
    · omega
    · exact aheadV_irr h
theorem aheadV_asymm {rc:Int} {x y:JobT} {rs:List Int} (h:aheadV rc x y rs):¬ aheadV rc y x rs:=fun k=>aheadV_irr (aheadV_trans h k)
theorem aheadV_total {rc:Int} {x y:JobT} (hl:jLot x≠jLot y):∀ {rs:List Int},¬ aheadV rc x y rs→aheadV rc y x rs
  | [],h=>by
    unfold aheadV at *
    omega
  | r::rs,h=>by
    unfold aheadV at *
    by_cases e:ruleV rc r x=ruleV rc r y
    · exact .inr ⟨e.symm,aheadV_total hl fun k=>h (.inr ⟨e,k⟩)⟩
    · exact .inl (by
        have:¬ ruleV rc r x < ruleV rc r y:=fun k=>h (.inl k)
        omega)
def Lots (l:List JobT):Prop:=l.Pairwise fun a b=>jLot a≠jLot b
def Srt (rs:List Int) (rc:Int) (l:List JobT):Prop:=l.Pairwise fun a b=>aheadV rc a b rs
theorem posI_spec {c:JobT→JobT→Int} {x:JobT} {S:List JobT}:∀ {k:Nat},(∀ i,posI c x S k≤i→i < k→c x (getI S jDf i) < 0)∧(posI c x S k=0∨¬ c x (getI S jDf (posI c x S k - 1)) < 0)
  | 0=>⟨fun i _ h=>by omega,.inl rfl⟩
  | k+1=>by
    obtain ⟨h1,h2⟩:=posI_spec (c:=c) (x:=x) (S:=S) (k:=k)
    unfold posI
    split
    · rename_i h
      refine ⟨fun i hi hk=>?_,h2⟩
      by_cases e:i=k
      · subst e;exact h
      · exact h1 i hi (by omega)
    · rename_i h
      exact ⟨fun i hi hk=>by omega,.inr h⟩
theorem getI_elem {S:List JobT} {i:Nat} (h:i < S.length):getI S jDf i=S[i]:=by simp [getI,List.getD,List.getElem?_eq_getElem h]
theorem insI_perm {c:JobT→JobT→Int} {x:JobT} {S:List JobT}:(insI c x S).Perm (x::S):=by
  unfold insI
  have:(S.take (posI c x S S.length)++x::S.drop (posI c x S S.length)).Perm (x::(S.take (posI c x S S.length)++S.drop (posI c x S S.length))):=List.perm_middle
  rwa [List.take_append_drop] at this
theorem insI_srt {rs:List Int} {rc:Int} (hr:∀ r∈rs,ruleOk r) {x:JobT} {S:List JobT} (hS:Srt rs rc S) (hx:∀ b∈S,jLot x≠jLot b):Srt rs rc (insI (ordC rs rc) x S):=by
  obtain ⟨h1,h2⟩:=posI_spec (c:=ordC rs rc) (x:=x) (S:=S) (k:=S.length)
  have hle:=posI_le (c:=ordC rs rc) (x:=x) (S:=S) (k:=S.length)
  unfold insI Srt
  generalize posI (ordC rs rc) x S S.length=j at *
  have hsp:S.take j++S.drop j=S:=List.take_append_drop j S
  have hS':=hS
  unfold Srt at hS'
  rw [← hsp,List.pairwise_append] at hS'
  have hafter:∀ b∈S.drop j,aheadV rc x b rs:=fun b hb=>by
    obtain ⟨i,hi,rfl⟩:=List.getElem_of_mem hb
    rw [List.length_drop] at hi
    rw [List.getElem_drop]
    have:=h1 (j+i) (by omega) (by omega)
    rw [getI_elem (by omega)] at this
    exact (ordC_neg hr).1 this
  have hbefore:∀ a∈S.take j,aheadV rc a x rs:=fun a ha=>by
    obtain ⟨i,hi,rfl⟩:=List.getElem_of_mem ha
    rw [List.length_take] at hi
    rw [List.getElem_take]
    have h2':=h2.resolve_left (by omega)
    have hlt:j - 1 < S.length:=by omega
    rw [getI_elem hlt] at h2'
    have h3:aheadV rc S[j - 1] x rs:=aheadV_total (hx _ (List.getElem_mem _)) fun k=>h2' ((ordC_neg hr).2 k)
    by_cases e:i=j - 1
    · subst e;exact h3
    · exact aheadV_trans (List.pairwise_iff_getElem.1 hS i (j - 1) (by omega) hlt (by omega)) h3
  rw [List.pairwise_append]
  refine ⟨hS'.1,List.pairwise_cons.2 ⟨hafter,hS'.2.1⟩,fun a ha b hb=>?_⟩
  rcases List.mem_cons.1 hb with rfl|hb
  · exact hbefore a ha
  · exact hS'.2.2 a ha b hb
theorem sort_spec {rs:List Int} {rc:Int} (hr:∀ r∈rs,ruleOk r):∀ {l S:List JobT},Srt rs rc S→Lots (S++l)→Srt rs rc (l.foldl (fun S x=>insI (ordC rs rc) x S) S)∧(l.foldl (fun S x=>insI (ordC rs rc) x S) S).Perm (S++l)
  | [],S,hS,_=>⟨hS,by simp⟩
  | x::l,S,hS,hL=>by
    have hp:=insI_perm (c:=ordC rs rc) (x:=x) (S:=S)
    have hL':=hL
    unfold Lots at hL'
    rw [List.pairwise_append] at hL'
    have hx:∀ b∈S,jLot x≠jLot b:=fun b hb=>Ne.symm (hL'.2.2 b hb x (by simp))
    have hq:(insI (ordC rs rc) x S++l).Perm (S++x::l):=(hp.append_right l).trans List.perm_middle.symm
    obtain ⟨h1,h2⟩:=sort_spec hr (l:=l) (insI_srt hr hS hx) ((hq.symm.pairwise_iff (fun h=>Ne.symm h)).1 hL)
    exact ⟨h1,h2.trans hq⟩
theorem order_spec {rs:List Int} {rc:Int} (h:RulesOk rs) {l:List JobT} (hl:Lots l):Srt rs rc (orderF rs rc l)∧(orderF rs rc l).Perm l:=by
  unfold orderF rulesB
  rw [if_pos (decide_eq_true h)]
  have:=sort_spec h.1 (rc:=rc) (l:=l) (S:=[]) List.Pairwise.nil (by simpa using hl)
  simpa [sortF] using this
theorem fit_iff {xss:List (List Bk.El)} (g:CalG xss) {tool now rc:Int} {j:JobT} (h0:0≤tool) (h1:tool < 60) (hn:0≤now) (hj:1≤jLen j∧jLen j≤10000) (he:now+lengthF rc j≤1000000) :
    fitB xss tool now rc j=!busyF xss tool now (now+lengthF rc j):=by
  have hl:1≤lengthF rc j:=by unfold lengthF lengthI;split <;> omega
  have hbusy:busyF xss tool now (now+lengthF rc j)=true↔∃ c∈toolL xss tool,stB c < now+lengthF rc j∧now < enB c:=by
    rw [busy_iff]
    exact ⟨fun h=>h.2.2.2,fun h=>⟨h0,h1,by omega,h⟩⟩
  have hfirst:=first_eq (xss:=xss) (n:=lengthF rc j) h0 h1 hn hl
  have hfit:fitB xss tool now rc j=((firstF xss tool now (lengthF rc j)).2&&decide ((firstF xss tool now (lengthF rc j)).1=now)):=by
    unfold fitB fitI lengthF
    rw [if_pos hj]
  rw [hfit,hfirst]
  obtain ⟨r,hr⟩:∃ r,r=firstG (gapsL (toolL xss tool) now) (lengthF rc j):=⟨_,rfl⟩
  rw [← hr]
  obtain ⟨a,ok⟩:=r
  cases ok
  · have:=first_none (g.tool h0 h1) hn hl hr.symm now (Int.le_refl _) he
    rw [hbusy.2 this]
    rfl
  · obtain ⟨f1,f2,f3,f4⟩:=first_yes (g.tool h0 h1) hn hl hr.symm
    by_cases e:a=now
    · subst e
      have:busyF xss tool a (a+lengthF rc j)=false:=by
        cases hb:busyF xss tool a (a+lengthF rc j) with
        | false=>rfl
        | true =>
          obtain ⟨c,hc,hm⟩:=hbusy.1 hb
          exact absurd hm (f3 c hc)
      rw [this]
      simp
    · have:=f4 now (Int.le_refl _) (by omega)
      rw [hbusy.2 this]
      simp [e]
theorem pick_yes {xss:List (List Bk.El)} {tool now rc:Int} {rs:List Int} {l:List JobT} (h:(pickJ xss tool now rs rc l).2=true) :
    ∃ i,i < (orderF rs rc l).length∧(pickJ xss tool now rs rc l).1=getI (orderF rs rc l) jDf i∧fitB xss tool now rc (getI (orderF rs rc l) jDf i)=true∧∀ k,k < i→fitB xss tool now rc (getI (orderF rs rc l) jDf k)=false:=by
  unfold pickJ at h ⊢
  split at h
  · cases h
  · rename_i h0
    rw [if_neg h0]
    obtain ⟨h1,h2,h3⟩:=idxF_ge (d:=jDf) h0
    exact ⟨_,h1,rfl,h2,fun k hk=>h3 k (by omega)⟩
theorem pick_spec {xss:List (List Bk.El)} {tool now rc:Int} {rs:List Int} (hr:RulesOk rs) {l:List JobT} (hl:Lots l) (h:(pickJ xss tool now rs rc l).2=true) :
    (pickJ xss tool now rs rc l).1∈l∧fitB xss tool now rc (pickJ xss tool now rs rc l).1=true∧∀ j∈l,aheadV rc j (pickJ xss tool now rs rc l).1 rs→fitB xss tool now rc j=false:=by
  obtain ⟨i,h1,h2,h3,h4⟩:=pick_yes h
  obtain ⟨hs,hp⟩:=order_spec (rc:=rc) hr hl
  rw [h2]
  have hm:getI (orderF rs rc l) jDf i∈orderF rs rc l:=by rw [getI_elem h1];exact List.getElem_mem _
  refine ⟨hp.mem_iff.1 hm,h3,fun j hj ha=>?_⟩
  obtain ⟨k,hk,rfl⟩:=List.getElem_of_mem (hp.mem_iff.2 hj)
  rw [← getI_elem hk]
  refine h4 k ?_
  rcases Nat.lt_trichotomy k i with h5|h5|h5
  · exact h5
  · subst h5
    rw [getI_elem hk] at ha
    exact absurd ha aheadV_irr
  · have:=List.pairwise_iff_getElem.1 hs i k h1 hk h5
    rw [getI_elem h1] at ha
    exact absurd ha (aheadV_asymm this)
end Go.AM.YtkgmmmhokgdcaaaGreat
end

section
set_option linter.all false
namespace Go.AM.YtkgmmmhokgdcaaaGreat
open Go.Proofs
set_option maxRecDepth 100000
set_option maxHeartbeats 8000000
end Go.AM.YtkgmmmhokgdcaaaGreat
end

section
set_option linter.all false
namespace Go.AM.YtkgmmmhokgdcaaaGreat
open Go.Proofs
theorem Lots.nodup {l:List JobT} (h:Lots l):l.Nodup:=List.Pairwise.imp (fun {a b} hab e=>hab (by rw [e])) h
theorem Srt.ahead {rs:List Int} {rc:Int} {l:List JobT} (h:Srt rs rc l) {i k:Nat} (hk:k < i) (hi:i < l.length):aheadV rc (getI l jDf k) (getI l jDf i) rs:=by
  have:=List.pairwise_iff_getElem.1 h k i (by omega) hi hk
  rwa [getI_elem hi,getI_elem (by omega)]
theorem length_b (rc:Int) (j:JobT):jLen j≤lengthF rc j∧lengthF rc j≤jLen j+20:=by
  unfold lengthF lengthI
  split <;> omega
theorem fit_free {xss:List (List Bk.El)} (g:CalG xss) {tool now rc o:Int} {j:JobT} (h0:0≤tool) (h1:tool < 60) (hn:0≤now) (hj:1≤jLen j∧jLen j≤10000) (he:now+lengthF rc j≤1000000)
    (ho:1≤o∧o≤1000000) (h:fitB xss tool now rc j=true):freeF xss ((tool,now,now+lengthF rc j,o):Bk.El)=true:=by
  rw [fit_iff g h0 h1 hn hj he] at h
  have hb:=length_b rc j
  refine free_iff.2 ⟨⟨h0,h1,hn,by show now < now+lengthF rc j;omega,he,ho.1,ho.2⟩,fun c hc hm=>?_⟩
  have:busyF xss tool now (now+lengthF rc j)=true:=busy_iff.2 ⟨h0,h1,by omega,c,hc,hm⟩
  rw [this] at h
  cases h
end Go.AM.YtkgmmmhokgdcaaaGreat
end

section

end

section
set_option linter.all false
namespace Go.AM.YtkgmmmhokgdcaaaGreat.Pl
open Go.Proofs
set_option maxRecDepth 100000
set_option maxHeartbeats 4000000
def pickP:Spec:=plain fun
  | [.int .i64 c,.int .i64 n]=>outV (0 < n) (.int .i64 (pickF c n))
  | _=>none
theorem pick_b {c n:Int} (h:0 < n):0≤pickF c n∧pickF c n < n:=⟨Int.emod_nonneg _ (by omega),Int.emod_lt_of_pos _ h⟩
theorem pickF_neg {c n:Int} (h:0 < n) (c1:c < 0):pickF c n=(0 - (c+1)).tmod n:=by
  unfold pickF;rw [if_pos c1,Int.tmod_eq_emod_of_nonneg (by omega)];congr 1;omega
theorem pickF_pos {c n:Int} (h:0 < n) (c1:¬ c < 0):pickF c n=c.tmod n:=by
  unfold pickF;rw [if_neg c1,Int.tmod_eq_emod_of_nonneg (by omega)]
theorem pickPOk:SpecSound Tryz.prog 40 pickP:=by
  refine soundP (envOf sigNil) Tryz.func40 (c:=body Tryz.f40) rfl (by kernel_rfl) rfl ?_
  intro args out hf hpre
  split at hf <;> try (cases hf;done)
  rename_i c n
  cases hf
  refine ⟨Nat.le_of_ble_eq_true rfl,initI rfl ?_⟩
  refine factInt (t:=0) rfl (fun hc=>?_)
  have hc:=wrap64 hc
  change 0 < n at hpre
  repeat' (first|with_reducible (first|apply pN|apply cN|apply bN|apply cE|apply cR|apply bR|apply lE|apply lR|apply jE|apply jR)|refine zE ?_|refine zP ?_|refine pD ?_|refine zS ?_|refine zR ?_|refine zO ?_|refine zB ?_|refine zX ?_|refine zT ?_|refine skipI rfl ?_)
  refine condI rfl (fun c1=>?_) (fun c1=>?_)
  · simp only [decide_eq_true_eq] at c1
    repeat' (first|with_reducible (first|apply pN|apply cN|apply bN|apply cE|apply cR|apply bR|apply lE|apply lR|apply jE|apply jR)|refine zE ?_|refine zP ?_|refine pD ?_|refine zS ?_|refine zR ?_|refine zO ?_|refine zB ?_|refine zX ?_|refine zT ?_|refine skipI rfl ?_)
    refine endR rfl ?_
    repeat' (first|exact trivial|exact rfl|refine ⟨rfl,?_⟩|refine And.intro ?_ ?_)
    exact pickF_neg hpre c1
  · simp only [decide_eq_false_iff_not] at c1
    repeat' (first|with_reducible (first|apply pN|apply cN|apply bN|apply cE|apply cR|apply bR|apply lE|apply lR|apply jE|apply jR)|refine zE ?_|refine zP ?_|refine pD ?_|refine zS ?_|refine zR ?_|refine zO ?_|refine zB ?_|refine zX ?_|refine zT ?_|refine skipI rfl ?_)
    refine endR rfl ?_
    repeat' (first|exact trivial|exact rfl|refine ⟨rfl,?_⟩|refine And.intro ?_ ?_)
    exact pickF_pos hpre c1
def sigPick:List (Nat × Spec):=[(40,pickP)]
theorem sigPickOk:SigOk Tryz.prog (look sigPick):=sigCons sigNil Tryz.func40 (by kernel_rfl) (c:=body Tryz.f40) rfl pickPOk
end Go.AM.YtkgmmmhokgdcaaaGreat.Pl
end

section
set_option linter.all false
namespace Go.AM.YtkgmmmhokgdcaaaGreat.Pl
open Go.Proofs
set_option maxRecDepth 100000
set_option maxHeartbeats 8000000
abbrev StT:=Int × Int × (Int × Int) × Int × Int
abbrev WiT:=Int × Int × Int
abbrev Six:=Int × Int × Int × Int × Int × Int
def six (x:List Six) (i:Nat):Six:=getI x tSix.dflt i
def mA (x:List Six):Int:=if 0 < (x.length:Int) then pickF (six x 0).2.2.2.2.1 5 else 2
def stMn (y:Six):Int:=1+pickF y.1 20
def stMx (y:Six):Int:=stMn y+pickF (y.1.tdiv 20) 12
theorem getI_append_lt {α:Type} {xs ys:List α} {d:α} {j:Nat} (h:j < xs.length):getI (xs++ys) d j=getI xs d j:=by
  simp [getI,List.getD,List.getElem?_append_left h]
theorem getI_append_eq {α:Type} {xs:List α} {y d:α}:getI (xs++[y]) d xs.length=y:=by
  simp [getI,List.getD]
end Go.AM.YtkgmmmhokgdcaaaGreat.Pl
end

section
set_option linter.all false
namespace Go.AM.YtkgmmmhokgdcaaaGreat.Pl
open Go.Proofs
end Go.AM.YtkgmmmhokgdcaaaGreat.Pl
end

section
set_option linter.all false
namespace Go.AM.YtkgmmmhokgdcaaaGreat.Pl
open Go.Proofs
set_option maxRecDepth 100000
set_option maxHeartbeats 8000000
abbrev Two:=Int × Int
def two (y:List Two) (i:Nat):Two:=if (i:Int) < y.length then getI y tTwo.dflt i else (0,0)
def stg (xs:List StT) (i:Nat):StT:=getI xs tStage.dflt i
def cDe (a b:Int) (y:List Two):Int:=if 0 < (y.length:Int) then a+pickF ((getI y tTwo.dflt 0).1.tdiv 7) (b - a+1) else a
def cDu (xs:List StT) (y:List Two):Nat→List Int
  | 0=>[]
  | i+1=>cDu xs y i++[(stg xs i).1+pickF (two y i).1 ((stg xs i).2.1 - (stg xs i).1+1)]
def cMo (a b:Int) (y:List Two):Nat→List Int
  | 0=>[]
  | i+1=>cMo a b y i++[a+pickF (two y i).2 (b - a+1)]
def cIx (xs:List StT) (tool:Int):Int:=pickF (tool.tdiv 4) xs.length
def cTl (xs:List StT) (tool:Int):Int:=if 0 < pickF tool 4 then (stg xs (cIx xs tool).toNat).2.2.1.1 else -1
def cFa (xs:List StT) (tool at':Int):Int :=
  if 0 < pickF tool 4 then (if 0 < pickF at' 3 then max 0 ((stg xs (cIx xs tool).toNat).2.2.1.2 - 20+pickF (at'.tdiv 3) 50) else pickF at' ((stg xs ((xs.length:Int) - 1).toNat).2.2.2.2+50)) else 0
def chosenS:Spec:=plain fun
  | [.agg [.int .i64 e,.int .i64 a,.int .i64 b,.sl (.pair (.int .i64) (.pair (.int .i64) (.pair (.pair (.int .i64) (.int .i64)) (.pair (.int .i64) (.int .i64))))) xs,.sl (.pair (.int .i64) (.pair (.int .i64) (.int .i64))) ws],.sl (.pair (.int .i64) (.int .i64)) y,.int .i64 tool,.int .i64 at'] =>
    some ⟨validF e a b xs ws=true,.agg [.own 0,.own 1,.int .i64 (cDe a b y),.int .i64 (cTl xs tool),.int .i64 (cFa xs tool at')],[.seq tInt (cDu xs y xs.length),.seq tInt (cMo a b y xs.length)],false⟩
  | _=>none
theorem cDu_len {xs:List StT} {y:List Two}:∀ i:Nat,(cDu xs y i).length=i
  | 0=>rfl
  | i+1=>by simp [cDu,cDu_len i]
theorem cMo_len {a b:Int} {y:List Two}:∀ i:Nat,(cMo a b y i).length=i
  | 0=>rfl
  | i+1=>by simp [cMo,cMo_len i]
theorem chosenOk:SpecSound Tryz.prog 13 chosenS:=by
  refine soundP (envOf sigPickOk) Tryz.func13 (c:=body Tryz.f13) rfl (by kernel_rfl) rfl ?_
  intro args out hf hpre
  split at hf <;> try (cases hf;done)
  rename_i e a b xs ws y tool at'
  cases hf
  refine ⟨Nat.le_of_ble_eq_true rfl,initI (args:=[.agg [.int .i64 e,.int .i64 a,.int .i64 b,.sl tStage xs,.sl tWin ws],.sl tTwo y,.int .i64 tool,.int .i64 at']) rfl ?_⟩
  have F:=valid_facts (show validF e a b xs ws=true from hpre)
  have hn:=F.n
  have hab:=F.ab
  repeat' (first|with_reducible (first|apply pN|apply cN|apply bN|apply cE|apply cR|apply bR|apply lE|apply lR|apply jE|apply jR)|refine zE ?_|refine zP ?_|refine pD ?_|refine zS ?_|refine zR ?_|refine zO ?_|refine zB ?_|refine zX ?_|refine zT ?_|refine skipI rfl ?_)
  refine joinC (fun _:Unit=>[]) (fun _=>[(9,.box [.nilsl,.nilsl,.int .i64 (cDe a b y),.int .i64 (-1),.int .i64 0])]) (fun _=>True) (fun _=>rfl) ?_ (fun _ _=>?_)
  · have hp:=fun c=>@pick_b c (b - a+1) (by omega)
    refine condI rfl (fun c1=>?_) (fun c1=>?_)
    · simp only [decide_eq_true_eq] at c1
      have:=hp ((getI y tTwo.dflt 0).1.tdiv 7)
      repeat' (first|with_reducible (first|apply pN|apply cN|apply bN|apply cE|apply cR|apply bR|apply lE|apply lR|apply jE|apply jR)|refine zE ?_|refine zP ?_|refine pD ?_|refine pC (by (simp only [Int.toNat_zero];omega)) ?_|refine zS ?_|refine zR ?_|refine zO ?_|refine zB ?_|refine zX ?_|refine zT ?_|refine skipI rfl ?_)
      refine meetI () rfl trivial ?_
      repeat' (first|exact trivial|exact rfl|refine ⟨rfl,?_⟩|refine And.intro ?_ ?_)
      unfold cDe;rw [if_pos c1];rfl
    · simp only [decide_eq_false_iff_not] at c1
      repeat' (first|with_reducible (first|apply pN|apply cN|apply bN|apply cE|apply cR|apply bR|apply lE|apply lR|apply jE|apply jR)|refine zE ?_|refine zP ?_|refine pD ?_|refine zS ?_|refine zR ?_|refine zO ?_|refine zB ?_|refine zX ?_|refine zT ?_|refine skipI rfl ?_)
      refine meetI () rfl trivial ?_
      repeat' (first|exact trivial|exact rfl|refine ⟨rfl,?_⟩|refine And.intro ?_ ?_)
      unfold cDe;rw [if_neg c1]
  · repeat' (first|with_reducible (first|apply pN|apply cN|apply bN|apply cE|apply cR|apply bR|apply lE|apply lR|apply jE|apply jR)|refine zE ?_|refine zP ?_|refine pD ?_|refine zS ?_|refine zR ?_|refine zO ?_|refine zB ?_|refine zX ?_|refine zT ?_|refine skipI rfl ?_)
    refine loopI (σ:=Nat) (fun i=>[(10,.int .i64 i)]) (fun i=>[(9,.box [.own 3000,.own 3100,.int .i64 (cDe a b y),.int .i64 (-1),.int .i64 0]),(3000,.seq tInt (cDu xs y i)),(3100,.seq tInt (cMo a b y i))]) (fun i=>i≤xs.length) (fun i=>xs.length - i) 0 rfl (fun _=>rfl) rfl ?_ ?_ ?_
    · exact Nat.zero_le _
    · repeat' (first|exact trivial|exact rfl|refine ⟨rfl,?_⟩|refine And.intro ?_ ?_)
    · intro i hi
      have hdl:=cDu_len (xs:=xs) (y:=y) i
      have hml:=cMo_len (a:=a) (b:=b) (y:=y) i
      repeat' (first|with_reducible (first|apply pN|apply cN|apply bN|apply cE|apply cR|apply bR|apply lE|apply lR|apply jE|apply jR)|refine zE ?_|refine zP ?_|refine pD ?_|refine zS ?_|refine zR ?_|refine zO ?_|refine zB ?_|refine zX ?_|refine zT ?_|refine skipI rfl ?_)
      refine condI rfl (fun c2=>?_) (fun c2=>?_)
      · simp only [decide_eq_true_eq] at c2
        have hs:=F.st i (by omega)
        unfold StOk at hs
        repeat' (first|with_reducible (first|apply pN|apply cN|apply bN|apply cE|apply cR|apply bR|apply lE|apply lR|apply jE|apply jR)|refine zE ?_|refine zP ?_|refine pD ?_|refine zS ?_|refine zR ?_|refine zO ?_|refine zB ?_|refine zX ?_|refine zT ?_|refine skipI rfl ?_)
        refine joinC (fun _:Unit=>[]) (fun _=>[(11,.box [.int .i64 (two y i).1,.int .i64 (two y i).2])]) (fun _=>True) (fun _=>rfl) ?_ (fun _ _=>?_)
        · refine condI rfl (fun c3=>?_) (fun c3=>?_)
          · simp only [decide_eq_true_eq] at c3
            repeat' (first|with_reducible (first|apply pN|apply cN|apply bN|apply cE|apply cR|apply bR|apply lE|apply lR|apply jE|apply jR)|refine zE ?_|refine zP ?_|refine pD ?_|refine zS ?_|refine zR ?_|refine zO ?_|refine zB ?_|refine zX ?_|refine zT ?_|refine skipI rfl ?_)
            refine meetI () rfl trivial ?_
            repeat' (first|exact trivial|exact rfl|refine ⟨rfl,?_⟩|refine And.intro ?_ ?_)
            all_goals (unfold two;rw [if_pos c3];rfl)
          · simp only [decide_eq_false_iff_not] at c3
            repeat' (first|with_reducible (first|apply pN|apply cN|apply bN|apply cE|apply cR|apply bR|apply lE|apply lR|apply jE|apply jR)|refine zE ?_|refine zP ?_|refine pD ?_|refine zS ?_|refine zR ?_|refine zO ?_|refine zB ?_|refine zX ?_|refine zT ?_|refine skipI rfl ?_)
            refine meetI () rfl trivial ?_
            repeat' (first|exact trivial|exact rfl|refine ⟨rfl,?_⟩|refine And.intro ?_ ?_)
            all_goals (unfold two;rw [if_neg c3])
        · have p1:=@pick_b (two y i).1 ((stg xs i).2.1 - (stg xs i).1+1) (by unfold stg;omega)
          have p2:=@pick_b (two y i).2 (b - a+1) (by omega)
          unfold stg at p1
          repeat' (first|with_reducible (first|apply pN|apply cN|apply bN|apply cE|apply cR|apply bR|apply lE|apply lR|apply jE|apply jR)|refine zE ?_|refine zP ?_|refine pD ?_|refine pC (by (simp only [Int.toNat_natCast,List.length_cons,List.length_nil];omega)) ?_|refine zS ?_|refine zR ?_|refine zO ?_|refine zB ?_|refine zX ?_|refine zT ?_|refine skipI rfl ?_)
          refine roundI (i+1) rfl ?_ ?_ ?_
          · omega
          · show xs.length - (i+1) < xs.length - i;omega
          · repeat' (first|exact trivial|exact rfl|refine ⟨rfl,?_⟩|refine And.intro ?_ ?_)
      · simp only [decide_eq_false_iff_not] at c2
        obtain rfl:i=xs.length:=by omega
        repeat' (first|with_reducible (first|apply pN|apply cN|apply bN|apply cE|apply cR|apply bR|apply lE|apply lR|apply jE|apply jR)|refine zE ?_|refine zP ?_|refine pD ?_|refine zS ?_|refine zR ?_|refine zO ?_|refine zB ?_|refine zX ?_|refine zT ?_|refine skipI rfl ?_)
        have hix:=@pick_b (tool.tdiv 4) (xs.length:Int) (by omega)
        have hsl:=F.st (xs.length - 1) (by omega)
        have hsi:=F.st (pickF (tool.tdiv 4) xs.length).toNat (by omega)
        have e1:((xs.length:Int) - 1).toNat=xs.length - 1:=by omega
        unfold StOk at hsl hsi
        refine condI rfl (fun c4=>?_) (fun c4=>?_)
        · simp only [decide_eq_true_eq] at c4
          have p3:=@pick_b at' ((getI xs tStage.dflt (xs.length - 1)).2.2.2.2+50) (by omega)
          repeat' (first|with_reducible (first|apply pN|apply cN|apply bN|apply cE|apply cR|apply bR|apply lE|apply lR|apply jE|apply jR)|refine zE ?_|refine zP ?_|refine pD ?_|refine pC (by (simp only [e1];omega)) ?_|refine zS ?_|refine zR ?_|refine zO ?_|refine zB ?_|refine zX ?_|refine zT ?_|refine skipI rfl ?_)
          refine condI rfl (fun c5=>?_) (fun c5=>?_)
          · simp only [decide_eq_true_eq] at c5
            have p4:=@pick_b (at'.tdiv 3) 50 (by decide)
            repeat' (first|with_reducible (first|apply pN|apply cN|apply bN|apply cE|apply cR|apply bR|apply lE|apply lR|apply jE|apply jR)|refine zE ?_|refine zP ?_|refine pD ?_|refine zS ?_|refine zR ?_|refine zO ?_|refine zB ?_|refine zX ?_|refine zT ?_|refine skipI rfl ?_)
            refine endR rfl ?_
            repeat' (first|exact trivial|exact rfl|refine ⟨rfl,?_⟩|refine And.intro ?_ ?_)
            · unfold cTl;rw [if_pos c4];rfl
            · unfold cFa;rw [if_pos c4,if_pos c5];rfl
          · simp only [decide_eq_false_iff_not] at c5
            repeat' (first|with_reducible (first|apply pN|apply cN|apply bN|apply cE|apply cR|apply bR|apply lE|apply lR|apply jE|apply jR)|refine zE ?_|refine zP ?_|refine pD ?_|refine zS ?_|refine zR ?_|refine zO ?_|refine zB ?_|refine zX ?_|refine zT ?_|refine skipI rfl ?_)
            refine endR rfl ?_
            repeat' (first|exact trivial|exact rfl|refine ⟨rfl,?_⟩|refine And.intro ?_ ?_)
            · unfold cTl;rw [if_pos c4];rfl
            · unfold cFa;rw [if_pos c4,if_neg c5];rfl
        · simp only [decide_eq_false_iff_not] at c4
          repeat' (first|with_reducible (first|apply pN|apply cN|apply bN|apply cE|apply cR|apply bR|apply lE|apply lR|apply jE|apply jR)|refine zE ?_|refine zP ?_|refine pD ?_|refine zS ?_|refine zR ?_|refine zO ?_|refine zB ?_|refine zX ?_|refine zT ?_|refine skipI rfl ?_)
          refine endR rfl ?_
          repeat' (first|exact trivial|exact rfl|refine ⟨rfl,?_⟩|refine And.intro ?_ ?_)
          · unfold cTl;rw [if_neg c4]
          · unfold cFa;rw [if_neg c4]
end Go.AM.YtkgmmmhokgdcaaaGreat.Pl
end

section
set_option linter.all false
namespace Go.AM.YtkgmmmhokgdcaaaGreat.Pl
open Go.Proofs
theorem cDu_at {xs:List StT} {y:List Two} {i:Nat}:∀ {n:Nat},i < n→getI (cDu xs y n) 0 i=(stg xs i).1+pickF (two y i).1 ((stg xs i).2.1 - (stg xs i).1+1)
  | 0,h=>by omega
  | n+1,h=>by
    by_cases hi:i < n
    · rw [cDu,getI_append_lt (by rw [cDu_len];exact hi),cDu_at hi]
    · obtain rfl:i=n:=by omega
      have:=@getI_append_eq Int (cDu xs y i) ((stg xs i).1+pickF (two y i).1 ((stg xs i).2.1 - (stg xs i).1+1)) 0
      rwa [cDu_len] at this
theorem cMo_at {a b:Int} {y:List Two} {i:Nat}:∀ {n:Nat},i < n→getI (cMo a b y n) 0 i=a+pickF (two y i).2 (b - a+1)
  | 0,h=>by omega
  | n+1,h=>by
    by_cases hi:i < n
    · rw [cMo,getI_append_lt (by rw [cMo_len];exact hi),cMo_at hi]
    · obtain rfl:i=n:=by omega
      have:=@getI_append_eq Int (cMo a b y i) (a+pickF (two y i).2 (b - a+1)) 0
      rwa [cMo_len] at this
theorem fault_b {e a b:Int} {xs:List StT} {ws:List WiT} (F:Facts e a b xs ws) (tool at':Int) :
    (cTl xs tool=-1∧cFa xs tool at'=0)∨(0≤cTl xs tool∧cTl xs tool≤59∧0≤cFa xs tool at'∧cFa xs tool at'≤1000000+50):=by
  have hn:=F.n
  have hix:=@pick_b (tool.tdiv 4) (xs.length:Int) (by omega)
  have hs:=F.st (cIx xs tool).toNat (by unfold cIx;omega)
  have hl:=F.st ((xs.length:Int) - 1).toNat (by omega)
  unfold StOk at hs hl
  have p3:=@pick_b at' ((getI xs tStage.dflt ((xs.length:Int) - 1).toNat).2.2.2.2+50) (by omega)
  have p4:=@pick_b (at'.tdiv 3) 50 (by decide)
  unfold cTl cFa stg
  by_cases h:0 < pickF tool 4
  · rw [if_pos h,if_pos h]
    split <;> omega
  · rw [if_neg h,if_neg h]
    exact .inl ⟨rfl,rfl⟩
theorem poss_of {e a b:Int} {xs:List StT} {ws:List WiT} {du mo:List Int} {de tl fa:Int} (hv:validF e a b xs ws=true) (h1:du.length=xs.length) (h2:mo.length=xs.length) (h3:a≤de∧de≤b)
    (h4:∀ i,i < xs.length→AtOk (getI xs tStage.dflt i).1 (getI xs tStage.dflt i).2.1 a b (getI du 0 i) (getI mo 0 i)) (h5:(tl=-1∧fa=0)∨(0≤tl∧tl≤59∧0≤fa∧fa≤1000000)):possF e a b xs ws du mo de tl fa=true:=by
  unfold possF
  rw [hv]
  simp only [Bool.true_and,Bool.and_eq_true,Bool.or_eq_true,within_iff,decide_eq_true_eq,List.all_eq_true,List.mem_range]
  refine ⟨⟨⟨⟨h1,h2⟩,h3⟩,fun i hi=>?_⟩,?_⟩
  · have:=h4 i hi
    unfold AtOk at this
    simpa only [fitsAt,Bool.and_eq_true,within_iff] using this
  · rcases h5 with h|h
    · exact .inl h
    · exact .inr ⟨⟨h.1,h.2.1⟩,h.2.2.1,h.2.2.2⟩
theorem chosen_at {e a b:Int} {xs:List StT} {ws:List WiT} (F:Facts e a b xs ws) (y:List Two):∀ i,i < xs.length→AtOk (getI xs tStage.dflt i).1 (getI xs tStage.dflt i).2.1 a b (getI (cDu xs y xs.length) 0 i) (getI (cMo a b y xs.length) 0 i):=fun i hi=>by
  rw [cDu_at hi,cMo_at hi]
  have hs:=F.st i hi
  have hab:=F.ab
  unfold StOk at hs
  have p1:=@pick_b (two y i).1 ((stg xs i).2.1 - (stg xs i).1+1) (by unfold stg;omega)
  have p2:=@pick_b (two y i).2 (b - a+1) (by omega)
  unfold stg at p1 ⊢
  unfold AtOk
  omega
theorem cDe_b {e a b:Int} {xs:List StT} {ws:List WiT} (F:Facts e a b xs ws) (y:List Two):a≤cDe a b y∧cDe a b y≤b:=by
  have hab:=F.ab
  have:=@pick_b ((getI y tTwo.dflt 0).1.tdiv 7) (b - a+1) (by omega)
  unfold cDe
  split <;> omega
theorem chosen_poss {e a b:Int} {xs:List StT} {ws:List WiT} (hv:validF e a b xs ws=true) (hlate:(getI xs tStage.dflt ((xs.length:Int) - 1).toNat).2.2.2.2+50≤1000000∧∀ i,i < xs.length→(getI xs tStage.dflt i).2.2.1.2+50≤1000000) (y:List Two) (tool at':Int) :
    possF e a b xs ws (cDu xs y xs.length) (cMo a b y xs.length) (cDe a b y) (cTl xs tool) (cFa xs tool at')=true:=by
  have F:=valid_facts hv
  refine poss_of hv (cDu_len _) (cMo_len _) (cDe_b F y) (chosen_at F y) ?_
  rcases fault_b F tool at' with h|h
  · exact .inl h
  · refine .inr ⟨h.1,h.2.1,h.2.2.1,?_⟩
    have hn:=F.n
    have hix:=@pick_b (tool.tdiv 4) (xs.length:Int) (by omega)
    have h1:=hlate.1
    have h2:=hlate.2 (cIx xs tool).toNat (by unfold cIx;omega)
    have hl:=F.st ((xs.length:Int) - 1).toNat (by omega)
    unfold StOk at hl
    have p3:=@pick_b at' ((getI xs tStage.dflt ((xs.length:Int) - 1).toNat).2.2.2.2+50) (by omega)
    have p4:=@pick_b (at'.tdiv 3) 50 (by decide)
    unfold cFa stg
    split
    · split <;> omega
    · omega
abbrev ViT:=Int × Int × Int × Int
def vis (out:List ViT) (j:Nat):ViT:=getI out tVisit.dflt j
def prevE (e:Int) (out:List ViT):Nat→Int
  | 0=>e
  | j+1=>(vis out j).2.2.2
def VisR (xs:List StT) (du mo:List Int) (de tl fa e:Int) (out:List ViT) (j:Nat):Prop :=
  reachedAt xs du mo de tl fa j (prevE e out j)=(((vis out j).2.1,(vis out j).2.2.1),true)∧(vis out j).1=(j:Int)∧(vis out j).2.2.2=(vis out j).2.2.1+getI du 0 j
def wFr (ws:List WiT) (k:Nat):Int:=(getI ws tWin.dflt k).1
def wTo (ws:List WiT) (k:Nat):Int:=(getI ws tWin.dflt k).2.1
def wLi (ws:List WiT) (k:Nat):Int:=(getI ws tWin.dflt k).2.2
def LateAt (ws:List WiT) (out:List ViT) (k:Nat):Prop:=wLi ws k < (vis out (wTo ws k).toNat).2.2.1 - (vis out (wFr ws k).toNat).2.2.2
structure RunR (xs:List StT) (ws:List WiT) (du mo:List Int) (de tl fa e:Int) (r:List ViT) (kind num:Int):Prop where
  len:r.length≤xs.length
  vis:∀ j,j < r.length→VisR xs du mo de tl fa e r j
  kept:∀ k,k < ws.length→wTo ws k < r.length→LateAt ws r k→kind=2∧wTo ws k+1=r.length∧num≤k
  ends:(kind=0∧num=0∧r.length=xs.length)∨(kind=1∧num=r.length∧r.length < xs.length∧(reachedAt xs du mo de tl fa r.length (prevE e r r.length)).2=false) ∨
    (kind=2∧0≤num∧num < ws.length∧wTo ws num.toNat+1=r.length∧LateAt ws r num.toNat)
def sSt (xs:List StT) (j:Nat):Int:=(getI xs tStage.dflt j).2.2.2.1
end Go.AM.YtkgmmmhokgdcaaaGreat.Pl
end

section
set_option linter.all false
namespace Go.AM.YtkgmmmhokgdcaaaGreat.Pl
open Go.Proofs
set_option maxRecDepth 100000
set_option maxHeartbeats 8000000
structure Has (l:List Bk.El) (n:Nat) (xss:List (List Bk.El)):Prop where
  g:CalG xss
  len:lenF xss≤n
  all:∀ c∈l,inC xss c∧GoodB c
theorem Has.zero:Has [] 0 noCal:=⟨noCal_good,by rw [lenF_no];omega,fun c h=>by simp at h⟩
theorem Has.more {l:List Bk.El} {n:Nat} {xss:List (List Bk.El)} (h:Has l n xss) {b:Bk.El} (hf:freeF xss b=true):Has (l++[b]) (n+1) (Go.AM.YtkgmmmhokgdcaaaGreat.bookF xss b):=by
  obtain ⟨y1,y2,y3⟩:=book_yes h.g hf
  refine ⟨y1,by have:=h.len;omega,fun c hc=>?_⟩
  rcases List.mem_append.1 hc with hc|hc
  · obtain ⟨h1,h2⟩:=h.all c hc
    exact ⟨(y2 c h2.t0).2 (.inr h1),h2⟩
  · rw [List.mem_singleton.1 hc]
    have:=(free_iff.1 hf).1
    exact ⟨(y2 _ this.t0).2 (.inl rfl),this⟩
theorem Has.same {l:List Bk.El} {n:Nat} {xss:List (List Bk.El)} (h:Has l n xss) (b:Bk.El):Has l (n+1) (Go.AM.YtkgmmmhokgdcaaaGreat.bookF xss b):=by
  cases hf:freeF xss b with
  | true =>
    have:=h.more hf
    exact ⟨this.g,this.len,fun c hc=>this.all c (List.mem_append_left _ hc)⟩
  | false =>
    rw [book_no hf]
    exact ⟨h.g,by have:=h.len;omega,h.all⟩
theorem apartL {t:Nat} {T:List Bk.El} (h:GoodL t T) {a c:Bk.El} (ha:a∈T) (hc:c∈T) (hne:a≠c):¬ meet a c:=by
  obtain ⟨i,hi,rfl⟩:=List.getElem_of_mem ha
  obtain ⟨k,hk,rfl⟩:=List.getElem_of_mem hc
  rintro ⟨h1,h2⟩
  rcases Nat.lt_trichotomy i k with h3|h3|h3
  · have:=List.pairwise_iff_getElem.1 h.ord i k hi hk h3
    omega
  · subst h3;exact hne rfl
  · have:=List.pairwise_iff_getElem.1 h.ord k i hk hi h3
    omega
theorem getB_memP {T:List Bk.El} {k:Nat} (hk:k < T.length):getI T Bk.dflt k∈T:=by
  have:=List.getElem_mem (l:=T) (n:=k) hk
  simpa [getI,List.getD,List.getElem?_eq_getElem hk] using this
end Go.AM.YtkgmmmhokgdcaaaGreat.Pl
end
