/- The quickest ways are the quickest ones. -/
import Derived.Test.YtdohkcddjoammaaPw25
import Derived.Test.YtdohkcddjoammaaPw17
set_option linter.all false
namespace Go.AM.Ytdohkcddjoammaa.Fl
open Go.Proofs
set_option maxRecDepth 100000
set_option maxHeartbeats 4000000
abbrev stp (ss:List StepT) (u:Nat):StepT:=getI ss tStep.dflt u
inductive Walk (mn:Int) (ss:List StepT) (fr:Nat):Int→Nat→Prop
  | start {v:Nat} (h:(v:Int)∈afterL (stp ss fr)):Walk mn ss fr mn v
  | step {t:Int} {u v:Nat} (h:Walk mn ss fr t u) (h2:(v:Int)∈afterL (stp ss u)):Walk mn ss fr (t+stMn (stp ss u)+mn) v
theorem ord_lt {v w:WayT} (h:v.1 < w.1):ordF v w < 0:=by
  unfold ordF orF cmpI
  rw [if_pos h]
  show (-1:Int) < 0
  omega
theorem ord_gt {v w:WayT} (h:w.1 < v.1):¬ ordF v w < 0:=by
  unfold ordF orF cmpI
  rw [if_neg (by omega),if_pos h]
  show ¬ (1:Int) < 0
  omega
theorem ord_le {v w:WayT} (h:ordF v w < 0):v.1≤w.1:=by
  by_cases h2:w.1 < v.1
  · exact absurd h (ord_gt h2)
  · omega
theorem ord_ge {v w:WayT} (h:¬ ordF v w < 0):w.1≤v.1:=by
  by_cases h2:v.1 < w.1
  · exact absurd (ord_lt h2) h
  · omega
theorem getI_set {α:Type} {l:List α} {i j:Nat} {x d:α} (h:i < l.length):getI (l.set i x) d j=if i=j then x else getI l d j:=by
  unfold getI List.getD
  rw [List.getElem?_set]
  by_cases e:i=j
  · subst e;simp [h]
  · simp [e]
theorem getI_none {l:List (Option WayT)} {i:Nat} (h:¬ i < l.length):getI l none i=none:=by
  unfold getI List.getD
  rw [List.getElem?_eq_none (by omega)]
  rfl
theorem add_old {w:WayT} {out:List (Option WayT)} {n:Int} {v:Nat} {w1:WayT} (h:getI out none v=some w1):∃ w2,getI (addStep w out n) none v=some w2∧w2.1≤w1.1∧(w2=w1∨w2=w):=by
  unfold addStep
  cases hc:(getI out none n.toNat).isNone||decide (ordF w ((getI out none n.toNat).getD w0) < 0)
  · exact ⟨w1,h,Int.le_refl _,.inl rfl⟩
  · by_cases hn:n.toNat < out.length
    · show ∃ w2,getI (out.set n.toNat (some w)) none v=some w2∧_
      rw [getI_set hn]
      by_cases e:n.toNat=v
      · rw [if_pos e]
        rw [e,h] at hc
        have hc:(false||decide (ordF w w1 < 0))=true:=hc
        rw [Bool.false_or,decide_eq_true_eq] at hc
        exact ⟨w,rfl,ord_le hc,.inr rfl⟩
      · rw [if_neg e]
        exact ⟨w1,h,Int.le_refl _,.inl rfl⟩
    · show ∃ w2,getI (out.set n.toNat (some w)) none v=some w2∧_
      rw [List.set_eq_of_length_le (by omega)]
      exact ⟨w1,h,Int.le_refl _,.inl rfl⟩
theorem add_at {w:WayT} {out:List (Option WayT)} {v:Nat} (hv:v < out.length):∃ w2,getI (addStep w out (v:Int)) none v=some w2∧w2.1≤w.1:=by
  unfold addStep
  rw [show ((v:Int)).toNat=v by omega]
  cases hc:(getI out none v).isNone||decide (ordF w ((getI out none v).getD w0) < 0)
  · rw [Bool.or_eq_false_iff,decide_eq_false_iff_not] at hc
    cases hg:getI out none v with
    | none=>rw [hg] at hc;cases hc.1
    | some w1 =>
      rw [hg] at hc
      exact ⟨w1,hg,ord_ge hc.2⟩
  · show ∃ w2,getI (out.set v (some w)) none v=some w2∧_
    rw [getI_set hv,if_pos rfl]
    exact ⟨w,rfl,Int.le_refl _⟩
theorem add_new {w:WayT} {out:List (Option WayT)} {n:Int} {v:Nat} {w2:WayT} (h:getI (addStep w out n) none v=some w2):(w2=w∧v=n.toNat)∨getI out none v=some w2:=by
  unfold addStep at h
  cases hc:(getI out none n.toNat).isNone||decide (ordF w ((getI out none n.toNat).getD w0) < 0)
  · rw [hc] at h;exact .inr h
  · rw [hc] at h
    have h:getI (out.set n.toNat (some w)) none v=some w2:=h
    by_cases hn:n.toNat < out.length
    · rw [getI_set hn] at h
      by_cases e:n.toNat=v
      · rw [if_pos e] at h
        cases h
        exact .inl ⟨rfl,e.symm⟩
      · rw [if_neg e] at h;exact .inr h
    · rw [List.set_eq_of_length_le (by omega)] at h
      exact .inr h
theorem addW_old {w:WayT} {v:Nat}:∀ {ns:List Int} {out:List (Option WayT)} {w1:WayT},getI out none v=some w1→∃ w2,getI (addW out w ns) none v=some w2∧w2.1≤w1.1∧(w2=w1∨w2=w)
  | [],out,w1,h=>⟨w1,h,Int.le_refl _,.inl rfl⟩
  | n::ns,out,w1,h=>by
    obtain ⟨w2,h1,h2,h3⟩:=add_old (w:=w) (n:=n) h
    obtain ⟨w3,h4,h5,h6⟩:=addW_old (ns:=ns) h1
    refine ⟨w3,h4,by omega,?_⟩
    rcases h6 with rfl|h6
    · exact h3
    · exact .inr h6
theorem addW_at {w:WayT} {v:Nat}:∀ {ns:List Int} {out:List (Option WayT)},v < out.length→(v:Int)∈ns→∃ w2,getI (addW out w ns) none v=some w2∧w2.1≤w.1
  | [],out,hv,h=>by cases h
  | n::ns,out,hv,h=>by
    rcases List.mem_cons.1 h with h|h
    · obtain ⟨w2,h1,h2⟩:=add_at (w:=w) hv
      rw [h] at h1
      obtain ⟨w3,h4,h5,_⟩:=addW_old (w:=w) (ns:=ns) h1
      exact ⟨w3,h4,by omega⟩
    · exact addW_at (ns:=ns) (by rw [addStep_len];exact hv) h
theorem addW_new {w:WayT} {v:Nat} {w2:WayT}:∀ {ns:List Int} {out:List (Option WayT)},getI (addW out w ns) none v=some w2→(w2=w∧∃ n∈ns,v=n.toNat)∨getI out none v=some w2
  | [],out,h=>.inr h
  | n::ns,out,h=>by
    rcases addW_new (ns:=ns) (out:=addStep w out n) h with ⟨h1,m,h2,h3⟩|h
    · exact .inl ⟨h1,m,by simp [h2],h3⟩
    · rcases add_new h with ⟨h1,h2⟩|h
      · exact .inl ⟨h1,n,by simp,h2⟩
      · exact .inr h
theorem pick_none {out:List (Option WayT)} {done:List Bool}:∀ {k:Nat},pickW out done k < 0→∀ n,n < k→getI out none n=none∨getI done false n=true
  | 0,_,n,hn=>by omega
  | k+1,h,n,hn=>by
    unfold pickW at h
    cases hc:(!(getI out none k).isNone&&!getI done false k)&&(decide (pickW out done k < 0)||decide (ordF ((getI out none k).getD w0) ((getI out none (pickW out done k).toNat).getD w0) < 0))
    · rw [hc] at h
      have h:pickW out done k < 0:=h
      by_cases hnk:n=k
      · subst hnk
        rw [decide_eq_true h,Bool.true_or,Bool.and_true,Bool.and_eq_false_iff,Bool.not_eq_false',Bool.not_eq_false'] at hc
        rcases hc with hc|hc
        · exact .inl (by simpa using hc)
        · exact .inr hc
      · exact pick_none h n (by omega)
    · rw [hc] at h
      have h:(k:Int) < 0:=h
      omega
theorem pick_min {out:List (Option WayT)} {done:List Bool}:∀ {k:Nat} {a:Nat},pickW out done k=(a:Int)→∀ n wn,n < k→getI out none n=some wn→getI done false n=false→((getI out none a).getD w0).1≤wn.1
  | 0,a,h,n,wn,hn,_,_=>by omega
  | k+1,a,h,n,wn,hn,h1,h2=>by
    unfold pickW at h
    cases hc:(!(getI out none k).isNone&&!getI done false k)&&(decide (pickW out done k < 0)||decide (ordF ((getI out none k).getD w0) ((getI out none (pickW out done k).toNat).getD w0) < 0))
    · rw [hc] at h
      have h:pickW out done k=a:=h
      by_cases hnk:n=k
      · subst hnk
        rw [h1,h2,h,decide_eq_false (show ¬ (a:Int) < 0 by omega),Bool.false_or] at hc
        have hc:decide (ordF wn ((getI out none ((a:Int)).toNat).getD w0) < 0)=false:=hc
        rw [decide_eq_false_iff_not,show ((a:Int)).toNat=a by omega] at hc
        exact ord_ge hc
      · exact pick_min h n wn (by omega) h1 h2
    · rw [hc] at h
      have h:(k:Int)=a:=h
      obtain rfl:k=a:=by omega
      by_cases hnk:n=k
      · subst hnk
        rw [h1]
        exact Int.le_refl _
      · rw [Bool.and_eq_true,Bool.or_eq_true,decide_eq_true_eq,decide_eq_true_eq] at hc
        rcases hc.2 with h3|h3
        · rcases pick_none h3 n (by omega) with h4|h4
          · rw [h1] at h4;cases h4
          · rw [h2] at h4;cases h4
        · rcases pickW_spec (out:=out) (done:=done) k with h5|⟨b,h5,h6,_⟩
          · rcases pick_none (k:=k) (by rw [h5];decide) n (by omega) with h4|h4
            · rw [h1] at h4;cases h4
            · rw [h2] at h4;cases h4
          · have h7:=pick_min h5 n wn (by omega) h1 h2
            rw [h5,show ((b:Int)).toNat=b by omega] at h3
            have h8:=ord_le h3
            omega
structure Dj (mn:Int) (ss:List StepT) (fr:Nat) (out:List (Option WayT)) (done:List Bool) (M:Int):Prop where
  len:out.length=ss.length
  dlen:done.length=ss.length
  s0:∀ v:Nat,(v:Int)∈afterL (stp ss fr)→∃ w,getI out none v=some w∧w.1≤mn
  dn:∀ u:Nat,getI done false u=true→∃ w,getI out none u=some w∧w.1≤M∧∀ v:Nat,(v:Int)∈afterL (stp ss u)→∃ w',getI out none v=some w'∧w'.1≤w.1+stMn (stp ss u)+mn
  nd:∀ (u:Nat) w,getI done false u=false→getI out none u=some w→M≤w.1
theorem dj_step {mn mx:Int} {ss:List StepT} {ws:List WinT} (F:FlowSm mn mx ss ws) {fr:Nat} {out:List (Option WayT)} {done:List Bool} {M:Int} (h:Dj mn ss fr out done M) {a:Nat} (ha:a < ss.length) {wa:WayT} (hw:getI out none a=some wa) (hd:getI done false a=false)
    (hmin:∀ n wn,n < out.length→getI out none n=some wn→getI done false n=false→wa.1≤wn.1):Dj mn ss fr (addW out (nextW mn ss out a) (afterL (stp ss a))) (done.set a true) wa.1:=by
  have hst:=F.st _ (fl_mem (d:=tStep.dflt) ha)
  have hm:=hst.mn
  have h0:=F.mn0
  have hnx:(nextW mn ss out a).1=wa.1+stMn (stp ss a)+mn:=by unfold nextW;rw [hw];rfl
  have hlt:wa.1 < (nextW mn ss out a).1:=by rw [hnx];show wa.1 < wa.1+stMn (getI ss tStep.dflt a)+mn;omega
  have haft:∀ m∈afterL (stp ss a),0≤m∧m < ss.length:=after_in hst
  have hMa:=h.nd a wa hd hw
  have hdn:∀ u,getI (done.set a true) false u=if a=u then true else getI done false u:=fun u=>getI_set (by rw [h.dlen];exact ha)
  have hsame:∀ {u:Nat} {w:WayT},getI out none u=some w→w.1≤wa.1→getI (addW out (nextW mn ss out a) (afterL (stp ss a))) none u=some w:=fun {u w} hu hle=>by
    obtain ⟨w2,h1,h2,h3⟩:=addW_old (w:=nextW mn ss out a) (ns:=afterL (stp ss a)) hu
    rcases h3 with rfl|rfl
    · exact h1
    · omega
  refine ⟨by rw [addW_len,h.len],by rw [List.length_set,h.dlen],fun v hv=>?_,fun u hu=>?_,fun u w hu huw=>?_⟩
  · obtain ⟨w,h1,h2⟩:=h.s0 v hv
    obtain ⟨w2,h3,h4,_⟩:=addW_old (w:=nextW mn ss out a) (ns:=afterL (stp ss a)) h1
    exact ⟨w2,h3,by omega⟩
  · rw [hdn u] at hu
    by_cases e:a=u
    · subst e
      refine ⟨wa,hsame hw (Int.le_refl _),Int.le_refl _,fun v hv=>?_⟩
      have:=haft _ hv
      obtain ⟨w2,h1,h2⟩:=addW_at (w:=nextW mn ss out a) (ns:=afterL (stp ss a)) (out:=out) (v:=v) (by rw [h.len];omega) hv
      exact ⟨w2,h1,by rw [hnx] at h2;exact h2⟩
    · rw [if_neg e] at hu
      obtain ⟨w,h1,h2,h3⟩:=h.dn u hu
      refine ⟨w,hsame h1 (by omega),by omega,fun v hv=>?_⟩
      obtain ⟨w',h4,h5⟩:=h3 v hv
      obtain ⟨w2,h6,h7,_⟩:=addW_old (w:=nextW mn ss out a) (ns:=afterL (stp ss a)) h4
      exact ⟨w2,h6,by omega⟩
  · rw [hdn u] at hu
    by_cases e:a=u
    · rw [if_pos e] at hu;cases hu
    · rw [if_neg e] at hu
      rcases addW_new huw with ⟨h1,_⟩|h1
      · rw [h1];omega
      · refine hmin u w ?_ h1 hu
        by_cases hul:u < out.length
        · exact hul
        · rw [getI_none hul] at h1;cases h1
theorem dj_loop {mn mx:Int} {ss:List StepT} {ws:List WinT} (F:FlowSm mn mx ss ws) {fr:Nat}:∀ (f:Nat) (out:List (Option WayT)) (done:List Bool) (M:Int),Dj mn ss fr out done M→ss.length+1≤done.count true+f→∃ done' M',Dj mn ss fr (wLoop mn ss f out done) done' M'∧∀ u w,getI (wLoop mn ss f out done) none u=some w→getI done' false u=true
  | 0,out,done,M,h,hf=>by
    have:=List.count_le_length (a:=true) (l:=done)
    have:=h.dlen
    omega
  | f+1,out,done,M,h,hf=>by
    unfold wLoop
    cases hp:decide (pickW out done out.length < 0)
    · rcases pickW_spec (out:=out) (done:=done) out.length with h1|⟨a,h1,h2,h3,h4⟩
      · rw [h1] at hp;exact absurd hp (by decide)
      · have hat:(pickW out done out.length).toNat=a:=by rw [h1];rfl
        rw [hat]
        obtain ⟨wa,hwa⟩:=Option.isSome_iff_exists.1 h3
        have hmin:=pick_min h1
        rw [hwa] at hmin
        have hal:a < ss.length:=by rw [← h.len];exact h2
        have hc:=count_set (l:=done) (a:=a) (by rw [h.dlen];exact hal) h4
        exact dj_loop F f _ _ _ (dj_step F h hal hwa h4 (fun n wn=>hmin n wn)) (by rw [hc];omega)
    · refine ⟨done,M,h,fun u w hu=>?_⟩
      by_cases hul:u < out.length
      · rcases pick_none (of_decide_eq_true hp) u hul with h1|h1
        · have hu:getI out none u=some w:=hu
          rw [h1] at hu;cases hu
        · exact h1
      · have hu:getI out none u=some w:=hu
        rw [getI_none hul] at hu;cases hu
theorem repl_get {n u:Nat}:getI (List.replicate n false) false u=false:=by
  unfold getI List.getD
  rw [List.getElem?_replicate]
  split <;> rfl
theorem repl_none {n u:Nat}:getI (List.replicate n (none:Option WayT)) none u=none:=by
  unfold getI List.getD
  rw [List.getElem?_replicate]
  split <;> rfl
theorem dj_start {mn mx:Int} {ss:List StepT} {ws:List WinT} (F:FlowSm mn mx ss ws) {fr:Nat} (hf:fr < ss.length):Dj mn ss fr (startW mn ss (fr:Int)) (List.replicate ss.length false) mn:=by
  have hst:=F.st _ (fl_mem (d:=tStep.dflt) hf)
  have haft:∀ m∈afterL (stp ss fr),0≤m∧m < ss.length:=after_in hst
  unfold startW
  rw [show ((fr:Int)).toNat=fr by omega]
  refine ⟨by rw [addW_len,List.length_replicate],List.length_replicate,fun v hv=>?_,fun u hu=>?_,fun u w _ hw=>?_⟩
  · have:=haft _ hv
    obtain ⟨w,h1,h2⟩:=addW_at (w:=(mn,[])) (ns:=afterL (stp ss fr)) (out:=List.replicate ss.length none) (v:=v) (by rw [List.length_replicate];omega) hv
    exact ⟨w,h1,h2⟩
  · rw [repl_get] at hu;cases hu
  · rcases addW_new hw with ⟨h1,_⟩|h1
    · rw [h1];exact Int.le_refl _
    · rw [repl_none] at h1;cases h1
theorem ways_best {mn mx:Int} {ss:List StepT} {ws:List WinT} (F:FlowSm mn mx ss ws) {fr:Nat} (hf:fr < ss.length) {t:Int} {v:Nat} (hw:Walk mn ss fr t v):∃ w,getI (waysF mn ss (fr:Int)) none v=some w∧w.1≤t:=by
  obtain ⟨done',M',h,hall⟩:=dj_loop F (ss.length+1) _ _ _ (dj_start F hf) (by rw [show (List.replicate ss.length false).count true=0 by rw [List.count_replicate];rfl];omega)
  show ∃ w,getI (wLoop mn ss (ss.length+1) (startW mn ss (fr:Int)) (List.replicate ss.length false)) none v=some w∧w.1≤t
  induction hw with
  | start hv=>exact h.s0 _ hv
  | step hu hv ih =>
    obtain ⟨wu,h1,h2⟩:=ih
    obtain ⟨w,h3,_,h5⟩:=h.dn _ (hall _ _ h1)
    rw [h1] at h3
    cases h3
    obtain ⟨w',h6,h7⟩:=h5 _ hv
    exact ⟨w',h6,by omega⟩
def addT (mn:Int) (ss:List StepT) (t:Int) (s:Int):Int:=t+stMn (stp ss s.toNat)+mn
def timS (mn:Int) (ss:List StepT) (l:List Int):Int:=l.foldl (addT mn ss) mn
def Chain (ss:List StepT):Int→List Int→Int→Prop
  | a,[],b=>b∈afterL (stp ss a.toNat)
  | a,s::r,b=>s∈afterL (stp ss a.toNat)∧Chain ss s r b
theorem chain_snoc {ss:List StepT} {s b:Int}:∀ {l:List Int} {a:Int},Chain ss a l s→b∈afterL (stp ss s.toNat)→Chain ss a (l++[s]) b
  | [],a,h,hb=>⟨h,hb⟩
  | x::l,a,h,hb=>⟨h.1,chain_snoc (l:=l) h.2 hb⟩
theorem chain_split {ss:List StepT} {s b:Int} {q:List Int}:∀ {p:List Int} {a:Int},Chain ss a (p++s::q) b→Chain ss a p s∧Chain ss s q b
  | [],a,h=>⟨h.1,h.2⟩
  | x::p,a,h=>by
    obtain ⟨h1,h2⟩:=chain_split (p:=p) h.2
    exact ⟨⟨h.1,h1⟩,h2⟩
theorem timS_snoc {mn:Int} {ss:List StepT} {l:List Int} {s:Int}:timS mn ss (l++[s])=timS mn ss l+stMn (stp ss s.toNat)+mn:=by unfold timS;rw [List.foldl_append];rfl
def WaysOk (mn:Int) (ss:List StepT) (fr:Nat) (out:List (Option WayT)):Prop:=∀ (v:Nat) w,getI out none v=some w→w.1=timS mn ss w.2∧Chain ss (fr:Int) w.2 (v:Int)
theorem addW_ways {mn:Int} {ss:List StepT} {fr:Nat} {out:List (Option WayT)} {w:WayT} {ns:List Int} (h:WaysOk mn ss fr out) (hw:w.1=timS mn ss w.2) (hn:∀ n∈ns,0≤n∧Chain ss (fr:Int) w.2 n):WaysOk mn ss fr (addW out w ns):=by
  intro v w2 hv
  rcases addW_new hv with ⟨rfl,n,h1,h2⟩|h1
  · obtain ⟨h3,h4⟩:=hn n h1
    rw [show (v:Int)=n by omega]
    exact ⟨hw,h4⟩
  · exact h v w2 h1
theorem wLoop_ways {mn mx:Int} {ss:List StepT} {ws:List WinT} (F:FlowSm mn mx ss ws) {fr:Nat}:∀ (f:Nat) (out:List (Option WayT)) (done:List Bool),out.length=ss.length→WaysOk mn ss fr out→WaysOk mn ss fr (wLoop mn ss f out done)
  | 0,out,done,_,h=>h
  | f+1,out,done,hl,h=>by
    unfold wLoop
    cases hp:decide (pickW out done out.length < 0)
    · rcases pickW_spec (out:=out) (done:=done) out.length with h1|⟨a,h1,h2,h3,h4⟩
      · rw [h1] at hp;exact absurd hp (by decide)
      · have hat:(pickW out done out.length).toNat=a:=by rw [h1];rfl
        rw [hat]
        obtain ⟨wa,hwa⟩:=Option.isSome_iff_exists.1 h3
        have hst:=F.st _ (fl_mem (d:=tStep.dflt) (show a < ss.length by rw [← hl];exact h2))
        have hnx:nextW mn ss out a=(wa.1+stMn (stp ss a)+mn,wa.2++[(a:Int)]):=by unfold nextW;rw [hwa];rfl
        obtain ⟨g1,g2⟩:=h a wa hwa
        refine wLoop_ways F f _ _ (by rw [addW_len,hl]) (addW_ways h ?_ fun n hn=>⟨(after_in hst n hn).1,?_⟩)
        · rw [hnx]
          show wa.1+_+mn=timS mn ss (wa.2++[(a:Int)])
          rw [timS_snoc,← g1,show ((a:Int)).toNat=a by omega]
        · rw [hnx]
          exact chain_snoc g2 (by rw [show ((a:Int)).toNat=a by omega];exact hn)
    · exact h
theorem ways_ok {mn mx:Int} {ss:List StepT} {ws:List WinT} (F:FlowSm mn mx ss ws) {fr:Nat} (hf:fr < ss.length):WaysOk mn ss fr (waysF mn ss (fr:Int)):=by
  have hst:=F.st _ (fl_mem (d:=tStep.dflt) hf)
  have hs:WaysOk mn ss fr (startW mn ss (fr:Int)):=by
    unfold startW
    rw [show ((fr:Int)).toNat=fr by omega]
    refine addW_ways (fun v w hv=>?_) rfl fun n hn=>⟨(after_in hst n hn).1,by show n∈afterL (stp ss ((fr:Int)).toNat);rw [show ((fr:Int)).toNat=fr by omega];exact hn⟩
    rw [repl_none] at hv;cases hv
  exact wLoop_ways F _ _ _ (start_ok F _).1 hs
theorem chain_in {mn mx:Int} {ss:List StepT} {ws:List WinT} (F:FlowSm mn mx ss ws) {b:Int}:∀ {l:List Int} {a:Int},0≤a→a < ss.length→Chain ss a l b→(∀ s∈l,0≤s∧s < ss.length)∧0≤b∧b < ss.length
  | [],a,h0,h1,h=>⟨fun s hs=>(by cases hs),after_in (F.st _ (fl_mem (d:=tStep.dflt) (show a.toNat < ss.length by omega))) b h⟩
  | x::l,a,h0,h1,h=>by
    have hx:=after_in (F.st _ (fl_mem (d:=tStep.dflt) (show a.toNat < ss.length by omega))) x h.1
    obtain ⟨h2,h3⟩:=chain_in F (l:=l) hx.1 hx.2 h.2
    refine ⟨fun s hs=>?_,h3⟩
    rcases List.mem_cons.1 hs with rfl|hs
    · exact hx
    · exact h2 s hs
theorem chain_walk {mn mx:Int} {ss:List StepT} {ws:List WinT} (F:FlowSm mn mx ss ws) {fr:Nat}:∀ {l:List Int} {t:Int} {u b:Nat},u < ss.length→Walk mn ss fr t u→Chain ss (u:Int) l (b:Int)→Walk mn ss fr (l.foldl (addT mn ss) (t+stMn (stp ss u)+mn)) b
  | [],t,u,b,hu,h,hc=>.step h (by have hc:(b:Int)∈afterL (stp ss ((u:Int)).toNat):=hc;rwa [show ((u:Int)).toNat=u by omega] at hc)
  | x::l,t,u,b,hu,h,hc=>by
    have hx:=after_in (F.st _ (fl_mem (d:=tStep.dflt) (show ((u:Int)).toNat < ss.length by omega))) x hc.1
    obtain ⟨y,rfl⟩:∃ y:Nat,x=(y:Int):=⟨x.toNat,by omega⟩
    have h1:Walk mn ss fr (t+stMn (stp ss u)+mn) y:=.step h (by have hc:=hc.1;rwa [show ((u:Int)).toNat=u by omega] at hc)
    have h2:=chain_walk F (l:=l) (by omega) h1 hc.2
    show Walk mn ss fr (l.foldl (addT mn ss) (t+stMn (stp ss u)+mn+stMn (stp ss ((y:Int)).toNat)+mn)) b
    rwa [show ((y:Int)).toNat=y by omega]
theorem chain_walk0 {mn mx:Int} {ss:List StepT} {ws:List WinT} (F:FlowSm mn mx ss ws) {fr b:Nat} (hf:fr < ss.length) {l:List Int} (hc:Chain ss (fr:Int) l (b:Int)):Walk mn ss fr (timS mn ss l) b:=by
  have e:((fr:Int)).toNat=fr:=by omega
  cases l with
  | nil=>exact .start (by have hc:(b:Int)∈afterL (stp ss ((fr:Int)).toNat):=hc;rwa [e] at hc)
  | cons x l =>
    have hx:=after_in (F.st _ (fl_mem (d:=tStep.dflt) (show ((fr:Int)).toNat < ss.length by omega))) x hc.1
    obtain ⟨y,rfl⟩:∃ y:Nat,x=(y:Int):=⟨x.toNat,by omega⟩
    have h1:Walk mn ss fr mn y:=.start (by have hc:=hc.1;rwa [e] at hc)
    have h2:=chain_walk F (by omega) h1 hc.2
    show Walk mn ss fr (l.foldl (addT mn ss) (mn+stMn (stp ss ((y:Int)).toNat)+mn)) b
    rwa [show ((y:Int)).toNat=y by omega]
theorem fold_ge {mn mx:Int} {ss:List StepT} {ws:List WinT} (F:FlowSm mn mx ss ws):∀ {l:List Int} {t u:Int},(∀ s∈l,0≤s∧s < ss.length)→t≤u→t≤l.foldl (addT mn ss) u∧l.foldl (addT mn ss) t≤l.foldl (addT mn ss) u+(t - u)
  | [],t,u,_,h=>⟨h,by show t≤u+(t - u);omega⟩
  | x::l,t,u,hl,h=>by
    have hx:=hl x (by simp)
    have hm:=(F.st _ (fl_mem (d:=tStep.dflt) (show x.toNat < ss.length by omega))).mn
    have h0:=F.mn0
    have h1:=fold_ge F (l:=l) (t:=addT mn ss t x) (u:=addT mn ss u x) (fun s hs=>hl s (by simp [hs])) (by unfold addT;omega)
    have hm:1≤stMn (stp ss x.toNat):=hm
    have e1:t≤addT mn ss t x:=by unfold addT;omega
    have e2:addT mn ss t x - addT mn ss u x=t - u:=by unfold addT;omega
    rw [e2] at h1
    exact ⟨Int.le_trans e1 h1.1,h1.2⟩
theorem ways_apart {mn mx:Int} {ss:List StepT} {ws:List WinT} (F:FlowSm mn mx ss ws) {fr b:Nat} (hf:fr < ss.length) {w:WayT} (hw:getI (waysF mn ss (fr:Int)) none b=some w):∀ s∈w.2,s≠(fr:Int)∧s≠(b:Int):=by
  obtain ⟨h1,h2⟩:=ways_ok F hf b w hw
  obtain ⟨hin,_⟩:=chain_in F (by omega) (by omega) h2
  intro s hs
  obtain ⟨p,q,hpq⟩:=List.append_of_mem hs
  rw [hpq] at h2 hin h1
  obtain ⟨c1,c2⟩:=chain_split h2
  have hss:=hin s (by simp)
  have hm:=(F.st _ (fl_mem (d:=tStep.dflt) (show s.toNat < ss.length by omega))).mn
  have hm:1≤stMn (stp ss s.toNat):=hm
  have h0:=F.mn0
  have hsum:timS mn ss (p++s::q)=q.foldl (addT mn ss) (timS mn ss p+stMn (stp ss s.toNat)+mn):=by unfold timS;rw [List.foldl_append];rfl
  have hp:=(fold_ge F (l:=p) (t:=mn) (u:=mn) (fun x hx=>hin x (by simp [hx])) (Int.le_refl _)).1
  have hp:mn≤timS mn ss p:=hp
  have hqin:∀ x∈q,0≤x∧x < ss.length:=fun x hx=>hin x (by simp [hx])
  constructor
  · rintro rfl
    obtain ⟨w',h3,h4⟩:=ways_best F hf (chain_walk0 F hf c2)
    rw [hw] at h3
    cases h3
    have h5:=(fold_ge F (l:=q) (t:=mn) (u:=timS mn ss p+stMn (stp ss ((fr:Int)).toNat)+mn) hqin (by omega)).2
    have h5:timS mn ss q≤_:=h5
    omega
  · rintro rfl
    obtain ⟨w',h3,h4⟩:=ways_best F hf (chain_walk0 F hf c1)
    rw [hw] at h3
    cases h3
    have h5:=(fold_ge F (l:=q) (t:=timS mn ss p+stMn (stp ss ((b:Int)).toNat)+mn) (u:=timS mn ss p+stMn (stp ss ((b:Int)).toNat)+mn) hqin (Int.le_refl _)).1
    omega
end Go.AM.Ytdohkcddjoammaa.Fl
