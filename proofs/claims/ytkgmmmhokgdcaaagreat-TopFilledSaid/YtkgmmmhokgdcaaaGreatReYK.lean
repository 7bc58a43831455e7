/- Repaired plans. -/
import Derived.Test.YtkgmmmhokgdcaaaGreatPb29
set_option linter.all false
namespace Go.AM.YtkgmmmhokgdcaaaGreat.Re
open Go.Proofs
theorem stG_tools {b:Int} {T:Int→Prop}:∀ {ns:List NeedT} {c:CalT} {t:Int} {ch:List PairT} {xs:List StT},stG b c t ns ch=some xs→(∀ p∈ch,T p.1∧T p.2)→∀ x∈xs,T (mTl x)∧T (sTl x)
  | [],c,t,ch,xs,h,_=>by
    simp only [stG,Option.some.injEq] at h
    subst h
    simp
  | _::_,c,t,[],xs,h,_=>by simp [stG] at h
  | x::ns,c,t,p::ch,xs,h,hT=>by
    simp only [stG] at h
    cases h1:(firstF c p.1 (t+b) x.2.2).2 <;> rw [h1] at h
    · cases h
    · rw [cond_true] at h
      cases h2:(firstF (bookG c p.1 (t+b) x.2.2) p.2 ((firstF c p.1 (t+b) x.2.2).1+x.2.2 - 1+b) x.2.2).2 <;> rw [h2] at h
      · cases h
      · rw [cond_true,Option.map_eq_some_iff] at h
        obtain ⟨l,h3,rfl⟩:=h
        intro y hy
        rcases List.mem_cons.1 hy with rfl|hy
        · exact hT p (by simp)
        · exact stG_tools h3 (fun q hq=>hT q (by simp [hq])) y hy
theorem chL_tools {T:Int→Prop}:∀ {ns:List NeedT} {l ch:List PairT},ch∈chL ns l→(∀ x∈ns,∀ t∈x.1,T t)→(∀ p∈l,T p.1∧T p.2)→∀ p∈ch,T p.1∧T p.2
  | [],l,ch,h,_,hl=>by
    simp only [chL,List.mem_singleton] at h
    rw [h];exact hl
  | x::ns,l,ch,h,hn,hl=>by
    simp only [chL,rowOf,List.mem_flatMap] at h
    obtain ⟨a,ha,b,hb,h⟩:=h
    cases hab:decide (a≠b) <;> rw [hab] at h
    · simp at h
    · refine chL_tools h (fun y hy=>hn y (by simp [hy])) fun p hp=>?_
      rcases List.mem_append.1 hp with hp|hp
      · exact hl p hp
      · rw [List.mem_singleton.1 hp]
        exact ⟨hn x (by simp) a ha,hn x (by simp) b hb⟩
theorem mapFind_set {x y:Int} {d:Int}:∀ {l:List (Int × Int)},mapFind (.int .i64) (.int .i64) y (mapSet (.int .i64) (.int .i64) x d l)=if x=y then some d else mapFind (.int .i64) (.int .i64) y l
  | []=>by
    show (bif decide (y=x) then some d else none)=_
    by_cases h:x=y
    · rw [if_pos h,decide_eq_true h.symm];rfl
    · rw [if_neg h,decide_eq_false (fun e=>h e.symm)];rfl
  | e::l=>by
    show mapFind (.int .i64) (.int .i64) y (bif decide (x=e.1) then (x,d)::l else e::mapSet (.int .i64) (.int .i64) x d l)=_
    by_cases h1:x=e.1
    · rw [decide_eq_true h1,cond_true]
      show (bif decide (y=x) then some d else mapFind (.int .i64) (.int .i64) y l)=_
      by_cases h:x=y
      · rw [if_pos h,decide_eq_true h.symm];rfl
      · rw [if_neg h,decide_eq_false (fun e=>h e.symm),cond_false]
        show _=(bif decide (y=e.1) then some e.2 else mapFind (.int .i64) (.int .i64) y l)
        rw [decide_eq_false (fun e'=>h (by rw [h1,e']))]
        rfl
    · rw [decide_eq_false h1,cond_false]
      show (bif decide (y=e.1) then some e.2 else mapFind (.int .i64) (.int .i64) y (mapSet (.int .i64) (.int .i64) x d l))=_
      rw [mapFind_set (l:=l)]
      show _=if x=y then some d else (bif decide (y=e.1) then some e.2 else mapFind (.int .i64) (.int .i64) y l)
      by_cases h2:y=e.1
      · rw [decide_eq_true h2,cond_true,cond_true,if_neg (fun e'=>h1 (by rw [e',h2]))]
      · rw [decide_eq_false h2,cond_false,cond_false]
def dlOf (xs:List StT) (w:Int × Int × Int):Int:=mSt (getI xs tStage.dflt w.1.toNat)+sMin (getI xs tStage.dflt w.1.toNat)+w.2.2
def Has (s:RestT) (y d:Int):Prop:=∃ d',mapFind (.int .i64) (.int .i64) y s.1=some d'∧d'≤d
theorem step_has {xs:List StT} {done:Int} {s:RestT} {w:Int × Int × Int} {y d:Int} (h:Has s y d):Has (restStep xs done s w) y d:=by
  obtain ⟨d',h1,h2⟩:=h
  unfold restStep
  cases decide (w.1≥done)
  · rw [cond_false]
    cases decide (w.2.1≥done)
    · exact ⟨d',h1,h2⟩
    · rw [cond_true]
      show Has ((bif _ then _ else _),s.2) y d
      cases hc:(!(mapFind (.int .i64) (.int .i64) (w.2.1 - done) s.1).isSome||decide (mSt (getI xs tStage.dflt w.1.toNat)+sMin (getI xs tStage.dflt w.1.toNat)+w.2.2 < (mapFind (.int .i64) (.int .i64) (w.2.1 - done) s.1).getD (0:Int)))
      · exact ⟨d',h1,h2⟩
      · rw [cond_true]
        by_cases hy:w.2.1 - done=y
        · rw [hy,h1] at hc
          have hc:(false||decide (mSt (getI xs tStage.dflt w.1.toNat)+sMin (getI xs tStage.dflt w.1.toNat)+w.2.2 < d'))=true:=hc
          rw [Bool.false_or,decide_eq_true_eq] at hc
          exact ⟨dlOf xs w,by show mapFind (.int .i64) (.int .i64) y (mapSet (.int .i64) (.int .i64) (w.2.1 - done) _ s.1)=_;rw [mapFind_set,if_pos hy];rfl,Int.le_of_lt (Int.lt_of_lt_of_le hc h2)⟩
        · exact ⟨d',by show mapFind (.int .i64) (.int .i64) y (mapSet (.int .i64) (.int .i64) (w.2.1 - done) _ s.1)=_;rw [mapFind_set,if_neg hy];exact h1,h2⟩
  · exact ⟨d',h1,h2⟩
theorem fold_has {xs:List StT} {done:Int} {y d:Int}:∀ {l:List tWin.El} {s:RestT},Has s y d→Has (l.foldl (restStep xs done) s) y d
  | [],_,h=>h
  | w::l,s,h=>(show Has (l.foldl (restStep xs done) (restStep xs done s w)) y d from fold_has (step_has h))
theorem step_new {xs:List StT} {done:Int} {s:RestT} {w:Int × Int × Int} (h1:w.1 < done) (h2:done≤w.2.1):Has (restStep xs done s w) (w.2.1 - done) (dlOf xs w):=by
  unfold restStep
  rw [decide_eq_false (show ¬ w.1≥done by omega),cond_false,decide_eq_true (show w.2.1≥done by omega),cond_true]
  show Has ((bif _ then _ else _),s.2) _ _
  cases hc:(!(mapFind (.int .i64) (.int .i64) (w.2.1 - done) s.1).isSome||decide (mSt (getI xs tStage.dflt w.1.toNat)+sMin (getI xs tStage.dflt w.1.toNat)+w.2.2 < (mapFind (.int .i64) (.int .i64) (w.2.1 - done) s.1).getD (0:Int)))
  · rw [cond_false]
    cases hm:mapFind (.int .i64) (.int .i64) (w.2.1 - done) s.1 with
    | none=>rw [hm] at hc;cases hc
    | some d' =>
      rw [hm] at hc
      have hc:(false||decide (mSt (getI xs tStage.dflt w.1.toNat)+sMin (getI xs tStage.dflt w.1.toNat)+w.2.2 < d'))=false:=hc
      rw [Bool.false_or,decide_eq_false_iff_not] at hc
      exact ⟨d',hm,Int.not_lt.1 hc⟩
  · rw [cond_true]
    exact ⟨_,by show mapFind (.int .i64) (.int .i64) _ (mapSet (.int .i64) (.int .i64) (w.2.1 - done) _ s.1)=_;rw [mapFind_set,if_pos rfl];rfl,Int.le_refl _⟩
theorem rest_has {xs:List StT} {done:Int}:∀ {ws:List tWin.El} {s:RestT} {w:Int × Int × Int},w∈ws→w.1 < done→done≤w.2.1→Has (ws.foldl (restStep xs done) s) (w.2.1 - done) (dlOf xs w)
  | w'::ws,s,w,hw,h1,h2=>by
    rw [List.foldl_cons]
    rcases List.mem_cons.1 hw with rfl|hw
    · exact fold_has (step_new h1 h2)
    · exact rest_has hw h1 h2
theorem rest_kept {xs zs:List StT} {ws:List tWin.El} {done:Int} (h:lateAny (restF xs ws done).1 zs=false) {i:Nat} (hi:i < zs.length) {w:Int × Int × Int} (hw:w∈ws) (h1:w.1 < done) (h2:w.2.1=done+(i:Int)) :
    max (mSt (getI zs tStage.dflt i)) (sSt (getI zs tStage.dflt i))≤dlOf xs w:=by
  obtain ⟨d',h3,h4⟩:=rest_has (xs:=xs) (s:=([],[])) hw h1 (by omega)
  have h5:lateD (restF xs ws done).1 i (getI zs tStage.dflt i)=false:=by
    have:=List.any_eq_false.1 h i (List.mem_range.2 hi)
    simpa using this
  have h6:findD (restF xs ws done).1 i=some d':=by
    unfold findD
    rw [show ((i:Nat):Int)=w.2.1 - done by omega]
    exact h3
  unfold lateD at h5
  rw [h6] at h5
  have h5:(true&&decide (max (mSt (getI zs tStage.dflt i)) (sSt (getI zs tStage.dflt i)) > d'))=false:=h5
  rw [Bool.true_and,decide_eq_false_iff_not] at h5
  exact Int.le_trans (Int.not_lt.1 h5) h4
theorem filt_set {p:Bk.El→Bool} {l:List Bk.El}:∀ {c:CalT} {i:Nat},l.filter p=(getI c [] i).filter p→i < c.length→(c.set i l).flatten.filter p=c.flatten.filter p
  | [],_,_,h=>by simp at h
  | x::r,0,h,_=>by
    have h:l.filter p=x.filter p:=h
    simp [h]
  | x::r,i+1,h,hi=>by
    have:=filt_set (p:=p) (l:=l) (c:=r) (i:=i) h (by simpa using hi)
    simp only [List.set_cons_succ,List.flatten_cons,List.filter_append,this]
theorem owned_book {c:CalT} (h:CalG c) {b:Bk.El} {o:Int} (hb:ownsB o b=false):ownedF (bookF c b) o=ownedF c o:=by
  cases hf:freeF c b
  · rw [book_no hf]
  · unfold ownedF bookF
    rw [if_pos hf]
    have hg:=(free_iff.1 hf).1
    refine filt_set ?_ (by show (tlB b).toNat < _;rw [h.len];have:=hg.t0;have:=hg.t1;omega)
    show (addF (toolL c b.1) b).filter _=(toolL c b.1).filter _
    have e:addF (toolL c b.1) b=(toolL c b.1).take (posF (toolL c b.1) (startB b))++[b]++(toolL c b.1).drop (posF (toolL c b.1) (startB b)):=by unfold addF insF;simp
    rw [e,List.filter_append,List.filter_append,List.filter_cons,hb]
    simp only [Bool.false_eq_true,if_false,List.filter_nil,List.append_nil]
    rw [← List.filter_append,List.take_append_drop]
theorem owned_all {o:Int}:∀ {l:List Bk.El} {c:CalT},CalG c→(∀ b∈l,ownsB o b=false)→ownedF (bookAll l c) o=ownedF c o
  | [],_,_,_=>rfl
  | b::l,c,h,hl=>by
    show ownedF (bookAll l (bookF c b)) o=_
    rw [owned_all (book_good h b).1 (fun d hd=>hl d (by simp [hd])),owned_book h (hl b (by simp))]
theorem owned_freed {c:CalT} {o o2:Int} (h:o≠o2):ownedF (freedF c o) o2=ownedF c o2:=by
  unfold ownedF freedF
  induction c with
  | nil=>rfl
  | cons x r ih =>
    rw [List.map_cons,List.flatten_cons,List.flatten_cons,List.filter_append,List.filter_append,ih]
    congr 1
    unfold delF
    rw [List.filter_filter]
    congr 1
    funext b
    unfold ownsB
    by_cases hb:b.2.2.2=o2
    · rw [decide_eq_true hb,decide_eq_false (fun e=>h (by rw [← e,hb]))];rfl
    · rw [decide_eq_false hb];rfl
theorem cnt_freed {c:CalT} {o:Int}:cntC (ownsB o) (freedF c o)=0:=by
  unfold cntC freedF
  rw [List.countP_eq_zero]
  intro b hb
  rw [List.mem_flatten] at hb
  obtain ⟨l,hl,hb⟩:=hb
  obtain ⟨x,_,rfl⟩:=List.mem_map.1 hl
  unfold delF at hb
  have:=(List.mem_filter.1 hb).2
  simpa using this
structure Fixed (ow:Int) (c1:CalT) (a b:Int) (xs:List StT) (ns:List NeedT) (ws:List tWin.El) (done entry failed:Int) (zs:List StT):Prop where
  safe:safeF entry a b zs (restF xs ws done).2=true
  len:(zs.length:Int)=(ns.length:Int) - done
  tools:∀ x∈zs,mTl x≠failed∧sTl x≠failed
  kept:∀ i,i < zs.length→∀ w∈ws,w.1 < done→w.2.1=done+(i:Int)→max (mSt (getI zs tStage.dflt i)) (sSt (getI zs tStage.dflt i))≤dlOf xs w
  owned:∀ o,o≠ow→ownedF (bookAll (bks zs ow) (freedF c1 ow)) o=ownedF c1 o
  seven:cntC (ownsB ow) (bookAll (bks zs ow) (freedF c1 ow))=2 * zs.length
  good:CalG (bookAll (bks zs ow) (freedF c1 ow))∧lenF (bookAll (bks zs ow) (freedF c1 ow))≤lenF c1+2 * zs.length
  eq:planL entry a b zs (restF xs ws done).2 ow=bks zs ow
theorem fixed {ow:Int} (ho1:1≤ow) (ho2:ow≤1000000) {c1:CalT} (hc:CalG c1) {e a b:Int} {xs:List tStage.El} {pws:List tWin.El} {ns:List tNeed.El} {ws:List tWin.El} {done entry failed:Int} {y:List StT × Int} (h:repG c1 e a b xs pws e a b ns ws ow done entry failed=some y) :
    Fixed ow c1 a b xs ns ws done entry failed y.1:=by
  unfold repG at h
  cases h0:askB e a b xs pws e a b ns ws ow done&&rvalidF entry a b (restN ns done failed) (restF xs ws done).2 <;> rw [h0] at h
  · cases h
  · rw [cond_true] at h
    rw [Bool.and_eq_true] at h0
    cases hb:bestG (freedF c1 ow) entry a b (restN ns done failed) (restF xs ws done).2 (restF xs ws done).1 with
    | none=>rw [hb] at h;cases h
    | some x =>
      rw [hb] at h
      have h:(bif canB (freedF c1 ow) entry a b x.1 (restF xs ws done).2 ow then some x else none)=some y:=h
      cases hcan:canB (freedF c1 ow) entry a b x.1 (restF xs ws done).2 ow <;> rw [hcan] at h
      · cases h
      · rw [cond_true] at h
        obtain rfl:=Option.some.inj h
        obtain ⟨ch,k1,k2,k3,k4,_⟩:=best_some hb
        have hfg:=freed_good hc ow
        have hl:=(stG_facts hfg k2).1
        have hv:Pl.validF entry a b x.1 (restF xs ws done).2=true:=by
          unfold safeF at k4
          simp only [Bool.and_eq_true] at k4
          exact k4.1.1
        have hrp:=(askB_rest h0.1).1
        have hpl:=planL_eq hv ho1 ho2
        unfold canB at hcan
        rw [hpl,Bool.and_eq_true] at hcan
        refine ⟨k4,?_,fun z hz=>?_,fun i hi w hw h1 h2=>rest_kept k3 hi hw h1 h2,fun o ho=>?_,?_,?_,hpl⟩
        · rw [hl]
          unfold restN
          rw [List.length_map,List.length_drop]
          have:=hrp.1
          omega
        · refine stG_tools (T:=fun t=>t≠failed) k2 (chL_tools (T:=fun t=>t≠failed) k1 (fun n hn t ht=>?_) (fun p hp=>by simp at hp)) z hz
          unfold restN at hn
          obtain ⟨n',_,rfl⟩:=List.mem_map.1 hn
          have ht:t∈remF n'.1 failed:=ht
          unfold remF eqB at ht
          have:=(List.mem_filter.1 ht).2
          simpa using this
        · rw [owned_all hfg (bks_other (fun e=>ho e.symm)),owned_freed (fun e=>ho e.symm)]
        · obtain ⟨_,_,hcnt⟩:=all_book hfg hcan.1
          rw [hcnt,cnt_freed,bks_cnt]
          omega
        · obtain ⟨g1,g2⟩:=bookAll_good (l:=bks x.1 ow) hfg
          rw [bks_len] at g2
          have:=freed_len (xss:=c1) (o:=ow)
          exact ⟨g1,by omega⟩
theorem made_st' {c:CalT} (hc:CalG c) {e a b:Int} {ns:List NeedT} {ws:List tWin.El} {y:List StT × Int} (h:makeG c e a b ns ws=some y):∀ x∈y.1,StB x:=by
  unfold makeG at h
  cases hr:rvalidF e a b ns ws <;> rw [hr] at h
  · cases h
  · rw [cond_true] at h
    obtain ⟨ch,_,h2,_⟩:=best_some h
    exact (stG_facts hc h2).2
end Go.AM.YtkgmmmhokgdcaaaGreat.Re
