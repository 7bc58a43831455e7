/- AmMapR, WnA. -/
import Derived.Test.YtkgmmmhokgdcaaaGreatPc27
import Derived.Test.YtkgmmmhokgdcaaaGreatPc31

section
set_option linter.all false
namespace Go.AM
open Go.ChangeMaps (setBlock)
section
variable {tt:TT} {S:Nat→Option Spec} {E:Env PG tt S} {K:List Nat} {c:Code} {st:St} {Q:AExit→St→Prop}
theorem Rel.reRow {C:Ctx} {g:Nat→Gh} {R:Nat→Prop} {a:Act} {w:World} (hrel:Rel C g R st a w) {r:Nat} {o o':AObj} (ho:look st.rows r=some o) (hb:∀ b1,Own g w r o' b1→Own g w r o b1)
 (hrow:RowH g (fun r=>mem st.ks r=true) R w r o'):Rel C g R ⟨st.n,st.slots,st.gt,st.ks,(r,o')::st.rows⟩ a w:=by
 have hlook:∀ r' o1,look [(r,o')] r'=some o1→r'=r∧o1=o':=fun r' o1 h=>by
  rw [look_cons] at h
  by_cases e:r=r'
  ·simp [e] at h;exact ⟨e.symm,h.symm⟩
  ·simp [e,look] at h
 refine hrel.gen (fun _ _=>rfl) (fun _ h=>h) (fun _ h=>h) ?_
 have:=hrel.heap.gen (g':=g) (R':=R) (w':=w) [(r,o')] [] (fun r'=>r'=r) (fun r hr=>by simp [mem] at hr) (fun r' o1 h=>.inl ((hlook r' o1 h).1 ▸ hrel.heap.keys r o ho)) (fun r' h=>⟨o',by rw [h,look_cons];simp⟩)
  rfl rfl rfl (Nat.le_refl _) (fun k _=>.inl rfl) (fun _ _=>rfl) (fun _ h=>h)
  (fun b hb=>hrel.heap.rlt b hb) (fun _ h=>.inl h) (fun r' o1 h=>?_) (fun r' o1 b1 h h1=>?_) (fun r1 r2 o1 o2 b h1 h2 _ _=>(hlook r1 o1 h1).1.trans (hlook r2 o2 h2).1.symm)
 ·have h2:=this.1.lists (ks:=st.ks) (rows:=st.rows)
  exact ⟨h2,this.2⟩
 ·obtain ⟨rfl,rfl⟩:=hlook r' o1 h
  have e:(fun r'=>mem st.ks r'=true∨mem [] r'=true)=(fun r'=>mem st.ks r'=true):=by funext r';simp [mem]
  rw [e];exact hrow
 ·obtain ⟨rfl,rfl⟩:=hlook r' o1 h
  have h1:=hb b1 h1
  exact ⟨(hrel.heap.own _ o b1 ho h1).1,.inr ⟨_,o,rfl,ho,h1⟩⟩
theorem MapE_len {R:Nat→Prop} {w:World} {k v:Ty}:∀ {kvs:List (k.El × v.El)} {es:List MapEntry},MapE R w k v kvs es→es.length=kvs.length
 | [],[],_=>rfl
 | _::_,_::_,⟨_,_,h⟩=>by simp [MapE_len h]
 | [],_::_,h=>h.elim
 | _::_,[],h=>h.elim
theorem MapE_at {R:Nat→Prop} {w:World} {k v:Ty}:∀ {kvs:List (k.El × v.El)} {es:List MapEntry} {j:Nat} {e:MapEntry},MapE R w k v kvs es→es[j]?=some e→∃ p,kvs[j]?=some p∧(∃ us,RelEl R w k p.1 us∧e.key=valOf k us)∧∃ vs,RelEl R w v p.2 vs∧e.val=valOf v vs
 | p::_,_::_,0,_,⟨h1,h2,_⟩,he=>by simp at he;subst he;exact ⟨p,rfl,h1,h2⟩
 | _::_,_::_,j+1,_,⟨_,_,h⟩,he=>by
   obtain ⟨p,h1,h2⟩:=MapE_at (j:=j) h (by simpa using he)
   exact ⟨p,by simpa using h1,h2⟩
 | [],[],_,_,_,he=>by simp at he
 | [],_::_,_,_,h,_=>h.elim
 | _::_,[],_,_,h,_=>h.elim
def MitG.was (D:MitG) (j:Nat):Bool:=match D.es[j]? with
 | some e=>D.seen.contains e.born
 | none=>false
def MitG.left (D:MitG):Nat:=(leftOf D.es D.seen).size
theorem mitI (r:Nat) {m:Nat} {k v:Ty} {kvs:List (k.El × v.El)} {cur:Option (k.El × v.El)} (hr:look st.rows r=some (.mit m k v kvs cur none))
 (x:∀ D:MitG,(∀ j,D.was j=false)→WP E K c ⟨st.n,st.slots,st.gt,st.ks,(r,.mit m k v kvs cur (some D))::st.rows⟩ Q):WP E K c st Q:=fun hc C g R a w Z hrel hq=>by
 obtain ⟨h1,b,D,h2,h3,h4⟩:=hrel.heap.held r _ hr
 refine x D (fun j=>?_) hc C g R a w Z (hrel.reRow hr (fun _ h=>h) ⟨h1,b,D,h2,rfl,h4⟩) hq
 have h3:D.seen=#[]:=h3
 unfold MitG.was
 split
 ·rw [h3];simp
 ·rfl
def unSt (r:Nat) (st:St):Option St:=match look st.rows r with
 | some (.mit m k v kvs _ _)=>match look st.rows m,Nat.beq m r with
   | some .dead,false=>some ⟨st.n,st.slots,st.gt,st.ks,(m,.map k v kvs)::(r,.dead)::st.rows⟩
   | _,_=>none
 | _=>none
theorem unitI (r:Nat) {z:St} (h:unSt r st=some z) (x:WP E K c z Q):WP E K c st Q:=fun hc C g R a w Z hrel hq=>by
 unfold unSt at h
 split at h <;> try (cases h;done)
 rename_i m k v kvs cur G hr
 split at h <;> try (cases h;done)
 rename_i hm hne
 cases h
 have hne:=beq_ne hne
 obtain ⟨⟨hK,hgm⟩,b,D,h2,_,h4⟩:=hrel.heap.held r _ hr
 have hlk:∀ r' o',look [(m,AObj.map k v kvs),(r,.dead)] r'=some o'→(r'=m∧o'=.map k v kvs)∨(r'=r∧o'=.dead):=fun r' o' h=>by
  rw [look_cons] at h
  by_cases e:m=r'
  ·simp [e] at h;exact .inl ⟨e.symm,h.symm⟩
  ·simp [e] at h
   rw [look_cons] at h
   by_cases e2:r=r'
   ·simp [e2] at h;exact .inr ⟨e2.symm,h.symm⟩
   ·simp [e2,look] at h
 refine x hc C g R a w Z (hrel.gen (fun _ _=>rfl) (fun _ h=>h) (fun _ h=>h) ?_) hq
 have hown:Own g w r (.mit m k v kvs cur G) (g r).b:=.inr rfl
 have:=hrel.heap.gen (g':=g) (R':=R) (w':=w) [(m,.map k v kvs),(r,.dead)] [] (fun r'=>r'=r∨r'=m) (fun r hr=>by simp [mem] at hr)
  (fun r' o1 h=>.inl (by rcases hlk r' o1 h with ⟨e,_⟩|⟨e,_⟩;rw [e];exact hK;rw [e];exact hrel.heap.keys r _ hr))
  (fun r' h=>by
   rw [look_cons]
   by_cases e:m=r'
   ·exact ⟨_,by simp [e];rfl⟩
   ·rcases h with h|h
    ·exact ⟨.dead,by rw [if_neg e,look_cons,if_pos h.symm]⟩
    ·exact absurd h.symm e)
  rfl rfl rfl (Nat.le_refl _) (fun k _=>.inl rfl) (fun _ _=>rfl) (fun _ h=>h)
  (fun b hb=>hrel.heap.rlt b hb) (fun _ h=>.inl h)
  (fun r' o1 h=>by
   rcases hlk r' o1 h with ⟨rfl,rfl⟩|⟨_,rfl⟩
   ·exact ⟨(g r).b,D.es,D.clock,hgm,h4.mp,h4.rel⟩
   ·trivial)
  (fun r' o1 b1 h h1=>by
   rcases hlk r' o1 h with ⟨rfl,rfl⟩|⟨_,rfl⟩
   ·have h1:(g r').v=.map (some b1):=h1
    rw [hgm] at h1
    cases h1
    exact ⟨(hrel.heap.own r _ _ hr hown).1,.inr ⟨r,_,.inl rfl,hr,hown⟩⟩
   ·simp [Own] at h1)
  (fun r1 r2 o1 o2 b h6 h7 h8 h9=>by
   rcases hlk r1 o1 h6 with ⟨e1,_⟩|⟨_,e1⟩
   ·rcases hlk r2 o2 h7 with ⟨e2,_⟩|⟨_,e2⟩
    ·rw [e1,e2]
    ·rw [e2] at h9;simp [Own] at h9
   ·rw [e1] at h8;simp [Own] at h8)
 have h2:=this.1.lists (ks:=st.ks) (rows:=st.rows)
 exact ⟨h2,this.2⟩
theorem nextI {id:Nat} {d1 d2 it:Nat} {y0 y1:TypeId} {p0 p1:String} {e0 e1:Array Edge}
 (hc:c=.region id #[⟨some d1,.next (.tmp it) false,y0,p0,e0,none⟩,⟨some d2,.extract (.tmp d1) 0,y1,p1,e1,none⟩] false)
 {r m:Nat} {k v:Ty} {kvs:List (k.El × v.El)} {cur:Option (k.El × v.El)} {D:MitG} (hx:look st.slots it=some ⟨[],.own r⟩) (hr:look st.rows r=some (.mit m k v kvs cur (some D))) (hgt:st.gt=[])
 (hck:(Nat.blt d1 st.n&&Nat.blt d2 st.n&&!Nat.beq d1 d2)=true)
 {z0:St} {z1:k.El × v.El→MitG→St} (hz0:tidy K ⟨st.n,(d2,⟨[],.bool false⟩)::(d1,⟨[],.junk⟩)::st.slots,st.gt,st.ks,st.rows⟩ (fun s=>some s)=some z0)
 (hz1:∀ y D',tidy K ⟨st.n,(d2,⟨[],.bool true⟩)::(d1,⟨[],.junk⟩)::st.slots,st.gt,st.ks,(r,.mit m k v kvs (some y) (some D'))::st.rows⟩ (fun s=>some s)=some (z1 y D'))
 (k0:(∀ j,j < kvs.length→D.was j=true)→Q .normal z0)
 (k1:∀ (j:Nat) (y:k.El × v.El) (D':MitG),kvs[j]?=some y→D.was j=false→(∀ i,i < kvs.length→(D'.was i=true↔D.was i=true∨i=j))→D'.left < D.left→Q .normal (z1 y D')):WP E K c st Q:=by
 subst hc
 intro hcode C g R a w Z hrel hq
 simp only [Bool.and_eq_true,Bool.not_eq_true',Nat.blt_eq] at hck
 obtain ⟨⟨l0,l1⟩,n01⟩:=hck
 have n01:=beq_ne n01
 obtain ⟨⟨hK,hgm⟩,b,D0,hgr,hD,H⟩:=hrel.heap.held r _ hr
 have hD:D0=D:=hD
 subst hD
 obtain ⟨vx,hvx,rx⟩:=(hrel.slots it _ hx).1 (fun t x h=>by simp at h)
 have ex:a.eval (.tmp it)=.pointer (some ⟨b,0,none⟩):=by
  cases rx;rw [hgr] at hvx;exact getD_of hvx
 have hlen:=MapE_len H.rel.rel
 have hwas:∀ j e,D0.es.toList[j]?=some e→D0.was j=D0.seen.contains e.born:=fun j e h=>by
  unfold MitG.was
  rw [← Array.getElem?_toList,h]
 refine wpIn_region ?_
 obtain ⟨ops,hops⟩:∃ ops:Array Oper,ops=#[⟨some d1,.next (.tmp it) false,y0,p0,e0,none⟩,⟨some d2,.extract (.tmp d1) 0,y1,p1,e1,none⟩]:=⟨_,rfl⟩
 rw [← hops]
 have step:∀ (o:Oper) (i:Nat) (rest:List Nat) (a:Act) (w:World),ops[i]?=some o→o.guard=none→o.wpIn (FR E.ro) 0 PG a w (wpOpsIn (FR E.ro) 0 PG ops Z rest) Z→wpOpsIn (FR E.ro) 0 PG ops Z (i::rest) a w:=fun o i rest a w h1 h2 h3=>by
  simp only [wpOpsIn,h1]
  rw [if_pos (by unfold Region.wanted;rw [h2])]
  exact h3
 rw [show List.range ops.size=[0,1] by rw [hops];rfl]
 have hs0:a.tmps.size=st.n:=hrel.size
 have hsp:∀ (a:Act) (d:Nat) (v:Value),(a.put (some d) v).tmps.size=a.tmps.size:=fun a d v=>by simp [Act.put]
 rcases run_next_at (P:=PG) w y0 b (g r).b D0.since D0.c0 D0.seen D0.es D0.clock H.it H.mp H.old H.sc with ⟨h0,hrun⟩|⟨e,he,w1,hal,hrun⟩
 ·obtain ⟨a1,ha1⟩:∃ a1,a1=a.put (some d1) (.tuple #[.bool false]):=⟨_,rfl⟩
  have e1':a1.eval (.tmp d1)=.tuple #[.bool false]:=by rw [ha1,eval_put_same (by rw [hs0];exact l0)]
  have hrel1:=hrel.junk hgt l0 (.tuple #[.bool false])
  rw [← ha1] at hrel1
  have hrel2:=hrel1.put d2 ⟨[],.bool false⟩ (.bool false) st.gt l1 (by show mem st.gt d2=false;rw [hgt];rfl) (fun _ h=>h) (fun u x h=>by cases h) ⟨fun _=>.bool,fun h=>absurd (fun t x h=>by cases h) h⟩
  refine step ⟨some d1,.next (.tmp it) false,y0,p0,e0,none⟩ 0 _ _ _ (by rw [hops];rfl) rfl ?_
  refine opFR (wp_value (v:=.tuple #[.bool false]) (w':=w) (by simp [execOp,ex,hrun]) ?_) rfl
  show wpOpsIn _ _ _ _ _ _ (Act.put _ (some d1) _) _
  rw [← ha1]
  refine step ⟨some d2,.extract (.tmp d1) 0,y1,p1,e1,none⟩ 1 _ _ _ (by rw [hops];rfl) rfl ?_
  refine opFR (wp_value (v:=.bool false) (w':=w) (by simp [execOp,Instr.extract,e1']) ?_) rfl
  simp only [wpOpsIn]
  refine hq C .normal z0 g R _ w (Later.refl C) (k0 fun j hj=>?_) (by
   rw [tidy_eq] at hz0
   obtain rfl:=Option.some.inj hz0
   exact tidy_sound hrel2)
  have hj':j < D0.es.toList.length:=by rw [hlen];exact hj
  rw [hwas j _ (List.getElem?_eq_getElem hj')]
  exact all_seen D0.es D0.seen h0 _ (List.getElem_mem hj')
 ·obtain ⟨hem,hes⟩:=mem_left he
  obtain ⟨j,hj,hje⟩:=List.getElem_of_mem hem
  have hje':D0.es.toList[j]?=some e:=by rw [List.getElem?_eq_getElem hj,hje]
  obtain ⟨y,hy,hyk,hyv⟩:=MapE_at H.rel.rel hje'
  obtain ⟨D',hD'⟩:∃ D':MitG,D'=⟨D0.es,D0.clock,D0.since,D0.seen.push e.born,D0.clock⟩:=⟨_,rfl⟩
  have hw1:w1.os=w.os∧w1.tape=w.tape∧w1.output=w.output∧w1.heap=w.heap:=by rcases hal with rfl|rfl <;> exact ⟨rfl,rfl,rfl,rfl⟩
  have hrelw:Rel C g R st a w1:=hrel.world hw1.1 hw1.2.1 hw1.2.2.1 (by rw [hw1.2.2.2];exact Nat.le_refl _) (fun k hk=>by rw [hw1.2.2.2])
  obtain ⟨vt,hvt⟩:∃ vt:Value,vt=.tuple #[.bool true,e.key,e.val]:=⟨_,rfl⟩
  rw [← hvt] at hrun
  have hne:b≠(g r).b:=fun e2=>by
   have h1:=H.it
   rw [e2,H.mp] at h1
   cases h1
  have hown:Own g w1 r (.mit m k v kvs cur (some D0)) b:=.inl hgr
  have hblt:b < w1.heap.size:=by rw [hw1.2.2.2];exact (Array.getElem?_eq_some_iff.1 H.it).1
  have hrel1:=hrelw.setO (o':=.mit m k v kvs (some y) (some D')) (ob:=.mapIter (some (g r).b) D0.since (D0.seen.push e.born) D0.clock) hr hown (fun b1 h=>h) (fun hcell=>by
   refine ⟨⟨hK,hgm⟩,b,D',hgr,rfl,?_⟩
   rw [hD']
   have hcell':∀ ad:Addr,R ad.block→({ w1 with heap:=w1.heap.setIfInBounds b (.mapIter (some (g r).b) D0.since (D0.seen.push e.born) D0.clock) }:World).cell? ad=w.cell? ad:=fun ad had=>(hcell ad had).trans (cell_of_heap (by rw [hw1.2.2.2]))
   refine ⟨by simp [Array.getElem?_setIfInBounds,hblt],by simp [Array.getElem?_setIfInBounds,hne,hw1.2.2.2];exact H.mp,⟨MapE_mono (fun _ h=>h) hcell' H.rel.rel,H.rel.lt,H.rel.nd⟩,H.old,H.sk,H.sk,fun y' hy'=>?_⟩
   cases hy'
   obtain ⟨us,q1,q2⟩:=hyk
   obtain ⟨vs,q3,q4⟩:=hyv
   exact ⟨rfl,e,hem,by simp,⟨us,RelEl_mono (fun _ h=>h) hcell' q1,q2⟩,vs,RelEl_mono (fun _ h=>h) hcell' q3,q4⟩)
  have hw':setBlock w1 b (.mapIter (some (g r).b) D0.since (D0.seen.push e.born) D0.clock)={ w1 with heap:=w1.heap.setIfInBounds b (.mapIter (some (g r).b) D0.since (D0.seen.push e.born) D0.clock) }:=rfl
  rw [← hw'] at hrel1
  obtain ⟨w2,hw2⟩:∃ w2,w2=setBlock w1 b (.mapIter (some (g r).b) D0.since (D0.seen.push e.born) D0.clock):=⟨_,rfl⟩
  rw [← hw2] at hrel1 hrun
  obtain ⟨a1,ha1⟩:∃ a1,a1=a.put (some d1) vt:=⟨_,rfl⟩
  have e1':a1.eval (.tmp d1)=vt:=by rw [ha1,eval_put_same (by rw [hs0];exact l0)]
  have hrel2:=hrel1.junk hgt l0 vt
  rw [← ha1] at hrel2
  have hrel3:=hrel2.put d2 ⟨[],.bool true⟩ (.bool true) st.gt l1 (by show mem st.gt d2=false;rw [hgt];rfl) (fun _ h=>h) (fun u x h=>by cases h) ⟨fun _=>.bool,fun h=>absurd (fun t x h=>by cases h) h⟩
  refine step ⟨some d1,.next (.tmp it) false,y0,p0,e0,none⟩ 0 _ _ _ (by rw [hops];rfl) rfl ?_
  refine opFR (wp_value (v:=vt) (w':=w2) (by simp [execOp,ex,hrun]) ?_) rfl
  show wpOpsIn _ _ _ _ _ _ (Act.put _ (some d1) _) _
  rw [← ha1]
  refine step ⟨some d2,.extract (.tmp d1) 0,y1,p1,e1,none⟩ 1 _ _ _ (by rw [hops];rfl) rfl ?_
  refine opFR (wp_value (v:=.bool true) (w':=w2) (by simp [execOp,Instr.extract,e1',hvt]) ?_) rfl
  simp only [wpOpsIn]
  have hborn:∀ i e',D0.es.toList[i]?=some e'→(e'.born=e.born↔i=j):=fun i e' hi=>by
   constructor
   ·intro hb2
    have hnd:=H.rel.nd
    have h1:(D0.es.toList.map (·.born))[i]?=some e.born:=by rw [List.getElem?_map,hi];simp [hb2]
    have h2:(D0.es.toList.map (·.born))[j]?=some e.born:=by rw [List.getElem?_map,hje'];rfl
    have hil:i < (D0.es.toList.map (·.born)).length:=(List.getElem?_eq_some_iff.1 h1).1
    exact (List.getElem?_inj hil hnd).1 (h1.trans h2.symm)
   ·rintro rfl
    rw [hje'] at hi
    cases hi
    rfl
  refine hq C .normal (z1 y D') g R _ w2 (Later.refl C) (k1 j y D' hy (by rw [hwas j e hje'];exact hes) (fun i hi=>?_) ?_) (by
   have:=hz1 y D'
   rw [tidy_eq] at this
   obtain h9:=Option.some.inj this
   rw [← h9]
   exact tidy_sound hrel3)
  ·have hi':i < D0.es.toList.length:=by rw [hlen];exact hi
   have hie:=List.getElem?_eq_getElem hi'
   have h1:D'.was i=(D0.seen.push e.born).contains (D0.es.toList[i]).born:=by
    unfold MitG.was
    rw [hD']
    rw [← Array.getElem?_toList,hie]
   rw [h1,hwas i _ hie,← hborn i _ hie]
   simp
  ·unfold MitG.left
   rw [hD']
   exact left_shrinks D0.es D0.seen e he
end
end Go.AM
end

section
set_option linter.all false
namespace Go.AM.YtkgmmmhokgdcaaaGreat.Fl
open Go.Proofs
set_option maxRecDepth 100000
set_option maxHeartbeats 4000000
abbrev tVis:Ty:=.pair (.int .i64) (.pair (.int .i64) (.pair (.int .i64) (.int .i64)))
abbrev VisT:=Int × Int × Int × Int
abbrev tWat:Ty:=.pair (.pair (.int .i64) (.pair (.int .i64) (.int .i64))) (.pair (.int .i64) (.pair .bool .bool))
abbrev WatT:=WinT × Int × Bool × Bool
def timeB (n:Int):Bool:=decide (n≥0)&&decide (n≤1000000)
def isTimeS:Spec:=plain fun
 | [.int .i64 n]=>outV True (.bool (timeB n))
 | _=>none
theorem isTimeOk:SpecSound Tryz.prog 95 isTimeS:=by
 refine soundP (envOf sigNil) Tryz.func95 (c:=body Tryz.f95) rfl (by kernel_rfl) rfl ?_
 intro args out hf hpre
 split at hf <;> try (cases hf;done)
 rename_i n
 cases hf
 refine ⟨Nat.le_of_ble_eq_true rfl,initI (args:=[.int .i64 n]) rfl ?_⟩
 repeat' (first|refine zN ?_|refine zE ?_|refine zP ?_|refine pD ?_|refine zS ?_|refine zR ?_|refine zO ?_|refine zB ?_|refine zX ?_|refine zT ?_|refine skipI rfl ?_)
 refine endR rfl ?_
 repeat' (first|exact trivial|exact rfl|refine ⟨rfl,?_⟩|refine And.intro ?_ ?_)
def seeF (w:WatT) (v:VisT):WatT :=
 bif decide (v.1=w.1.2.1) then (w.1,w.2.1,false,w.2.2.2||(w.2.2.1&&decide (v.2.2.1 > w.2.1+w.1.2.2)))
 else bif decide (v.1=w.1.1) then (w.1,v.2.2.2,true,w.2.2.2) else w
def seeS:Spec:=⟨true,fun args rows=>match args,rows with
 | [.ptr 0 0,.agg [.int .i64 st,.int .i64 tl,.int .i64 s,.int .i64 e]],[.box [.int .i64 a,.int .i64 b,.int .i64 l,.int .i64 en,.bool o,.bool la]] =>
   some ⟨In64 (en+l),.tup [],[.box [.int .i64 (seeF ((a,b,l),en,o,la) (st,tl,s,e)).1.1,.int .i64 (seeF ((a,b,l),en,o,la) (st,tl,s,e)).1.2.1,.int .i64 (seeF ((a,b,l),en,o,la) (st,tl,s,e)).1.2.2,
    .int .i64 (seeF ((a,b,l),en,o,la) (st,tl,s,e)).2.1,.bool (seeF ((a,b,l),en,o,la) (st,tl,s,e)).2.2.1,.bool (seeF ((a,b,l),en,o,la) (st,tl,s,e)).2.2.2]],true⟩
 | _,_=>none⟩
theorem seeOk:SpecSound Tryz.prog 96 seeS:=by
 refine soundR (envOf sigNil) Tryz.func96 (c:=body Tryz.f96) rfl (by kernel_rfl) rfl ?_
 intro args rows out hf hpre
 split at hf <;> try (cases hf;done)
 rename_i st tl s e a b l en o la
 cases hf
 refine ⟨Nat.le_of_ble_eq_true rfl,initI (args:=[.ptr 0 0,.agg [.int .i64 st,.int .i64 tl,.int .i64 s,.int .i64 e]]) (rows:=[.box [.int .i64 a,.int .i64 b,.int .i64 l,.int .i64 en,.bool o,.bool la]]) rfl ?_⟩
 obtain ⟨r,hr⟩:∃ r,r=seeF ((a,b,l),en,o,la) (st,tl,s,e):=⟨_,rfl⟩
 rw [← hr]
 unfold seeF at hr
 dsimp only at hr
 repeat' (first|refine zN ?_|refine zE ?_|refine zP ?_|refine pD ?_|refine zS ?_|refine zR ?_|refine zO ?_|refine zB ?_|refine zX ?_|refine zT ?_|refine skipI rfl ?_)
 refine condI rfl (fun c1=>?_) (fun c1=>?_)
 ·rw [c1] at hr
  have hr:r=((a,b,l),en,false,la||(o&&decide (s > en+l))):=hr
  repeat' (first|refine zN ?_|refine zE ?_|refine zP ?_|refine pD ?_|refine pC (by first|exact hpre|(intros;exact hpre)) ?_|refine zS ?_|refine zR ?_|refine zO ?_|refine zB ?_|refine zX ?_|refine zT ?_|refine skipI rfl ?_)
  refine condI rfl (fun c2=>?_) (fun c2=>?_)
  ·have c2:(o&&decide (s > en+l))=true:=c2
   rw [c2,Bool.or_true] at hr
   rw [hr]
   repeat' (first|refine zN ?_|refine zE ?_|refine zP ?_|refine pD ?_|refine zS ?_|refine zR ?_|refine zO ?_|refine zB ?_|refine zX ?_|refine zT ?_|refine skipI rfl ?_)
   refine endN rfl ?_
   repeat' (first|exact trivial|with_reducible exact rfl|refine And.intro ?_ ?_)
  ·have c2:(o&&decide (s > en+l))=false:=c2
   rw [c2,Bool.or_false] at hr
   rw [hr]
   repeat' (first|refine zN ?_|refine zE ?_|refine zP ?_|refine pD ?_|refine zS ?_|refine zR ?_|refine zO ?_|refine zB ?_|refine zX ?_|refine zT ?_|refine skipI rfl ?_)
   refine endN rfl ?_
   repeat' (first|exact trivial|with_reducible exact rfl|refine And.intro ?_ ?_)
 ·rw [c1] at hr
  repeat' (first|refine zN ?_|refine zE ?_|refine zP ?_|refine pD ?_|refine zS ?_|refine zR ?_|refine zO ?_|refine zB ?_|refine zX ?_|refine zT ?_|refine skipI rfl ?_)
  refine condI rfl (fun c3=>?_) (fun c3=>?_)
  ·rw [c3] at hr
   have hr:r=((a,b,l),e,true,la):=hr
   rw [hr]
   repeat' (first|refine zN ?_|refine zE ?_|refine zP ?_|refine pD ?_|refine zS ?_|refine zR ?_|refine zO ?_|refine zB ?_|refine zX ?_|refine zT ?_|refine skipI rfl ?_)
   refine endN rfl ?_
   repeat' (first|exact trivial|with_reducible exact rfl|refine And.intro ?_ ?_)
  ·rw [c3] at hr
   have hr:r=((a,b,l),en,o,la):=hr
   rw [hr]
   repeat' (first|refine zN ?_|refine zE ?_|refine zP ?_|refine pD ?_|refine zS ?_|refine zR ?_|refine zO ?_|refine zB ?_|refine zX ?_|refine zT ?_|refine skipI rfl ?_)
   refine endN rfl ?_
   repeat' (first|exact trivial|with_reducible exact rfl|refine And.intro ?_ ?_)
def stepV (w:WatT) (v:VisT):WatT:=bif timeB v.2.2.1&&timeB v.2.2.2 then seeF w v else w
def watF (x:WinT) (vs:List VisT):WatT:=vs.foldl stepV (x,0,false,false)
def watL (vs:List VisT):Nat→List WinT→List (Int × WatT)
 | _,[]=>[]
 | i,x::r=>((i:Int),watF x vs)::watL vs (i+1) r
def watA (mn mx:Int) (ss:List StepT) (ws:List WinT) (vs:List VisT):List (Int × WatT):=bif validF mn mx ss ws then watL vs 0 ws else []
theorem win_lim {mn mx:Int} {ss:List StepT} {ws:List WinT} (F:FlowSm mn mx ss ws) {i:Nat} (hi:i < ws.length):0≤(getI ws tWin.dflt i).2.2∧(getI ws tWin.dflt i).2.2≤1000000:=by
 have h:=F.wn i hi
 unfold rwF at h
 simp only [Bool.and_eq_true,inW_iff] at h
 exact h.2
def WatOk (w:WatT):Prop:=(0≤w.2.1∧w.2.1≤1000000)∧0≤w.1.2.2∧w.1.2.2≤1000000
theorem see_win {w:WatT} {v:VisT}:(seeF w v).1=w.1:=by
 unfold seeF
 cases decide (v.1=w.1.2.1) <;> cases decide (v.1=w.1.1) <;> rfl
theorem stepV_win {w:WatT} {v:VisT}:(stepV w v).1=w.1:=by
 unfold stepV
 cases timeB v.2.2.1&&timeB v.2.2.2
 ·rfl
 ·exact see_win
theorem time_iff {n:Int}:timeB n=true↔0≤n∧n≤1000000:=by unfold timeB;simp
theorem stepV_ok {w:WatT} {v:VisT} (h:WatOk w):WatOk (stepV w v):=by
 unfold stepV
 cases ht:timeB v.2.2.1&&timeB v.2.2.2
 ·exact h
 ·rw [Bool.and_eq_true,time_iff,time_iff] at ht
  have h2:=h.2
  have h1:=h.1
  show WatOk (seeF w v)
  unfold seeF
  cases decide (v.1=w.1.2.1) <;> cases decide (v.1=w.1.1)
  ·exact h
  ·exact ⟨ht.2,h2⟩
  ·exact ⟨h1,h2⟩
  ·exact ⟨h1,h2⟩
theorem foldV_ok:∀ {vs:List VisT} {w:WatT},WatOk w→WatOk (vs.foldl stepV w)
 | [],_,h=>h
 | _::vs,_,h=>foldV_ok (vs:=vs) (stepV_ok h)
theorem foldV_win:∀ {vs:List VisT} {w:WatT},(vs.foldl stepV w).1=w.1
 | [],_=>rfl
 | v::vs,w=>(foldV_win (vs:=vs) (w:=stepV w v)).trans stepV_win
theorem watL_mem {vs:List VisT} {p:Int × WatT}:∀ {ws:List WinT} {i:Nat},p∈watL vs i ws→∃ j x,ws[j]?=some x∧p=(((i+j:Nat):Int),watF x vs)
 | [],_,h=>by cases h
 | x::r,i,h=>by
   rcases List.mem_cons.1 h with rfl|h
   ·exact ⟨0,x,rfl,rfl⟩
   ·obtain ⟨j,y,h1,h2⟩:=watL_mem (ws:=r) (i:=i+1) h
    exact ⟨j+1,y,by simpa using h1,by rw [h2,show i+1+j=i+(j+1) by omega]⟩
theorem watL_len {vs:List VisT}:∀ {ws:List WinT} {i:Nat},(watL vs i ws).length=ws.length
 | [],_=>rfl
 | _::r,i=>by simp [watL,watL_len (ws:=r) (i:=i+1)]
theorem watA_ok {mn mx:Int} {ss:List StepT} {ws:List WinT} {vs:List VisT} {p:Int × WatT} (h:p∈watA mn mx ss ws vs):WatOk p.2:=by
 unfold watA at h
 cases hv:validF mn mx ss ws
 ·rw [hv] at h;cases h
 ·rw [hv] at h
  obtain ⟨j,x,h1,h2⟩:=watL_mem (show p∈watL vs 0 ws from h)
  have hj:j < ws.length:=(List.getElem?_eq_some_iff.1 h1).1
  have h3:=win_lim (flow_sm hv) hj
  rw [show getI ws tWin.dflt j=x by simp [getI,List.getD,h1]] at h3
  rw [h2]
  exact foldV_ok ⟨⟨Int.le_refl _,(by decide:(0:Int)≤1000000)⟩,h3⟩
theorem watA_len {mn mx:Int} {ss:List StepT} {ws:List WinT} {vs:List VisT}:(watA mn mx ss ws vs).length≤20:=by
 unfold watA
 cases hv:validF mn mx ss ws
 ·exact Nat.zero_le _
 ·show (watL vs 0 ws).length≤20
  rw [watL_len]
  exact (flow_sm hv).wl
def wat1S:Spec:=⟨true,fun args rows=>match args,rows with
 | [.own 0,.ptr 2 0,.ptr 3 0],[.yp 1,.yld (.pair (.int .i64) (.pair (.pair (.int .i64) (.pair (.int .i64) (.int .i64))) (.pair (.int .i64) (.pair .bool .bool)))) true Y p,
    .box [.int .i64 mn,.int .i64 mx,.sl (.pair (.int .i64) (.pair (.slice (.int .i64)) (.pair (.int .i64) (.pair (.int .i64) (.pair (.slice (.int .i64)) (.pair (.int .i64) (.int .i64))))))) ss,.sl (.pair (.int .i64) (.pair (.int .i64) (.int .i64))) ws],
    .box [.sl (.pair (.int .i64) (.pair (.int .i64) (.pair (.int .i64) (.int .i64)))) vs]] =>
   some ⟨YGo Y p (watA mn mx ss ws vs),.tup [],[.yp 4,.dead,.box [.int .i64 mn,.int .i64 mx,.sl tStep ss,.sl tWin ws],.box [.sl tVis vs],.yld (.pair tInt tWat) true Y (cut Y.cont p (watA mn mx ss ws vs)).1],true⟩
 | _,_=>none⟩
def sigW1:List (Nat × Spec):=[(62,fvalidS),(95,isTimeS),(96,seeS)]
theorem sigW1Ok:SigOk Tryz.prog (look sigW1):=sigCons (sigCons (sigCons sigNil
 Tryz.func96 (by kernel_rfl) (c:=body Tryz.f96) rfl seeOk)
 Tryz.func95 (by kernel_rfl) (c:=body Tryz.f95) rfl isTimeOk)
 Tryz.func62 (by kernel_rfl) (c:=body Tryz.f62) rfl fvalidOk
theorem wat1Ok:SpecSound Tryz.prog 94 wat1S:=by
 refine soundR (envOf sigW1Ok) Tryz.func94 (c:=body Tryz.f94) rfl (by kernel_rfl) rfl ?_
 intro args rows out hf hpre
 split at hf <;> try (cases hf;done)
 rename_i Y p mn mx ss ws vs
 cases hf
 refine ⟨Nat.le_of_ble_eq_true rfl,initI (args:=[.own 0,.ptr 2 0,.ptr 3 0]) (rows:=[.yp 1,.yld (.pair tInt tWat) true Y p,.box [.int .i64 mn,.int .i64 mx,.sl tStep ss,.sl tWin ws],.box [.sl tVis vs]]) rfl ?_⟩
 obtain ⟨tot,htot⟩:∃ tot,tot=(cut Y.cont p (watA mn mx ss ws vs)).1:=⟨_,rfl⟩
 rw [← htot]
 refine factBoxL (r:=100003) (j:=0) (ty:=tVis) rfl rfl (fun hxs=>?_)
 have hmx:List.length (α:=VisT) vs≤9223372036854775807:=by have:=hxs.1;unfold maxLen at this;exact this
 refine renameI 100001 3000 rfl ?_
 unfold watA at hpre htot
 repeat' (first|refine zN ?_|refine zE ?_|refine zP ?_|refine pD ?_|refine zS ?_|refine zR ?_|refine zO ?_|refine zB ?_|refine zX ?_|refine zT ?_|refine skipI rfl ?_)
 refine condI rfl (fun c1=>?_) (fun c1=>?_)
 ·have c1:validF mn mx ss ws=false:=by simpa using c1
  rw [c1] at htot
  have htot:tot=p:=htot
  rw [htot]
  repeat' (first|refine zN ?_|refine zE ?_|refine zP ?_|refine pD ?_|refine zS ?_|refine zR ?_|refine zO ?_|refine zB ?_|refine zX ?_|refine zT ?_|refine skipI rfl ?_)
  refine endN rfl ?_
  repeat' (first|exact trivial|with_reducible exact rfl|refine And.intro ?_ ?_)
 have c1:validF mn mx ss ws=true:=by simpa using c1
 rw [c1] at hpre htot
 have F:=flow_sm c1
 have hwl:=F.wl
 repeat' (first|refine zN ?_|refine zE ?_|refine zP ?_|refine pD ?_|refine zS ?_|refine zR ?_|refine zO ?_|refine zB ?_|refine zX ?_|refine zT ?_|refine skipI rfl ?_)
 refine loopI (σ:=Nat × List (Int × WatT)) (fun s=>[(15,.int .i64 s.1)]) (fun s=>[(100000,.yp 3000),(3000,.yld (.pair tInt tWat) true Y s.2)]) (fun s=>s.1≤ws.length∧YGo Y s.2 (watL vs s.1 (ws.drop s.1))∧tot=(cut Y.cont s.2 (watL vs s.1 (ws.drop s.1))).1) (fun s=>ws.length - s.1) (0,p) rfl (fun _=>rfl) rfl ?_ ?_ ?_
 ·exact ⟨Nat.zero_le _,hpre,htot⟩
 ·repeat' (first|exact trivial|exact rfl|refine ⟨rfl,?_⟩|refine And.intro ?_ ?_)
 rintro ⟨i,q⟩ ⟨hi,hA,hB⟩
 dsimp only at hi hA hB ⊢
 repeat' (first|refine zN ?_|refine zE ?_|refine zP ?_|refine pD ?_|refine zS ?_|refine zR ?_|refine zO ?_|refine zB ?_|refine zX ?_|refine zT ?_|refine skipI rfl ?_)
 refine condI rfl (fun c2=>?_) (fun c2=>?_)
 ·simp only [decide_eq_true_eq] at c2
  have hil:i < ws.length:=by omega
  have hin:((i:Int)).toNat=i:=by omega
  have hlim:=win_lim F hil
  rw [Re.drop_getI (d:=tWin.dflt) hil] at hA hB
  obtain ⟨x,hx⟩:∃ x,x=getI ws tWin.dflt i:=⟨_,rfl⟩
  rw [← hx] at hA hB hlim
  obtain ⟨hA1,hA2⟩:Y.ok (q++[((i:Int),watF x vs)])∧(Y.cont (q++[((i:Int),watF x vs)])=true→YGo Y (q++[((i:Int),watF x vs)]) (watL vs (i+1) (ws.drop (i+1)))):=hA
  have hB:tot=(bif Y.cont (q++[((i:Int),watF x vs)]) then cut Y.cont (q++[((i:Int),watF x vs)]) (watL vs (i+1) (ws.drop (i+1))) else (q++[((i:Int),watF x vs)],false)).1:=hB
  repeat' (first|refine zN ?_|refine zE ?_|refine zP ?_|refine pD ?_|refine zS ?_|refine zR ?_|refine zO ?_|refine zB ?_|refine zX ?_|refine zT ?_|refine skipI rfl ?_)
  simp only [hin,← hx]
  refine loopI (σ:=Nat × Int × Bool × Bool) (fun s=>[(25,.int .i64 s.1),(6,.ptr 5000 0)]) (fun s=>[(5000,.box [.int .i64 x.1,.int .i64 x.2.1,.int .i64 x.2.2,.int .i64 s.2.1,.bool s.2.2.1,.bool s.2.2.2])]) (fun s=>s.1≤List.length (α:=VisT) vs∧(List.take (α:=VisT) s.1 vs).foldl stepV (x,0,false,false)=(x,s.2)) (fun s=>List.length (α:=VisT) vs - s.1) (0,0,false,false) rfl (fun _=>rfl) rfl ?_ ?_ ?_
  ·exact ⟨Nat.zero_le _,rfl⟩
  ·repeat' (first|exact trivial|exact rfl|refine ⟨rfl,?_⟩|refine And.intro ?_ ?_)
  rintro ⟨j,e,o,la⟩ ⟨hj,hS⟩
  dsimp only at hj hS ⊢
  have hok:WatOk (x,e,o,la):=hS ▸ foldV_ok ⟨⟨Int.le_refl _,(by decide:(0:Int)≤1000000)⟩,hlim⟩
  obtain ⟨⟨e0,e1⟩,l0,l1⟩:=hok
  dsimp only at e0 e1 l0 l1
  repeat' (first|refine zN ?_|refine zE ?_|refine zP ?_|refine pD ?_|refine zS ?_|refine zR ?_|refine zO ?_|refine zB ?_|refine zX ?_|refine zT ?_|refine skipI rfl ?_)
  refine condI rfl (fun c3=>?_) (fun c3=>?_)
  ·simp only [decide_eq_true_eq] at c3
   have hjl:j < List.length (α:=VisT) vs:=by omega
   have hjn:((j:Int)).toNat=j:=by omega
   have hfs:(List.take (α:=VisT) (j+1) vs).foldl stepV (x,0,false,false)=stepV (x,e,o,la) (getI vs tVis.dflt j):=by rw [Re.take_getI (d:=tVis.dflt) hjl,List.foldl_append,hS];rfl
   obtain ⟨v,hv⟩:∃ v,v=getI vs tVis.dflt j:=⟨_,rfl⟩
   rw [← hv] at hfs
   unfold stepV at hfs
   repeat' (first|refine zN ?_|refine zE ?_|refine zP ?_|refine pD ?_|refine zS ?_|refine zR ?_|refine zO ?_|refine zB ?_|refine zX ?_|refine zT ?_|refine skipI rfl ?_)
   simp only [hjn,← hv]
   refine condI rfl (fun c4=>?_) (fun c4=>?_)
   ·have c4:(timeB v.2.2.1&&timeB v.2.2.2)=true:=c4
    rw [c4] at hfs
    have hfs:List.foldl stepV (x,0,false,false) (List.take (α:=VisT) (j+1) vs)=seeF (x,e,o,la) v:=hfs
    have hsw:(seeF (x,e,o,la) v).1=x:=see_win
    repeat' (first|refine zN ?_|refine zE ?_|refine zP ?_|refine pD ?_|refine pC (by (show In64 _;unfold In64;omega)) ?_|refine zS ?_|refine zR ?_|refine zO ?_|refine zB ?_|refine zX ?_|refine zT ?_|refine skipI rfl ?_)
    refine roundI (j+1,(seeF (x,e,o,la) v).2) rfl ?_ ?_ ?_
    ·exact ⟨by show j+1≤List.length (α:=VisT) vs;omega,by rw [hfs];show _=(x,(seeF (x,e,o,la) v).2);exact Prod.ext hsw rfl⟩
    ·show List.length (α:=VisT) vs - (j+1) < List.length (α:=VisT) vs - j
     omega
    ·repeat' (first|exact trivial|with_reducible exact rfl|refine And.intro ?_ ?_)
     all_goals (first|rfl|exact (congrArg (fun z=>z.1) hsw).symm|exact (congrArg (fun z=>z.2.1) hsw).symm|exact (congrArg (fun z=>z.2.2) hsw).symm)
   ·have c4:(timeB v.2.2.1&&timeB v.2.2.2)=false:=c4
    rw [c4] at hfs
    repeat' (first|refine zN ?_|refine zE ?_|refine zP ?_|refine pD ?_|refine zS ?_|refine zR ?_|refine zO ?_|refine zB ?_|refine zX ?_|refine zT ?_|refine skipI rfl ?_)
    refine roundI (j+1,e,o,la) rfl ?_ ?_ ?_
    ·exact ⟨by show j+1≤List.length (α:=VisT) vs;omega,hfs⟩
    ·show List.length (α:=VisT) vs - (j+1) < List.length (α:=VisT) vs - j
     omega
    ·repeat' (first|exact trivial|with_reducible exact rfl|refine And.intro ?_ ?_)
     all_goals rfl
  ·simp only [decide_eq_false_iff_not] at c3
   rw [List.take_of_length_le (show List.length (α:=VisT) vs≤j by omega)] at hS
   have hS:watF x vs=(x,e,o,la):=hS
   rw [hS] at hA1 hA2 hB
   repeat' (first|refine zN ?_|refine zE ?_|refine zP ?_|refine pD ?_|refine pC (by exact hA1) ?_|refine zS ?_|refine zR ?_|refine zO ?_|refine zB ?_|refine zX ?_|refine zT ?_|refine skipI rfl ?_)
   refine condI rfl (fun c5=>?_) (fun c5=>?_)
   ·have c5:Y.cont (q++[((i:Int),x,e,o,la)])=false:=(Bool.not_eq_true' _).mp c5
    rw [c5] at hB
    repeat' (first|refine zN ?_|refine zE ?_|refine zP ?_|refine pD ?_|refine zS ?_|refine zR ?_|refine zO ?_|refine zB ?_|refine zX ?_|refine zT ?_|refine skipI rfl ?_)
    refine endN rfl ?_
    repeat' (first|exact trivial|with_reducible exact rfl|refine And.intro ?_ ?_)
    exact hB
   ·have c5:Y.cont (q++[((i:Int),x,e,o,la)])=true:=(Bool.not_eq_false' _).mp c5
    rw [c5] at hB
    repeat' (first|refine zN ?_|refine zE ?_|refine zP ?_|refine pD ?_|refine zS ?_|refine zR ?_|refine zO ?_|refine zB ?_|refine zX ?_|refine zT ?_|refine skipI rfl ?_)
    refine roundI (i+1,q++[((i:Int),x,e,o,la)]) rfl ?_ ?_ ?_
    ·exact ⟨by show i+1≤ws.length;omega,hA2 c5,hB⟩
    ·show ws.length - (i+1) < ws.length - i
     omega
    ·repeat' (first|exact trivial|with_reducible exact rfl|refine And.intro ?_ ?_)
     all_goals rfl
 ·simp only [decide_eq_false_iff_not] at c2
  rw [List.drop_eq_nil_of_le (by omega)] at hB
  have hB:tot=q:=hB
  rw [hB]
  repeat' (first|refine zN ?_|refine zE ?_|refine zP ?_|refine pD ?_|refine zS ?_|refine zR ?_|refine zO ?_|refine zB ?_|refine zX ?_|refine zT ?_|refine skipI rfl ?_)
  refine endN rfl ?_
  repeat' (first|exact trivial|with_reducible exact rfl|refine And.intro ?_ ?_)
def watS:Spec:=⟨true,fun args rows=>match args,rows with
 | [.agg [.int .i64 mn,.int .i64 mx,.sl (.pair (.int .i64) (.pair (.slice (.int .i64)) (.pair (.int .i64) (.pair (.int .i64) (.pair (.slice (.int .i64)) (.pair (.int .i64) (.int .i64))))))) ss,.sl (.pair (.int .i64) (.pair (.int .i64) (.int .i64))) ws],.sl (.pair (.int .i64) (.pair (.int .i64) (.pair (.int .i64) (.int .i64)))) vs],[] =>
   some ⟨True,.fn 94 [] [.ptr 0 0,.ptr 1 0],[.box [.int .i64 mn,.int .i64 mx,.sl tStep ss,.sl tWin ws],.box [.sl tVis vs]],true⟩
 | _,_=>none⟩
theorem watOk:SpecSound Tryz.prog 53 watS:=by
 refine soundR (envOf sigNil) Tryz.func53 (c:=body Tryz.f53) rfl (by kernel_rfl) rfl ?_
 intro args rows out hf hpre
 split at hf <;> try (cases hf;done)
 rename_i mn mx ss ws vs
 cases hf
 refine ⟨Nat.le_of_ble_eq_true rfl,initI (args:=[.agg [.int .i64 mn,.int .i64 mx,.sl tStep ss,.sl tWin ws],.sl tVis vs]) (rows:=[]) rfl ?_⟩
 repeat' (first|refine zN ?_|refine zE ?_|refine zP ?_|refine pD ?_|refine zS ?_|refine zR ?_|refine zO ?_|refine zB ?_|refine zX ?_|refine zT ?_|refine skipI rfl ?_)
 refine endR rfl ?_
 repeat' (first|exact trivial|exact rfl|refine ⟨rfl,?_⟩|refine And.intro ?_ ?_)
def sigWt:List (Nat × Spec):=[(53,watS),(94,wat1S)]
theorem sigWtOk:SigOk Tryz.prog (look sigWt):=sigCons (sigCons sigNil
 Tryz.func94 (by kernel_rfl) (c:=body Tryz.f94) rfl wat1Ok)
 Tryz.func53 (by kernel_rfl) (c:=body Tryz.f53) rfl watOk
def lateQ (q:List (Int × WatT)):List Int:=(q.filter fun p=>p.2.2.2.2).map Prod.fst
def openQ (q:List (Int × WatT)):List (Int × Int):=(q.filter fun p=>p.2.2.2.1).map fun p=>(p.1,p.2.2.1+p.2.1.2.2)
theorem lateQ_snoc {q:List (Int × WatT)} {p:Int × WatT}:lateQ (q++[p])=bif p.2.2.2.2 then lateQ q++[p.1] else lateQ q:=by
 unfold lateQ
 rw [List.filter_append,List.map_append]
 cases h:p.2.2.2.2 <;> simp [h]
theorem openQ_snoc {q:List (Int × WatT)} {p:Int × WatT}:openQ (q++[p])=bif p.2.2.2.1 then openQ q++[(p.1,p.2.2.1+p.2.1.2.2)] else openQ q:=by
 unfold openQ
 rw [List.filter_append,List.map_append]
 cases h:p.2.2.2.1 <;> simp [h]
theorem lateQ_len {q:List (Int × WatT)}:(lateQ q).length≤q.length:=by unfold lateQ;rw [List.length_map];exact List.length_filter_le _ _
theorem openQ_len {q:List (Int × WatT)}:(openQ q).length≤q.length:=by unfold openQ;rw [List.length_map];exact List.length_filter_le _ _
def lateS:Spec:=plain fun
 | [.agg [.int .i64 mn,.int .i64 mx,.sl (.pair (.int .i64) (.pair (.slice (.int .i64)) (.pair (.int .i64) (.pair (.int .i64) (.pair (.slice (.int .i64)) (.pair (.int .i64) (.int .i64))))))) ss,.sl (.pair (.int .i64) (.pair (.int .i64) (.int .i64))) ws],.sl (.pair (.int .i64) (.pair (.int .i64) (.pair (.int .i64) (.int .i64)))) vs] =>
   some ⟨True,.own 0,[.seq tInt (lateQ (watA mn mx ss ws vs))],false⟩
 | _=>none
theorem lateOk:SpecSound Tryz.prog 25 lateS:=by
 refine soundP (envOf sigWtOk) Tryz.func25 (c:=body Tryz.f25) rfl (by kernel_rfl) rfl ?_
 intro args out hf hpre
 split at hf <;> try (cases hf;done)
 rename_i mn mx ss ws vs
 cases hf
 refine ⟨Nat.le_of_ble_eq_true rfl,initI (args:=[.agg [.int .i64 mn,.int .i64 mx,.sl tStep ss,.sl tWin ws],.sl tVis vs]) rfl ?_⟩
 repeat' (first|refine zN ?_|refine zE ?_|refine zP ?_|refine pD ?_|refine zS ?_|refine zR ?_|refine zO ?_|refine zB ?_|refine zX ?_|refine zT ?_|refine skipI rfl ?_)
 refine rangeI ((.pair tInt tWat)) true (fun q=>[(4,.box [.own 55000]),(55000,.seq tInt (lateQ q))]) (fun _=>none) (watA mn mx ss ws vs) 9 rfl rfl rfl rfl rfl rfl rfl rfl rfl (fun _=>rfl) (fun _=>rfl) (fun _=>rfl) rfl rfl rfl ?_ ?_ ?_ ?_ ?_ ?_
 ·exact ⟨rfl,rfl,rfl,by repeat' (first|exact trivial|exact rfl|refine And.intro ?_ ?_),by repeat' (first|exact trivial|exact rfl|refine And.intro ?_ ?_),rfl,rfl,rfl⟩
 ·repeat' (first|exact trivial|exact rfl|refine ⟨rfl,?_⟩|refine And.intro ?_ ?_)
 ·rfl
 ·intro J
  exact ⟨_,_,rfl,fun h=>h,rfl,rfl⟩
 ·intro l q x hq hjq hok
  refine ⟨_,rfl,?_⟩
  have hl:=Nat.le_trans (List.IsPrefix.length_le hq) watA_len
  rw [List.length_append,List.length_singleton] at hl
  have hlq:=lateQ_len (q:=q)
  rw [lateQ_snoc]
  repeat' (first|refine zN ?_|refine zE ?_|refine zP ?_|refine pD ?_|refine zS ?_|refine zR ?_|refine zO ?_|refine zB ?_|refine zX ?_|refine zT ?_|refine skipI rfl ?_)
  refine asN ?_
  repeat' (first|refine zN ?_|refine zE ?_|refine zP ?_|refine pD ?_|refine zS ?_|refine zR ?_|refine zO ?_|refine zB ?_|refine zX ?_|refine zT ?_|refine skipI rfl ?_)
  refine condI rfl (fun c3=>?_) (fun c3=>?_)
  ·have c3:x.2.2.2.2=true:=c3
   rw [c3]
   repeat' (first|refine zN ?_|refine zE ?_|refine zP ?_|refine pD ?_|refine pC (by (show List.length _+_≤_;simp;omega)) ?_|refine zS ?_|refine zR ?_|refine zO ?_|refine zB ?_|refine zX ?_|refine zT ?_|refine skipI rfl ?_)
   refine yN rfl rfl ?_
   repeat' (first|exact trivial|exact rfl|refine ⟨rfl,?_⟩|refine And.intro ?_ ?_)
  ·have c3:x.2.2.2.2=false:=c3
   rw [c3]
   repeat' (first|refine zN ?_|refine zE ?_|refine zP ?_|refine pD ?_|refine zS ?_|refine zR ?_|refine zO ?_|refine zB ?_|refine zX ?_|refine zT ?_|refine skipI rfl ?_)
   refine yN rfl rfl ?_
   repeat' (first|exact trivial|exact rfl|refine ⟨rfl,?_⟩|refine And.intro ?_ ?_)
 ·rw [cut_none]
  repeat' (first|refine zN ?_|refine zE ?_|refine zP ?_|refine pD ?_|refine zS ?_|refine zR ?_|refine zO ?_|refine zB ?_|refine zX ?_|refine zT ?_|refine skipI rfl ?_)
  refine endR rfl ?_
  repeat' (first|exact trivial|exact rfl|refine ⟨rfl,?_⟩|refine And.intro ?_ ?_)
def openS:Spec:=plain fun
 | [.agg [.int .i64 mn,.int .i64 mx,.sl (.pair (.int .i64) (.pair (.slice (.int .i64)) (.pair (.int .i64) (.pair (.int .i64) (.pair (.slice (.int .i64)) (.pair (.int .i64) (.int .i64))))))) ss,.sl (.pair (.int .i64) (.pair (.int .i64) (.int .i64))) ws],.sl (.pair (.int .i64) (.pair (.int .i64) (.pair (.int .i64) (.int .i64)))) vs] =>
   some ⟨True,.own 0,[.seq (.pair tInt tInt) (openQ (watA mn mx ss ws vs))],false⟩
 | _=>none
theorem openOk:SpecSound Tryz.prog 24 openS:=by
 refine soundP (envOf sigWtOk) Tryz.func24 (c:=body Tryz.f24) rfl (by kernel_rfl) rfl ?_
 intro args out hf hpre
 split at hf <;> try (cases hf;done)
 rename_i mn mx ss ws vs
 cases hf
 refine ⟨Nat.le_of_ble_eq_true rfl,initI (args:=[.agg [.int .i64 mn,.int .i64 mx,.sl tStep ss,.sl tWin ws],.sl tVis vs]) rfl ?_⟩
 repeat' (first|refine zN ?_|refine zE ?_|refine zP ?_|refine pD ?_|refine zS ?_|refine zR ?_|refine zO ?_|refine zB ?_|refine zX ?_|refine zT ?_|refine skipI rfl ?_)
 refine rangeI ((.pair tInt tWat)) true (fun q=>[(4,.box [.own 55000]),(55000,.seq (.pair tInt tInt) (openQ q))]) (fun _=>none) (watA mn mx ss ws vs) 9 rfl rfl rfl rfl rfl rfl rfl rfl rfl (fun _=>rfl) (fun _=>rfl) (fun _=>rfl) rfl rfl rfl ?_ ?_ ?_ ?_ ?_ ?_
 ·exact ⟨rfl,rfl,rfl,by repeat' (first|exact trivial|exact rfl|refine And.intro ?_ ?_),by repeat' (first|exact trivial|exact rfl|refine And.intro ?_ ?_),rfl,rfl,rfl⟩
 ·repeat' (first|exact trivial|exact rfl|refine ⟨rfl,?_⟩|refine And.intro ?_ ?_)
 ·rfl
 ·intro J
  exact ⟨_,_,rfl,fun h=>h,rfl,rfl⟩
 ·intro l q x hq hjq hok
  refine ⟨_,rfl,?_⟩
  have hl:=Nat.le_trans (List.IsPrefix.length_le hq) watA_len
  rw [List.length_append,List.length_singleton] at hl
  have hlq:=openQ_len (q:=q)
  obtain ⟨⟨b0,b1⟩,b2,b3⟩:=watA_ok (hq.subset (show x∈q++[x] by simp))
  rw [openQ_snoc]
  repeat' (first|refine zN ?_|refine zE ?_|refine zP ?_|refine pD ?_|refine zS ?_|refine zR ?_|refine zO ?_|refine zB ?_|refine zX ?_|refine zT ?_|refine skipI rfl ?_)
  refine asN ?_
  repeat' (first|refine zN ?_|refine zE ?_|refine zP ?_|refine pD ?_|refine zS ?_|refine zR ?_|refine zO ?_|refine zB ?_|refine zX ?_|refine zT ?_|refine skipI rfl ?_)
  refine condI rfl (fun c3=>?_) (fun c3=>?_)
  ·have c3:x.2.2.2.1=true:=c3
   rw [c3]
   repeat' (first|refine zN ?_|refine zE ?_|refine zP ?_|refine pD ?_|refine pC (by first|(show List.length _+_≤_;simp;omega)|(unfold In64;omega)|(show In64 _∧_;exact ⟨by unfold In64;omega,by simp;omega⟩)) ?_|refine zS ?_|refine zR ?_|refine zO ?_|refine zB ?_|refine zX ?_|refine zT ?_|refine skipI rfl ?_)
   refine yN rfl rfl ?_
   repeat' (first|exact trivial|exact rfl|refine ⟨rfl,?_⟩|refine And.intro ?_ ?_)
  ·have c3:x.2.2.2.1=false:=c3
   rw [c3]
   repeat' (first|refine zN ?_|refine zE ?_|refine zP ?_|refine pD ?_|refine zS ?_|refine zR ?_|refine zO ?_|refine zB ?_|refine zX ?_|refine zT ?_|refine skipI rfl ?_)
   refine yN rfl rfl ?_
   repeat' (first|exact trivial|exact rfl|refine ⟨rfl,?_⟩|refine And.intro ?_ ?_)
 ·rw [cut_none]
  repeat' (first|refine zN ?_|refine zE ?_|refine zP ?_|refine pD ?_|refine zS ?_|refine zR ?_|refine zO ?_|refine zB ?_|refine zX ?_|refine zT ?_|refine skipI rfl ?_)
  refine endR rfl ?_
  repeat' (first|exact trivial|exact rfl|refine ⟨rfl,?_⟩|refine And.intro ?_ ?_)
end Go.AM.YtkgmmmhokgdcaaaGreat.Fl
end
