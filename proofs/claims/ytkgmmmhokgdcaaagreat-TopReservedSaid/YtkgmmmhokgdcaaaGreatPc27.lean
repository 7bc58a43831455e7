/- AmMove, PlG, ReV. -/
import Derived.Test.YtkgmmmhokgdcaaaGreatPc13
import Derived.Test.YtkgmmmhokgdcaaaGreatPc22

section
set_option linter.all false
namespace Go.AM
section
variable {P:Program} {C:Ctx} {g:Nat→Gh} {R:Nat→Prop} {a:Act} {w:World} {st:St} {tt:TT} {S:Nat→Option Spec}
theorem eval_put_same {a:Act} {t:Nat} {v:Value} (h:t < a.tmps.size):(a.put (some t) v).eval (.tmp t)=v:=by
 refine getD_of ?_
 simp only [Act.put]
 rw [getElem?_put _ _ _ _ h,if_pos rfl]
theorem eval_put_other {a:Act} {t u:Nat} {v:Value} (h:t < a.tmps.size) (hne:t≠u):(a.put (some t) v).eval (.tmp u)=a.eval (.tmp u):=by
 show ((a.put (some t) v).tmps).getD u undef=a.tmps.getD u undef
 simp only [Act.put]
 rw [Array.getD_eq_getD_getElem?,Array.getD_eq_getD_getElem?,getElem?_put _ _ _ _ h,if_neg hne]
theorem Rel.junk (h:Rel C g R st a w) (hgt:st.gt=[]) {d:Nat} (hd:d < st.n) (v:Value):Rel C g R ⟨st.n,(d,⟨[],.junk⟩)::st.slots,st.gt,st.ks,st.rows⟩ (a.put (some d) v) w :=
 h.put d ⟨[],.junk⟩ v st.gt hd (by rw [hgt];rfl) (fun _ h=>h) (fun u x h=>by simp at h) ⟨fun _=>.junk,fun h=>absurd (fun t x h=>by simp at h) h⟩
theorem move_rel (hrel:Rel C g R st a w) {r m:Nat} {ty:Ty} {xss yss:List (List ty.El)} (hr:look st.rows r=some (.arr ty yss none)) (hm:look st.rows m=some (.arr ty xss none)) (hrm:m≠r)
 {vs:List Value} {cty:TypeId} (hh:w.heap[(g m).b]?=some (.cells vs.toArray cty (0,0))) (ha:ArrH R w (g m).b ty xss none vs) {us:List Value} {cty':TypeId} (hhr:w.heap[(g r).b]?=some (.cells us.toArray cty' (0,0))) :
 Rel C g R ⟨st.n,st.slots,st.gt,appK [] st.ks,addRows [(r,.arr ty xss none),(m,.dead)] st.rows⟩ a (w.setRow (g r).b vs.toArray):=by
 have hownr:Own g w r (.arr ty yss none) (g r).b:=.inl rfl
 have hownm:∀ i v b,vs[i]?=some v→blkOf v=some b→Own g w m (.arr ty xss none) b:=fun i v b hi hb=>.inr ⟨vs,cty,i,v,hh,hi,by simp,hb⟩
 have hmb:∀ i v b,vs[i]?=some v→blkOf v=some b→b≠(g r).b:=fun i v b hi hb e=>hrm (hrel.heap.sep m r _ _ b hm hr (hownm i v b hi hb) (e ▸ hownr))
 have hkeep:∀ b,b≠(g r).b→(w.setRow (g r).b vs.toArray).heap[b]?=w.heap[b]?:=fun b hb=>setRow_other w _ _ _ hb
 have hkR:∀ ad:Addr,R ad.block→(w.setRow (g r).b vs.toArray).cell? ad=w.cell? ad:=fun ad had=>cell_of_heap (hkeep _ (fun e=>hR_w hrel hr hownr (e ▸ had)))
 have hh':(w.setRow (g r).b vs.toArray).heap[(g r).b]?=some (.cells vs.toArray cty' (0,0)):=setRow_heap' w _ _ _ cty' hhr
 have hlk:∀ r' o,look [(r,AObj.arr ty xss none),(m,.dead)] r'=some o→(r'=r∧o=.arr ty xss none)∨(r'=m∧o=.dead):=fun r' o h=>by
  rw [look_cons] at h
  by_cases e:r=r'
  ·simp [e] at h;exact .inl ⟨e.symm,h.symm⟩
  ·simp [e] at h
   rw [look_cons] at h
   by_cases e2:m=r'
   ·simp [e2] at h;exact .inr ⟨e2.symm,h.symm⟩
   ·simp [e2,look] at h
 have hownN:∀ b,Own g (w.setRow (g r).b vs.toArray) r (.arr ty xss none) b→Own g w r (.arr ty yss none) b∨Own g w m (.arr ty xss none) b:=fun b hb=>by
  rcases hb with rfl|⟨vs',cty',i,v',h1,h2,_,hb⟩
  ·exact .inl (.inl rfl)
  ·rw [hh'] at h1
   obtain rfl:=cells_inj h1
   exact .inr (hownm i v' b h2 hb)
 have hszw:(w.setRow (g r).b vs.toArray).heap.size=w.heap.size:=by simp
 have hKe:(fun r'=>mem st.ks r'=true∨mem [] r'=true)=(fun r'=>mem st.ks r'=true):=by funext r';simp [mem]
 refine hrel.gen (fun _ _=>rfl) (fun _ h=>h) (fun _ h=>h) ?_
 have:=hrel.heap.gen (g':=g) (R':=R) (w':=w.setRow (g r).b vs.toArray) [(r,.arr ty xss none),(m,.dead)] [] (fun r'=>r'=r∨r'=m) (fun r hr=>by simp [mem] at hr)
  (fun r' o1 h=>.inl (by rcases hlk r' o1 h with ⟨rfl,_⟩|⟨rfl,_⟩;exact hrel.heap.keys _ _ hr;exact hrel.heap.keys _ _ hm))
  (fun r' h=>by
   rcases h with rfl|rfl
   ·exact ⟨_,by rw [look_cons];simp;rfl⟩
   ·exact ⟨.dead,by rw [look_cons,if_neg (Ne.symm hrm),look_cons];simp⟩)
  rfl rfl rfl (by rw [hszw];exact Nat.le_refl _) (fun b _=>by
   by_cases e:b=(g r).b
   ·exact .inr ⟨r,_,.inl rfl,hr,e ▸ hownr⟩
   ·exact .inl (hkeep b e)) (fun _ _=>rfl) (fun _ h=>h)
  (fun b hb=>by rw [hszw];exact hrel.heap.rlt b hb) (fun _ h=>.inl h)
  (fun r' o1 h=>by
   rw [hKe]
   rcases hlk r' o1 h with ⟨rfl,rfl⟩|⟨rfl,rfl⟩
   ·exact ⟨_,cty',hh',⟨ha.len,ha.one,fun i v xs h1 h2 _=>ElemR_mono (fun _ h=>h) hkR (fun b hb=>hkeep b (hmb i v b h1 hb)) (ha.el i v xs h1 h2 (by simp)),fun i v h1 _ h2=>hmb i v _ h1 h2 rfl,ha.sep⟩⟩
   ·trivial)
  (fun r' o1 b h hb=>by
   rcases hlk r' o1 h with ⟨rfl,rfl⟩|⟨rfl,rfl⟩
   ·rcases hownN b hb with h1|h1
    ·exact ⟨hR_w hrel hr h1,.inr ⟨_,_,.inl rfl,hr,h1⟩⟩
    ·exact ⟨hR_w hrel hm h1,.inr ⟨_,_,.inr rfl,hm,h1⟩⟩
   ·simp [Own] at hb)
  (fun r1 r2 o1 o2 b h6 h7 h8 h9=>by
   rcases hlk r1 o1 h6 with ⟨rfl,rfl⟩|⟨rfl,rfl⟩
   ·rcases hlk r2 o2 h7 with ⟨rfl,rfl⟩|⟨rfl,rfl⟩
    ·rfl
    ·simp [Own] at h9
   ·simp [Own] at h8)
 exact ⟨this.1.lists,this.2⟩
end
section
variable {tt:TT} {S:Nat→Option Spec} {E:Env PG tt S} {K:List Nat} {c:Code} {st:St} {Q:AExit→St→Prop}
set_option maxHeartbeats 1000000 in
theorem moveI {id:Nat} {t0 t1 t2 t3 t4 x y:Nat} {y0 y1 y2 y3 y4 y5 T:TypeId} {p0 p1 p2 p3 p4 p5:String} {e0 f1 f2 f3 f4 f5:Array Edge} {ti:TI}
 (hc:c=.region id #[⟨some t0,.move (.tmp x),y0,p0,e0,none⟩,⟨some t1,.move (.tmp y),y1,p1,f1,none⟩,⟨some t2,.nilCheck (.tmp t1),y2,p2,f2,none⟩,⟨some t3,.load T (.tmp t2),y3,p3,f3,none⟩,⟨some t4,.nilCheck (.tmp t0),y4,p4,f4,none⟩,⟨none,.store T (.tmp t4) (.tmp t3),y5,p5,f5,none⟩] false)
 {r m:Nat} {ty:Ty} {xss yss:List (List ty.El)} (hx:look st.slots x=some ⟨[],.ptr r 0⟩) (hy:look st.slots y=some ⟨[],.ptr m 0⟩)
 (hr:look st.rows r=some (.arr ty yss none)) (hm:look st.rows m=some (.arr ty xss none)) (hrm:Nat.beq m r=false) (hT:look tt.1 T=some ti) (hag:ti.agg=true)
 (hgt:st.gt=[]) (hck:(Nat.blt t0 st.n&&Nat.blt t1 st.n&&Nat.blt t2 st.n&&Nat.blt t3 st.n&&Nat.blt t4 st.n&&!Nat.beq t0 y&&!Nat.beq t0 t1&&!Nat.beq t0 t2&&!Nat.beq t0 t3&&!Nat.beq t1 t0&&!Nat.beq t3 t4)=true)
 {z:St} (hz:tidy K ⟨st.n,(t4,⟨[],.junk⟩)::(t3,⟨[],.junk⟩)::(t2,⟨[],.junk⟩)::(t1,⟨[],.junk⟩)::(t0,⟨[],.junk⟩)::st.slots,st.gt,appK [] st.ks,addRows [(r,.arr ty xss none),(m,.dead)] st.rows⟩ (fun s=>some s)=some z)
 (hl1:xss.length=ti.size) (hl2:yss.length=ti.size) (k:Q .normal z):WP E K c st Q:=by
 subst hc
 intro hcode C g R a w Z hrel hq
 simp only [Bool.and_eq_true,Bool.not_eq_true',Nat.blt_eq] at hck
 obtain ⟨⟨⟨⟨⟨⟨⟨⟨⟨⟨l0,l1⟩,l2⟩,l3⟩,l4⟩,n0y⟩,n01⟩,n02⟩,n03⟩,n10⟩,n34⟩:=hck
 have n0y:=beq_ne n0y
 have n01:=beq_ne n01
 have n02:=beq_ne n02
 have n03:=beq_ne n03
 have n10:=beq_ne n10
 have n34:=beq_ne n34
 have hrm:=beq_ne hrm
 obtain ⟨i,zz,hi,hsz,_⟩:=E.hT.info hT
 obtain ⟨vs,cty,hh,ha⟩:=hrel.heap.held _ _ hm
 obtain ⟨us,cty',hhr,har⟩:=hrel.heap.held _ _ hr
 have hagr:∀ w:World,(isAgg T).run PG w=.ok true w:=fun w=>by rw [isAgg_run E.hT hT w,hag]
 obtain ⟨vx,hvx,rx⟩:=(hrel.slots x _ hx).1 (fun t x h=>by simp at h)
 obtain ⟨vy,hvy,ry⟩:=(hrel.slots y _ hy).1 (fun t x h=>by simp at h)
 have ex:a.eval (.tmp x)=.pointer (some ⟨(g r).b,0,none⟩):=by
  cases rx;exact getD_of hvx
 have ey:a.eval (.tmp y)=.pointer (some ⟨(g m).b,0,none⟩):=by
  cases ry;exact getD_of hvy
 have hs0:a.tmps.size=st.n:=hrel.size
 have hsp:∀ (a:Act) (d:Nat) (v:Value),(a.put (some d) v).tmps.size=a.tmps.size:=fun a d v=>by simp [Act.put]
 obtain ⟨a1,ha1⟩:∃ a1,a1=a.put (some t0) (.pointer (some ⟨(g r).b,0,none⟩)):=⟨_,rfl⟩
 obtain ⟨a2,ha2⟩:∃ a2,a2=a1.put (some t1) (.pointer (some ⟨(g m).b,0,none⟩)):=⟨_,rfl⟩
 obtain ⟨a3,ha3⟩:∃ a3,a3=a2.put (some t2) (.pointer (some ⟨(g m).b,0,none⟩)):=⟨_,rfl⟩
 obtain ⟨a4,ha4⟩:∃ a4,a4=a3.put (some t3) (.agg vs.toArray):=⟨_,rfl⟩
 obtain ⟨a5,ha5⟩:∃ a5,a5=a4.put (some t4) (.pointer (some ⟨(g r).b,0,none⟩)):=⟨_,rfl⟩
 have s1:a1.tmps.size=st.n:=by rw [ha1,hsp,hs0]
 have s2:a2.tmps.size=st.n:=by rw [ha2,hsp,s1]
 have s3:a3.tmps.size=st.n:=by rw [ha3,hsp,s2]
 have s4:a4.tmps.size=st.n:=by rw [ha4,hsp,s3]
 have e1:a1.eval (.tmp y)=.pointer (some ⟨(g m).b,0,none⟩):=by rw [ha1,eval_put_other (by rw [hs0];exact l0) n0y];exact ey
 have e2:a2.eval (.tmp t1)=.pointer (some ⟨(g m).b,0,none⟩):=by rw [ha2,eval_put_same (by rw [s1];exact l1)]
 have e3:a3.eval (.tmp t2)=.pointer (some ⟨(g m).b,0,none⟩):=by rw [ha3,eval_put_same (by rw [s2];exact l2)]
 have e4:a4.eval (.tmp t0)=.pointer (some ⟨(g r).b,0,none⟩):=by
  rw [ha4,eval_put_other (by rw [s3];exact l3) (Ne.symm n03),ha3,eval_put_other (by rw [s2];exact l2) (Ne.symm n02),ha2,eval_put_other (by rw [s1];exact l1) n10,ha1,eval_put_same (by rw [hs0];exact l0)]
 have e5:a5.eval (.tmp t4)=.pointer (some ⟨(g r).b,0,none⟩):=by rw [ha5,eval_put_same (by rw [s4];exact l4)]
 have e6:a5.eval (.tmp t3)=.agg vs.toArray:=by rw [ha5,eval_put_other (by rw [s4];exact l4) (Ne.symm n34),ha4,eval_put_same (by rw [s3];exact l3)]
 have hload:(Instr.loadAt T (.pointer (some ⟨(g m).b,0,none⟩))).run PG w=.ok (.agg vs.toArray) w:=by
  have hlo:=run_loadCells_list (P:=PG) w ⟨(g m).b,0,none⟩ vs (cell_box hh)
  have hlen:vs.length=i.size:=by rw [ha.len,hl1,hsz]
  rw [hlen] at hlo
  simp [Instr.loadAt,Instr.sureAddr,loadVar,hagr,run_size w hi,hlo]
 have hst:=storeVar_run (P:=PG) (t:=T) hi (off:=0) (v:=.agg vs.toArray) hhr (by show vs.toArray.size=_;simp [ha.len,hl1,hsz]) (by show 0+vs.toArray.size≤_;simp [ha.len,har.len,hl1,hl2]) (by show ∀ u∈vs.toArray.toList,_;simpa using ha.one)
 have hnew:us.toArray.toList.take 0++(Value.agg vs.toArray).cells.toList++us.toArray.toList.drop (0+(Value.agg vs.toArray).cells.size)=vs:=by
  show _++vs.toArray.toList++us.toArray.toList.drop (0+vs.toArray.size)=vs
  rw [List.drop_eq_nil_of_le (by simp [ha.len,har.len,hl1,hl2])]
  simp
 rw [hnew] at hst
 have hrel5:=((((hrel.junk hgt l0 (.pointer (some ⟨(g r).b,0,none⟩))).junk hgt l1 (.pointer (some ⟨(g m).b,0,none⟩))).junk hgt l2 (.pointer (some ⟨(g m).b,0,none⟩))).junk hgt l3 (.agg vs.toArray)).junk hgt l4 (.pointer (some ⟨(g r).b,0,none⟩))
 rw [← ha1,← ha2,← ha3,← ha4,← ha5] at hrel5
 have hrelZ:Rel C g R ⟨st.n,(t4,⟨[],.junk⟩)::(t3,⟨[],.junk⟩)::(t2,⟨[],.junk⟩)::(t1,⟨[],.junk⟩)::(t0,⟨[],.junk⟩)::st.slots,st.gt,appK [] st.ks,addRows [(r,.arr ty xss none),(m,.dead)] st.rows⟩ a5 (w.setRow (g r).b vs.toArray):=move_rel hrel5 (r:=r) (m:=m) (ty:=ty) (yss:=yss) (xss:=xss) hr hm hrm hh ha hhr
 have hfin:=hq C .normal z g R a5 (w.setRow (g r).b vs.toArray) (Later.refl C) k (by
  rw [tidy_eq] at hz
  obtain rfl:=Option.some.inj hz
  exact tidy_sound hrelZ)
 refine wpIn_region ?_
 obtain ⟨ops,hops⟩:∃ ops:Array Oper,ops=#[⟨some t0,.move (.tmp x),y0,p0,e0,none⟩,⟨some t1,.move (.tmp y),y1,p1,f1,none⟩,⟨some t2,.nilCheck (.tmp t1),y2,p2,f2,none⟩,⟨some t3,.load T (.tmp t2),y3,p3,f3,none⟩,⟨some t4,.nilCheck (.tmp t0),y4,p4,f4,none⟩,⟨none,.store T (.tmp t4) (.tmp t3),y5,p5,f5,none⟩]:=⟨_,rfl⟩
 rw [← hops]
 have step:∀ (o:Oper) (i:Nat) (rest:List Nat) (a:Act) (w:World),ops[i]?=some o→o.guard=none→o.wpIn (FR E.ro) 0 PG a w (wpOpsIn (FR E.ro) 0 PG ops Z rest) Z→wpOpsIn (FR E.ro) 0 PG ops Z (i::rest) a w:=fun o i rest a w h1 h2 h3=>by
  simp only [wpOpsIn,h1]
  rw [if_pos (by unfold Region.wanted;rw [h2])]
  exact h3
 rw [show List.range ops.size=[0,1,2,3,4,5] by rw [hops];rfl]
 refine step ⟨some t0,.move (.tmp x),y0,p0,e0,none⟩ 0 _ _ _ (by rw [hops];rfl) rfl ?_
 refine opFR (wp_value (v:=.pointer (some ⟨(g r).b,0,none⟩)) (w':=w) (by simp [execOp,ex]) ?_) rfl
 show wpOpsIn _ _ _ _ _ _ (Act.put _ (some t0) _) _
 rw [← ha1]
 refine step ⟨some t1,.move (.tmp y),y1,p1,f1,none⟩ 1 _ _ _ (by rw [hops];rfl) rfl ?_
 refine opFR (wp_value (v:=.pointer (some ⟨(g m).b,0,none⟩)) (w':=w) (by simp [execOp,e1]) ?_) rfl
 show wpOpsIn _ _ _ _ _ _ (Act.put _ (some t1) _) _
 rw [← ha2]
 refine step ⟨some t2,.nilCheck (.tmp t1),y2,p2,f2,none⟩ 2 _ _ _ (by rw [hops];rfl) rfl ?_
 refine opFR (wp_value (v:=.pointer (some ⟨(g m).b,0,none⟩)) (w':=w) (by simp [execOp,e2]) ?_) rfl
 show wpOpsIn _ _ _ _ _ _ (Act.put _ (some t2) _) _
 rw [← ha3]
 refine step ⟨some t3,.load T (.tmp t2),y3,p3,f3,none⟩ 3 _ _ _ (by rw [hops];rfl) rfl ?_
 refine opFR (wp_value (v:=.agg vs.toArray) (w':=w) (by simp [execOp,e3,hload]) ?_) rfl
 show wpOpsIn _ _ _ _ _ _ (Act.put _ (some t3) _) _
 rw [← ha4]
 refine step ⟨some t4,.nilCheck (.tmp t0),y4,p4,f4,none⟩ 4 _ _ _ (by rw [hops];rfl) rfl ?_
 refine opFR (wp_value (v:=.pointer (some ⟨(g r).b,0,none⟩)) (w':=w) (by simp [execOp,e4]) ?_) rfl
 show wpOpsIn _ _ _ _ _ _ (Act.put _ (some t4) _) _
 rw [← ha5]
 refine step ⟨none,.store T (.tmp t4) (.tmp t3),y5,p5,f5,none⟩ 5 _ _ _ (by rw [hops];rfl) rfl ?_
 refine opFR (wp_skip' (w':=w.setRow (g r).b vs.toArray) (by simp [execOp,e5,e6,hst]) ?_) rfl
 exact hfin
end
section
variable {P:Program} {C:Ctx} {tt:TT} {S:Nat→Option Spec}
theorem runs_pre {ro:Option Nat} (hT:TTok P tt) (hS:SigOk P S) {ops:List Oper} (hok:∀ o∈ops,operOk o∧notDefer o.op=true) {Q:Exit→Act→World→Prop}:∀ {l:List Oper} {st s:St} {cs:List Prop} {ts:List Tr} (k:Nat),Lex tt S ops l st cs s ts→(∀ j o,l[j]?=some o→ops[k+j]?=some o)→(∀ p∈cs,p) →
 ∀ {rest:List Nat} {g:Nat→Gh} {R:Nat→Prop} {a:Act} {w:World},Rel C g R st a w→(∀ g' R' a' w',Rel C g' R' s a' w'→wpOpsIn (FR ro) 0 P ops.toArray Q rest a' w')→wpOpsIn (FR ro) 0 P ops.toArray Q (List.range' k l.length++rest) a w
 | _,_,_,_,_,k,.nil,_,_,rest,g,R,a,w,hrel,hq=>by simpa using hq g R a w hrel
 | _,_,_,_,_,k,.cons (o:=o) (l:=l) (c:=c) (cs:=cs) h1 h2,hl,hcs,rest,g,R,a,w,hrel,hq=>by
   have hk:ops[k]?=some o:=hl 0 o (by simp)
   have hl':∀ j o',l[j]?=some o'→ops[k+1+j]?=some o':=fun j o' h=>by
    have:=hl (j+1) o' (by simpa using h)
    rwa [show k+(j+1)=k+1+j by omega] at this
   simp only [List.length_cons,List.range'_succ,List.cons_append,wpOpsIn,List.getElem?_toArray,hk]
   have:=stepS_sound (C:=C) (Q:=Q) (ro:=ro) (next:=wpOpsIn (FR ro) 0 P ops.toArray Q (List.range' (k+1) l.length++rest)) hT hS h1 (hok o (List.mem_of_getElem? hk)).1 (hok o (List.mem_of_getElem? hk)).2 hrel (fun p hp=>hcs p (List.mem_append_left _ hp))
    (fun g' R' a' w' hr=>runs_pre hT hS hok (k+1) h2 hl' (fun p hp=>hcs p (List.mem_append_right _ hp)) hr hq)
   split at this
   ·rename_i hw;rw [if_pos hw];exact this
   ·rename_i hw;rw [if_neg hw];exact ⟨fun _ _=>trivial,this⟩
end
def regSplit (tt:TT) (S:Nat→Option Spec) (K:List Nat) (k r:Nat) (c:Code) (st:St):Option (List Prop × St):=match c with
 | .region _ ops false=>runO tt S ops.toList (ops.toList.take k) st [] [] fun cs1 s1 _=>match frzSt r s1 with
   | some s2=>runO tt S ops.toList (ops.toList.drop k) s2 [] [] fun cs2 s3 _=>tidy K s3 fun s4=>some (appP cs1 cs2,s4)
   | none=>none
 | _=>none
section
variable {tt:TT} {S:Nat→Option Spec} {E:Env PG tt S} {K:List Nat} {c:Code} {st:St} {Q:AExit→St→Prop}
theorem regF (k r:Nat) {cs:List Prop} {st':St} (h:regSplit tt S K k r c st=some (cs,st')) (x:allP cs (Q .normal st')):WP E K c st Q:=by
 unfold regSplit at h
 split at h
 ·rename_i id ops
  intro hc C g R a w Z hrel hq
  obtain ⟨c1,s1,t1,hl1,h⟩:=runO_spec h
  try dsimp only at h
  split at h <;> try (cases h;done)
  rename_i s2 hf
  obtain ⟨c2,s3,t2,hl2,h⟩:=runO_spec h
  try dsimp only at h
  rw [tidy_eq] at h
  simp only [List.nil_append,Option.some.injEq,Prod.mk.injEq] at h
  obtain ⟨hcs,hst⟩:=h
  rw [appP_eq] at hcs
  subst hcs
  obtain ⟨x1,x2⟩:=allP_spec x
  have hok:∀ o∈ops.toList,operOk o∧notDefer o.op=true:=fun o ho=>by
   simp only [codeOk,List.all_eq_true] at hc
   have:=hc o ho
   rw [Bool.and_eq_true,List.all_eq_true] at this
   exact ⟨fun y hy=>operandB_spec (this.2 y (by simpa using hy)),this.1⟩
  refine wpIn_region ?_
  have e:List.range ops.size=List.range' 0 (ops.toList.take k).length++List.range' (min k ops.size) (ops.toList.drop k).length:=by
   rw [List.range_eq_range',List.length_take,List.length_drop,Array.length_toList]
   rw [show List.range' (min k ops.size) (ops.size - k)=List.range' (0+1 * min k ops.size) (ops.size - k) by simp,List.range'_append]
   congr 1
   omega
  rw [e]
  have hops:ops.toList.toArray=ops:=by simp
  have h1:=runs_pre (C:=C) (ro:=E.ro) (P:=PG) (Q:=Z) E.hT E.hS hok 0 hl1 (fun j o hj=>by
   rw [Nat.zero_add]
   rw [List.getElem?_take] at hj
   split at hj
   ·exact hj
   ·cases hj) (fun p hp=>x1 p (List.mem_append_left _ hp)) (rest:=List.range' (min k ops.size) (ops.toList.drop k).length) hrel
   (fun g' R' a' w' hr=>by
    obtain ⟨R2,hr2⟩:=frz_sound hf hr
    have h2:=runs_pre (C:=C) (ro:=E.ro) (P:=PG) (Q:=Z) E.hT E.hS hok (min k ops.size) hl2 (fun j o hj=>by
     rw [List.getElem?_drop] at hj
     by_cases hk:k≤ops.size
     ·rw [Nat.min_eq_left hk];exact hj
     ·rw [List.getElem?_eq_none (by simp;omega)] at hj;cases hj) (fun p hp=>x1 p (List.mem_append_right _ hp)) (rest:=[]) hr2
     (fun g3 R3 a3 w3 hr3=>by
      simp only [wpOpsIn]
      exact hq C .normal st' g3 R3 a3 w3 (Later.refl C) x2 (hst ▸ tidy_sound hr3))
    rwa [List.append_nil] at h2)
  rwa [hops] at h1
 ·cases h
end
end Go.AM
end

section
set_option linter.all false
namespace Go.AM.YtkgmmmhokgdcaaaGreat.Pl
open Go.Proofs
set_option maxRecDepth 100000
set_option maxHeartbeats 8000000
def bk1 (s:tStage.El) (ow:Int):tBook.El:=(s.2.2.1.1,s.2.2.1.2,s.2.2.1.2+s.2.1,ow)
def bk2 (s:tStage.El) (ow:Int):tBook.El:=(s.2.2.2.1,s.2.2.2.2,s.2.2.2.2+s.2.1,ow)
def bkN (xs:List tStage.El) (ow:Int):Nat→List tBook.El
 | 0=>[]
 | i+1=>bkN xs ow i++[bk1 (getI xs tStage.dflt i) ow]++[bk2 (getI xs tStage.dflt i) ow]
theorem bkN_length {xs:List tStage.El} {ow:Int}:∀ {i:Nat},(bkN xs ow i).length=2 * i
 | 0=>rfl
 | i+1=>by simp [bkN,bkN_length];omega
def bookF (e a b:Int) (xs:List tStage.El) (ws:List tWin.El) (ow:Int):List tBook.El :=
 if validF e a b xs ws&&withinF ow 1 1000000 then bkN xs ow xs.length else []
def bookS:Spec:=plain fun
 | [.agg [.int .i64 e,.int .i64 a,.int .i64 b,.sl (.pair (.int .i64) (.pair (.int .i64) (.pair (.pair (.int .i64) (.int .i64)) (.pair (.int .i64) (.int .i64))))) xs,.sl (.pair (.int .i64) (.pair (.int .i64) (.int .i64))) ws],.int .i64 ow] =>
   some ⟨True,.own 0,[.seq tBook (bookF e a b xs ws ow)],false⟩
 | _=>none
theorem bkWrap {mn mx mt ms st ss:Int} (S:StOk mn mx mt ms st ss):IntKind.wrap .i64 (ms+mx)=ms+mx∧IntKind.wrap .i64 (ss+mx)=ss+mx:=by
 unfold StOk at S
 exact ⟨wrapId (by omega) (by omega),wrapId (by omega) (by omega)⟩
def bkJ (xs:List tStage.El) (ow:Int) (i:Nat):Nat→List tBook.El
 | 0=>bkN xs ow i
 | 1=>bkN xs ow i++[bk1 (getI xs tStage.dflt i) ow]
 | _=>bkN xs ow (i+1)
theorem bookOk:SpecSound Tryz.prog 70 bookS:=by
 refine sound0 sigVOk Tryz.func70 (c:=body Tryz.f70) rfl (by kernel_rfl) ?_
 intro args out0 hf hpre
 split at hf <;> try (cases hf;done)
 rename_i e a b xs ws ow
 cases hf
 refine ⟨Nat.le_of_ble_eq_true rfl,?_⟩
 conv=>whnf
 refine aI trivial ?_
 conv=>whnf
 refine aI ?_ ?_
 ·conv=>whnf
  intro _;trivial
 conv=>whnf
 refine bI (fun c1=>?_) (fun c1=>?_)
 ·conv=>whnf
  rw [← Bool.not_and,Bool.not_eq_true'] at c1
  have hr:bookF e a b xs ws ow=[]:=by unfold bookF;rw [c1];rfl
  exact ⟨[none],_,rfl,rfl,trivial,aI hr trivial,rfl,rfl,rfl,fun _=>⟨rfl,rfl,rfl⟩⟩
 ·rw [← Bool.not_and,Bool.not_eq_false'] at c1
  have hr:bookF e a b xs ws ow=bkN xs ow xs.length:=by unfold bookF;rw [c1];rfl
  rw [Bool.and_eq_true] at c1
  have F:=valid_facts c1.1
  have hn:=F.n
  conv=>whnf
  refine ⟨Nat,fun i=>⟨49,[(1,⟨[],.int .i64 ow⟩),(4,⟨[],.own 4⟩),(18,⟨[],.sl tStage xs⟩),(19,⟨[],.int .i64 xs.length⟩),(20,⟨[],.int .i64 i⟩)],[],[4],[(4,.seq tBook (bkN xs ow i))]⟩,
   fun i=>i≤xs.length,fun i=>xs.length - i,0,Nat.zero_le _,
   .ren [(4,none)] ⟨rfl,rfl,rfl,aI rfl (aI trivial (aI rfl (aI rfl (aI rfl trivial)))),aI rfl trivial,rfl,rfl,rfl⟩,?_⟩
  intro i hi
  conv=>whnf
  refine bI (fun c2=>?_) (fun c2=>?_)
  ·simp only [decide_eq_true_eq] at c2
   have hlt:i < xs.length:=by omega
   have hw:=bkWrap (F.st i hlt)
   conv=>whnf
   refine aI (by omega) ?_
   conv=>whnf
   refine aI (by omega) ?_
   conv=>whnf
   refine ⟨Nat,fun j=>⟨49,[(1,⟨[],.int .i64 ow⟩),(4,⟨[],.own 4⟩),(18,⟨[],.sl tStage xs⟩),(19,⟨[],.int .i64 xs.length⟩),(20,⟨[],.int .i64 i⟩),(6,⟨[],.ptr 6 0⟩),
    (28,⟨[],.agg [.int .i64 (getI xs tStage.dflt i).2.2.1.1,.int .i64 (getI xs tStage.dflt i).2.2.1.2,.int .i64 (getI xs tStage.dflt i).2.2.2.1,.int .i64 (getI xs tStage.dflt i).2.2.2.2]⟩),(29,⟨[],.int .i64 j⟩)],[],[6,4],
    [(6,.box [.int .i64 (getI xs tStage.dflt i).1,.int .i64 (getI xs tStage.dflt i).2.1,.int .i64 (getI xs tStage.dflt i).2.2.1.1,.int .i64 (getI xs tStage.dflt i).2.2.1.2,.int .i64 (getI xs tStage.dflt i).2.2.2.1,.int .i64 (getI xs tStage.dflt i).2.2.2.2]),(4,.seq tBook (bkJ xs ow i j))]⟩,
    fun j=>j≤2,fun j=>2 - j,0,Nat.zero_le _,
    .same ⟨rfl,rfl,rfl,⟨rfl,rfl,rfl,rfl,rfl,rfl,rfl,rfl,trivial⟩,⟨rfl,rfl,trivial⟩,rfl,rfl,rfl⟩,?_⟩
   intro j hj
   obtain rfl|rfl|rfl:j=0∨j=1∨j=2:=by omega
   ·conv=>whnf
    refine bI (fun c3=>?_) (fun c3=>?_)
    ·conv=>whnf
     refine aI (by decide) ?_
     conv=>whnf
     refine aI (by decide) ?_
     conv=>whnf
     refine aI (by show ((bkN xs ow i).length+1) * 32≤140737488355328;rw [bkN_length];omega) ?_
     conv=>whnf
     refine ⟨1,by decide,by decide,.ren [(6,some 6),(4,some 45)] ⟨rfl,rfl,rfl,aI rfl (aI rfl (aI rfl (aI rfl (aI rfl (aI (aI rfl rfl) (aI (aI rfl (aI rfl (aI rfl (aI rfl trivial)))) (aI rfl trivial))))))),
      aI (aI rfl (aI rfl (aI rfl (aI rfl (aI rfl (aI rfl trivial)))))) (aI (eSeq (congrArg (fun z=>bkN xs ow i++[((getI xs tStage.dflt i).2.2.1.1,(getI xs tStage.dflt i).2.2.1.2,z,ow)]) hw.1.symm)) trivial),rfl,rfl,rfl⟩⟩
    ·exact absurd c3 (by decide)
   ·conv=>whnf
    refine bI (fun c3=>?_) (fun c3=>?_)
    ·conv=>whnf
     refine aI (by decide) ?_
     conv=>whnf
     refine aI (by decide) ?_
     conv=>whnf
     refine aI (by show ((bkN xs ow i++[bk1 (getI xs tStage.dflt i) ow]).length+1) * 32≤140737488355328;rw [List.length_append,bkN_length];simp;omega) ?_
     conv=>whnf
     refine ⟨2,by decide,by decide,.ren [(6,some 6),(4,some 45)] ⟨rfl,rfl,rfl,aI rfl (aI rfl (aI rfl (aI rfl (aI rfl (aI (aI rfl rfl) (aI (aI rfl (aI rfl (aI rfl (aI rfl trivial)))) (aI rfl trivial))))))),
      aI (aI rfl (aI rfl (aI rfl (aI rfl (aI rfl (aI rfl trivial)))))) (aI (eSeq (congrArg (fun z=>bkN xs ow i++[bk1 (getI xs tStage.dflt i) ow]++[((getI xs tStage.dflt i).2.2.2.1,(getI xs tStage.dflt i).2.2.2.2,z,ow)]) hw.2.symm)) trivial),rfl,rfl,rfl⟩⟩
    ·exact absurd c3 (by decide)
   ·conv=>whnf
    refine bI (fun c3=>?_) (fun c3=>?_)
    ·exact absurd c3 (by decide)
    ·conv=>whnf
     refine ⟨i+1,hlt,(by show xs.length - (i+1) < xs.length - i;omega),.same ⟨rfl,rfl,rfl,⟨rfl,rfl,rfl,rfl,slotInt rfl (wrapEq (by show (i:Int)+1=((i+1:Nat):Int);omega) (by omega) (by omega)),trivial⟩,⟨rfl,trivial⟩,rfl,rfl,rfl⟩⟩
  ·simp only [decide_eq_false_iff_not] at c2
   have hie:i=xs.length:=by omega
   subst hie
   conv=>whnf
   exact ⟨[some 4],_,rfl,rfl,rfl,aI (eSeq hr) trivial,rfl,rfl,rfl,fun _=>⟨rfl,rfl,rfl⟩⟩
def quickS:Spec:=plain fun
 | [.int .i64 tl,.int .i64 fa]=>some ⟨True,.agg [.own 0,.own 1,.int .i64 5,.int .i64 tl,.int .i64 fa],[.seq tInt [20,20],.seq tInt [5,5]],false⟩
 | _=>none
end Go.AM.YtkgmmmhokgdcaaaGreat.Pl
end

section
set_option linter.all false
namespace Go.AM.YtkgmmmhokgdcaaaGreat.Re
open Go.Proofs
set_option maxRecDepth 100000
set_option maxHeartbeats 4000000
abbrev tNd:Ty:=.pair (.slice (.int .i64)) (.pair (.int .i64) (.int .i64))
def inF (n lo hi:Int):Bool:=decide (lo≤n)&&decide (n≤hi)
def inS:Spec:=plain fun
 | [.int .i64 n,.int .i64 lo,.int .i64 hi]=>outV True (.bool (inF n lo hi))
 | _=>none
theorem inOk:SpecSound Tryz.prog 65 inS:=by
 refine soundP (envOf sigNil) Tryz.func65 (c:=body Tryz.f65) rfl (by kernel_rfl) rfl ?_
 intro args out hf hpre
 split at hf <;> try (cases hf;done)
 rename_i n lo hi
 cases hf
 refine ⟨Nat.le_of_ble_eq_true rfl,initI (args:=[.int .i64 n,.int .i64 lo,.int .i64 hi]) rfl ?_⟩
 repeat' (first|refine zN ?_|refine zE ?_|refine zP ?_|refine pD ?_|refine zS ?_|refine zR ?_|refine zO ?_|refine zB ?_|refine zX ?_|refine zT ?_|refine skipI rfl ?_)
 refine endR rfl ?_
 repeat' (first|exact trivial|exact rfl|refine ⟨rfl,?_⟩|refine And.intro ?_ ?_)
def befF (f t f' t':Int):Bool:=decide (f < f')||(decide (f=f')&&decide (t < t'))
def befS:Spec:=plain fun
 | [.agg [.int .i64 f,.int .i64 t,.int .i64 l],.agg [.int .i64 f',.int .i64 t',.int .i64 l']]=>outV True (.bool (befF f t f' t'))
 | _=>none
theorem befOk:SpecSound Tryz.prog 66 befS:=by
 refine soundP (envOf sigNil) Tryz.func66 (c:=body Tryz.f66) rfl (by kernel_rfl) rfl ?_
 intro args out hf hpre
 split at hf <;> try (cases hf;done)
 rename_i f t l f' t' l'
 cases hf
 refine ⟨Nat.le_of_ble_eq_true rfl,initI (args:=[.agg [.int .i64 f,.int .i64 t,.int .i64 l],.agg [.int .i64 f',.int .i64 t',.int .i64 l']]) rfl ?_⟩
 repeat' (first|refine zN ?_|refine zE ?_|refine zP ?_|refine pD ?_|refine zS ?_|refine zR ?_|refine zO ?_|refine zB ?_|refine zX ?_|refine zT ?_|refine skipI rfl ?_)
 refine endR rfl ?_
 repeat' (first|exact trivial|exact rfl|refine ⟨rfl,?_⟩|refine And.intro ?_ ?_)
def headBad (e a b n m:Int):Bool:=(((!inF e 0 1000000||!inF a 0 b)||decide (b > 10000))||!inF n 1 4)||decide (m > 20)
def toolBad (ts:List Int) (i:Nat):Bool:=!inF (getI ts 0 i) 0 59||(decide ((i:Int) > 0)&&decide (getI ts 0 i≤getI ts 0 (i - 1)))
def needHd (x:List Int × Int × Int):Bool:=(!inF (x.1.length:Int) 2 3||!inF x.2.1 1 x.2.2)||decide (x.2.2 > 10000)
def needBad (x:List Int × Int × Int):Bool:=needHd x||(List.range x.1.length).any (toolBad x.1)
def winBad (n:Int) (ws:List tWin.El) (i:Nat):Bool :=
 (((!inF (getI ws tWin.dflt i).1 0 (n - 1)||!inF (getI ws tWin.dflt i).2.1 ((getI ws tWin.dflt i).1+1) (n - 1))||!inF (getI ws tWin.dflt i).2.2 0 1000000)) ||
   (decide ((i:Int) > 0)&&!befF (getI ws tWin.dflt (i - 1)).1 (getI ws tWin.dflt (i - 1)).2.1 (getI ws tWin.dflt i).1 (getI ws tWin.dflt i).2.1)
def rvalidF (e a b:Int) (ns:List tNd.El) (ws:List tWin.El):Bool:=!headBad e a b ns.length ws.length&&!ns.any needBad&&!(List.range ws.length).any (winBad ns.length ws)
def rvalidS:Spec:=plain fun
 | [.agg [.int .i64 e,.int .i64 a,.int .i64 b,.sl (.pair (.slice (.int .i64)) (.pair (.int .i64) (.int .i64))) ns,.sl (.pair (.int .i64) (.pair (.int .i64) (.int .i64))) ws]] =>
   outV (ns.length≤1000000∧ws.length≤1000000) (.bool (rvalidF e a b ns ws))
 | _=>none
def sigRv:List (Nat × Spec):=[(65,inS),(66,befS)]
theorem sigRvOk:SigOk Tryz.prog (look sigRv):=sigCons (sigCons sigNil
 Tryz.func66 (by kernel_rfl) (c:=body Tryz.f66) rfl befOk)
 Tryz.func65 (by kernel_rfl) (c:=body Tryz.f65) rfl inOk
theorem inF_true {n lo hi:Int} (h:inF n lo hi=true):lo≤n∧n≤hi:=by unfold inF at h;simpa using h
theorem any_range_no {n:Nat} {p:Nat→Bool} (h:∀ j,j < n→p j=false):(List.range n).any p=false:=by
 rw [List.any_eq_false]
 intro j hj
 rw [h j (List.mem_range.1 hj)]
 simp
theorem any_range_yes {n:Nat} {p:Nat→Bool} {i:Nat} (hi:i < n) (h:p i=true):(List.range n).any p=true:=List.any_eq_true.2 ⟨i,List.mem_range.2 hi,h⟩
theorem any_take_no {α:Type} {d:α} {l:List α} {p:α→Bool} (h:∀ j,j < l.length→p (getI l d j)=false):l.any p=false:=by
 rw [List.any_eq_false]
 intro x hx
 obtain ⟨i,hi,rfl⟩:=List.getElem_of_mem hx
 have:=h i hi
 rw [show getI l d i=l[i] by simp [getI,List.getD,List.getElem?_eq_getElem hi]] at this
 rw [this]
 simp
theorem any_take_yes {α:Type} {d:α} {l:List α} {p:α→Bool} {i:Nat} (hi:i < l.length) (h:p (getI l d i)=true):l.any p=true:=List.any_eq_true.2 ⟨_,Pl.getI_mem hi,h⟩
theorem rvalidOk:SpecSound Tryz.prog 35 rvalidS:=by
 refine soundP (envOf sigRvOk) Tryz.func35 (c:=body Tryz.f35) rfl (by kernel_rfl) rfl ?_
 intro args out hf hpre
 split at hf <;> try (cases hf;done)
 rename_i e a b ns ws
 cases hf
 refine ⟨Nat.le_of_ble_eq_true rfl,initI (args:=[.agg [.int .i64 e,.int .i64 a,.int .i64 b,.sl tNd ns,.sl tWin ws]]) rfl ?_⟩
 obtain ⟨hn,hw⟩:=hpre
 obtain ⟨r,hr⟩:∃ r,r=rvalidF e a b ns ws:=⟨_,rfl⟩
 rw [← hr]
 unfold rvalidF at hr
 repeat' (first|refine zN ?_|refine zE ?_|refine zP ?_|refine pD ?_|refine zS ?_|refine zR ?_|refine zO ?_|refine zB ?_|refine zX ?_|refine zT ?_|refine skipI rfl ?_)
 refine condI rfl (fun c1=>?_) (fun c1=>?_)
 ·have h1:headBad e a b ns.length ws.length=true:=c1
  rw [h1] at hr
  have hr:r=false:=hr
  repeat' (first|refine zN ?_|refine zE ?_|refine zP ?_|refine pD ?_|refine zS ?_|refine zR ?_|refine zO ?_|refine zB ?_|refine zX ?_|refine zT ?_|refine skipI rfl ?_)
  refine endR rfl ?_
  repeat' (first|exact trivial|exact rfl|refine ⟨rfl,?_⟩|refine And.intro ?_ ?_)
  exact hr
 have h1:headBad e a b ns.length ws.length=false:=c1
 rw [h1] at hr
 repeat' (first|refine zN ?_|refine zE ?_|refine zP ?_|refine pD ?_|refine zS ?_|refine zR ?_|refine zO ?_|refine zB ?_|refine zX ?_|refine zT ?_|refine skipI rfl ?_)
 refine loopI (σ:=Nat) (fun i=>[(48,.int .i64 i)]) (fun i=>[]) (fun i=>i≤ns.length∧∀ j,j < i→needBad (getI ns tNd.dflt j)=false) (fun i=>ns.length - i) 0 rfl (fun _=>rfl) rfl ?_ ?_ ?_
 ·exact ⟨Nat.zero_le _,fun j hj=>by omega⟩
 ·repeat' (first|exact trivial|exact rfl|refine ⟨rfl,?_⟩|refine And.intro ?_ ?_)
 ·rintro i ⟨hi,hb⟩
  repeat' (first|refine zN ?_|refine zE ?_|refine zP ?_|refine pD ?_|refine zS ?_|refine zR ?_|refine zO ?_|refine zB ?_|refine zX ?_|refine zT ?_|refine skipI rfl ?_)
  refine condI rfl (fun c2=>?_) (fun c2=>?_)
  ·simp only [decide_eq_true_eq] at c2
   have hil:i < ns.length:=by omega
   have hin:((i:Int)).toNat=i:=by omega
   repeat' (first|refine zN ?_|refine zE ?_|refine zP ?_|refine pD ?_|refine zS ?_|refine zR ?_|refine zO ?_|refine zB ?_|refine zX ?_|refine zT ?_|refine skipI rfl ?_)
   refine condI rfl (fun c3=>?_) (fun c3=>?_)
   ·simp only [hin] at c3
    have h3:needHd (getI ns tNd.dflt i)=true:=c3
    rw [any_take_yes (d:=tNd.dflt) hil (show needBad (getI ns tNd.dflt i)=true by unfold needBad;rw [h3];rfl)] at hr
    have hr:r=false:=by rw [hr];rfl
    repeat' (first|refine zN ?_|refine zE ?_|refine zP ?_|refine pD ?_|refine zS ?_|refine zR ?_|refine zO ?_|refine zB ?_|refine zX ?_|refine zT ?_|refine skipI rfl ?_)
    refine endR rfl ?_
    repeat' (first|exact trivial|exact rfl|refine ⟨rfl,?_⟩|refine And.intro ?_ ?_)
    exact hr
   simp only [hin] at c3
   have h3:needHd (getI ns tNd.dflt i)=false:=c3
   repeat' (first|refine zN ?_|refine zE ?_|refine zP ?_|refine pD ?_|refine zS ?_|refine zR ?_|refine zO ?_|refine zB ?_|refine zX ?_|refine zT ?_|refine skipI rfl ?_)
   simp only [hin]
   obtain ⟨tools,htools⟩:∃ tools:List Int,tools=(getI ns tNd.dflt i).1:=⟨_,rfl⟩
   simp only [← htools]
   have htl:tools.length≤3:=by
    have h4:inF (tools.length:Int) 2 3=true:=by
     rw [htools]
     unfold needHd at h3
     simp only [Bool.or_eq_false_iff,Bool.not_eq_false'] at h3
     exact h3.1.1
    have:=inF_true h4
    omega
   refine loopI (σ:=Nat) (fun j=>[(75,.int .i64 j)]) (fun j=>[]) (fun j=>j≤tools.length∧∀ k,k < j→toolBad tools k=false) (fun j=>tools.length - j) 0 rfl (fun _=>rfl) rfl ?_ ?_ ?_
   ·exact ⟨Nat.zero_le _,fun j hj=>by omega⟩
   ·repeat' (first|exact trivial|with_reducible exact rfl|refine And.intro ?_ ?_)
    all_goals rfl
   ·rintro j ⟨hj,hbj⟩
    repeat' (first|refine zN ?_|refine zE ?_|refine zP ?_|refine pD ?_|refine zS ?_|refine zR ?_|refine zO ?_|refine zB ?_|refine zX ?_|refine zT ?_|refine skipI rfl ?_)
    refine condI rfl (fun c4=>?_) (fun c4=>?_)
    ·simp only [decide_eq_true_eq] at c4
     have hjl:j < tools.length:=by omega
     have hjn:((j:Int)).toNat=j:=by omega
     have hjn1:((j:Int) - 1).toNat=j - 1:=by omega
     repeat' (first|refine zN ?_|refine zE ?_|refine zP ?_|refine pD ?_|refine pC (by (intro _ h;simp only [decide_eq_true_eq] at h;omega)) ?_|refine zS ?_|refine zR ?_|refine zO ?_|refine zB ?_|refine zX ?_|refine zT ?_|refine skipI rfl ?_)
     refine condI rfl (fun c5=>?_) (fun c5=>?_)
     ·simp only [hjn,hjn1] at c5
      have h5:toolBad tools j=true:=c5
      have h6:needBad (getI ns tNd.dflt i)=true:=by unfold needBad;rw [← htools,any_range_yes hjl h5,Bool.or_true]
      rw [any_take_yes (d:=tNd.dflt) hil h6] at hr
      have hr:r=false:=by rw [hr];rfl
      repeat' (first|refine zN ?_|refine zE ?_|refine zP ?_|refine pD ?_|refine zS ?_|refine zR ?_|refine zO ?_|refine zB ?_|refine zX ?_|refine zT ?_|refine skipI rfl ?_)
      refine endR rfl ?_
      repeat' (first|exact trivial|exact rfl|refine ⟨rfl,?_⟩|refine And.intro ?_ ?_)
      exact hr
     ·simp only [hjn,hjn1] at c5
      have h5:toolBad tools j=false:=c5
      repeat' (first|refine zN ?_|refine zE ?_|refine zP ?_|refine pD ?_|refine zS ?_|refine zR ?_|refine zO ?_|refine zB ?_|refine zX ?_|refine zT ?_|refine skipI rfl ?_)
      refine roundI (j+1) rfl ?_ ?_ ?_
      ·refine ⟨by show j+1≤tools.length;omega,fun k hk=>?_⟩
       by_cases hkj:k=j
       ·subst hkj;exact h5
       ·exact hbj k (by omega)
      ·show tools.length - (j+1) < tools.length - j
       omega
      ·repeat' (first|exact trivial|with_reducible exact rfl|refine And.intro ?_ ?_)
       all_goals rfl
    ·simp only [decide_eq_false_iff_not] at c4
     have h6:needBad (getI ns tNd.dflt i)=false:=by unfold needBad;rw [h3,← htools,any_range_no (fun k hk=>hbj k (by omega))];rfl
     repeat' (first|refine zN ?_|refine zE ?_|refine zP ?_|refine pD ?_|refine zS ?_|refine zR ?_|refine zO ?_|refine zB ?_|refine zX ?_|refine zT ?_|refine skipI rfl ?_)
     refine roundI (i+1) rfl ?_ ?_ ?_
     ·refine ⟨by show i+1≤ns.length;omega,fun k hk=>?_⟩
      by_cases hki:k=i
      ·subst hki;exact h6
      ·exact hb k (by omega)
     ·show ns.length - (i+1) < ns.length - i
      omega
     ·repeat' (first|exact trivial|with_reducible exact rfl|refine And.intro ?_ ?_)
      all_goals rfl
  ·simp only [decide_eq_false_iff_not] at c2
   have h7:ns.any needBad=false:=any_take_no (d:=tNd.dflt) fun j hj=>hb j (by omega)
   rw [h7] at hr
   repeat' (first|refine zN ?_|refine zE ?_|refine zP ?_|refine pD ?_|refine zS ?_|refine zR ?_|refine zO ?_|refine zB ?_|refine zX ?_|refine zT ?_|refine skipI rfl ?_)
   refine loopI (σ:=Nat) (fun i=>[(103,.int .i64 i)]) (fun i=>[]) (fun i=>i≤ws.length∧∀ j,j < i→winBad ns.length ws j=false) (fun i=>ws.length - i) 0 rfl (fun _=>rfl) rfl ?_ ?_ ?_
   ·exact ⟨Nat.zero_le _,fun j hj=>by omega⟩
   ·repeat' (first|exact trivial|exact rfl|refine ⟨rfl,?_⟩|refine And.intro ?_ ?_)
   ·rintro k ⟨hk,hbk⟩
    repeat' (first|refine zN ?_|refine zE ?_|refine zP ?_|refine pD ?_|refine zS ?_|refine zR ?_|refine zO ?_|refine zB ?_|refine zX ?_|refine zT ?_|refine skipI rfl ?_)
    refine condI rfl (fun c8=>?_) (fun c8=>?_)
    ·simp only [decide_eq_true_eq] at c8
     have hkl:k < ws.length:=by omega
     have hkn:((k:Int)).toNat=k:=by omega
     have hkn1:((k:Int) - 1).toNat=k - 1:=by omega
     repeat' (first|refine zN ?_|refine zE ?_|refine zP ?_|refine zS ?_|refine zO ?_|refine zB ?_|refine zX ?_|refine zT ?_|refine skipI rfl ?_)
     refine zR ?_
     repeat' (first|with_reducible refine pN ?_|refine pD ?_|refine pC (by first|(unfold In64;omega)|(intro h;rw [Bool.not_eq_false'] at h;have:=inF_true h;unfold In64;omega)) ?_)
     repeat with_reducible refine cN ?_
     repeat' (first|refine zN ?_|refine zE ?_|refine zP ?_|refine zS ?_|refine zO ?_|refine zB ?_|refine zX ?_|refine zT ?_|refine skipI rfl ?_)
     refine zR ?_
     repeat' (first|with_reducible refine pN ?_|refine pD ?_|refine pC (by first|(unfold In64;omega)|(intro h;rw [Bool.not_eq_false'] at h;have:=inF_true h;unfold In64;omega)) ?_)
     repeat with_reducible refine cN ?_
     refine condI rfl (fun c9=>?_) (fun c9=>?_)
     ·simp only [hkn] at c9
      have h9:winBad ns.length ws k=true:=by
       unfold winBad
       rw [Bool.or_eq_true]
       exact .inl c9
      rw [any_range_yes hkl h9] at hr
      have hr:r=false:=by rw [hr];rfl
      repeat' (first|refine zN ?_|refine zE ?_|refine zP ?_|refine pD ?_|refine zS ?_|refine zR ?_|refine zO ?_|refine zB ?_|refine zX ?_|refine zT ?_|refine skipI rfl ?_)
      refine endR rfl ?_
      repeat' (first|exact trivial|exact rfl|refine ⟨rfl,?_⟩|refine And.intro ?_ ?_)
      exact hr
     repeat' (first|refine zN ?_|refine zE ?_|refine zP ?_|refine pD ?_|refine pC (by (intro h;simp only [decide_eq_true_eq] at h;omega)) ?_|refine zS ?_|refine zR ?_|refine zO ?_|refine zB ?_|refine zX ?_|refine zT ?_|refine skipI rfl ?_)
     refine condI rfl (fun c10=>?_) (fun c10=>?_)
     ·simp only [hkn,hkn1] at c10
      have h9:winBad ns.length ws k=true:=by
       unfold winBad
       rw [Bool.or_eq_true]
       exact .inr c10
      rw [any_range_yes hkl h9] at hr
      have hr:r=false:=by rw [hr];rfl
      repeat' (first|refine zN ?_|refine zE ?_|refine zP ?_|refine pD ?_|refine zS ?_|refine zR ?_|refine zO ?_|refine zB ?_|refine zX ?_|refine zT ?_|refine skipI rfl ?_)
      refine endR rfl ?_
      repeat' (first|exact trivial|exact rfl|refine ⟨rfl,?_⟩|refine And.intro ?_ ?_)
      exact hr
     ·simp only [hkn,hkn1] at c9 c10
      have h9:winBad ns.length ws k=false:=by
       unfold winBad
       rw [Bool.or_eq_false_iff]
       exact ⟨c9,c10⟩
      repeat' (first|refine zN ?_|refine zE ?_|refine zP ?_|refine pD ?_|refine zS ?_|refine zR ?_|refine zO ?_|refine zB ?_|refine zX ?_|refine zT ?_|refine skipI rfl ?_)
      refine roundI (k+1) rfl ?_ ?_ ?_
      ·refine ⟨by show k+1≤ws.length;omega,fun j hj=>?_⟩
       by_cases hjk:j=k
       ·subst hjk;exact h9
       ·exact hbk j (by omega)
      ·show ws.length - (k+1) < ws.length - k
       omega
      ·repeat' (first|exact trivial|with_reducible exact rfl|refine And.intro ?_ ?_)
       all_goals rfl
    ·simp only [decide_eq_false_iff_not] at c8
     rw [any_range_no (fun j hj=>hbk j (by omega))] at hr
     have hr:r=true:=hr
     repeat' (first|refine zN ?_|refine zE ?_|refine zP ?_|refine pD ?_|refine zS ?_|refine zR ?_|refine zO ?_|refine zB ?_|refine zX ?_|refine zT ?_|refine skipI rfl ?_)
     refine endR rfl ?_
     repeat' (first|exact trivial|exact rfl|refine ⟨rfl,?_⟩|refine And.intro ?_ ?_)
     exact hr
end Go.AM.YtkgmmmhokgdcaaaGreat.Re
end
