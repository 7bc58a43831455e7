/- ReM, AmMove, PlG. -/
import Derived.Test.YtmohhhbgcehnpaaGreatPm24
import Derived.Test.YtmohhhbgcehnpaaGreatPm27
import Derived.Test.YtmohhhbgcehnpaaGreatPm13
import Derived.Test.YtmohhhbgcehnpaaGreatPm23

section
set_option linter.all false
namespace Go.AM.YtmohhhbgcehnpaaGreat.Re
open Go.Proofs
set_option maxRecDepth 100000
set_option maxHeartbeats 4000000
def needR (failed:Int) (x:NeedT):NeedT:=(remF x.1 failed,x.2)
def restN (ns:List NeedT) (done failed:Int):List NeedT:=(ns.drop done.toNat).map (needR failed)
abbrev RestT:=DlT × List (Int × Int × Int)
def restStep (xs:List StT) (done:Int) (s:RestT) (w:Int × Int × Int):RestT :=
 bif decide (w.1≥done) then (s.1,s.2++[(w.1 - done,w.2.1 - done,w.2.2)])
 else bif decide (w.2.1≥done) then
  (bif !(mapFind (.int .i64) (.int .i64) (w.2.1 - done) s.1).isSome||decide (mSt (getI xs tStage.dflt w.1.toNat)+sMin (getI xs tStage.dflt w.1.toNat)+w.2.2 < (mapFind (.int .i64) (.int .i64) (w.2.1 - done) s.1).getD (0:Int))
   then mapSet (.int .i64) (.int .i64) (w.2.1 - done) (mSt (getI xs tStage.dflt w.1.toNat)+sMin (getI xs tStage.dflt w.1.toNat)+w.2.2) s.1 else s.1,s.2)
 else s
def restF (xs:List StT) (ws:List tWin.El) (done:Int):RestT:=ws.foldl (restStep xs done) ([],[])
def RestP (xs:List tStage.El) (ns:List tNeed.El) (ws:List tWin.El) (done:Int):Prop :=
 (0≤done∧done≤ns.length)∧(ns.length≤1000∧xs.length=ns.length)∧(∀ x∈ns,List.length (α:=Int) x.1≤1000000)∧WinP xs ws
def restS:Spec:=⟨true,fun args rows=>match args,rows with
 | [.agg [.int .i64 e,.int .i64 a,.int .i64 b,.sl (.pair (.int .i64) (.pair (.int .i64) (.pair (.pair (.int .i64) (.int .i64)) (.pair (.int .i64) (.int .i64))))) xs,.sl (.pair (.int .i64) (.pair (.int .i64) (.int .i64))) pws],
    .agg [.int .i64 re,.int .i64 ra,.int .i64 rb,.sl (.pair (.slice (.int .i64)) (.pair (.int .i64) (.int .i64))) ns,.sl (.pair (.int .i64) (.pair (.int .i64) (.int .i64))) ws],.int .i64 done,.int .i64 entry,.int .i64 failed],[] =>
   some ⟨RestP xs ns ws done,.tup [.agg [.int .i64 entry,.int .i64 ra,.int .i64 rb,.sl tNeed (restN ns done failed),.sl tWin (restF xs ws done).2],.own 0],[.map (.int .i64) (.int .i64) (restF xs ws done).1],true⟩
 | _,_=>none⟩
def sigRest:List (Nat × Spec):=[(89,withoutS)]
theorem sigRestOk:SigOk Tryz.prog (look sigRest):=sigCons sigNil
 Tryz.func89 (by kernel_rfl) (c:=body Tryz.f89) rfl withoutOk
theorem restOk:SpecSound Tryz.prog 52 restS:=by
 refine soundR (envOf sigRestOk) Tryz.func52 (c:=body Tryz.f52) rfl (by kernel_rfl) rfl ?_
 intro args rows out hf hpre
 split at hf <;> try (cases hf;done)
 rename_i e a b xs pws re ra rb ns ws done entry failed
 cases hf
 refine ⟨Nat.le_of_ble_eq_true rfl,initI (args:=[.agg [.int .i64 e,.int .i64 a,.int .i64 b,.sl tStage xs,.sl tWin pws],.agg [.int .i64 re,.int .i64 ra,.int .i64 rb,.sl tNeed ns,.sl tWin ws],.int .i64 done,.int .i64 entry,.int .i64 failed]) (rows:=[]) rfl ?_⟩
 obtain ⟨⟨hd0,hd1⟩,⟨hn,hxn⟩,hnl,hws,hsm,hww⟩:=hpre
 have hS:∀ i,i < xs.length→StSm (getI xs tStage.dflt i).1 (getI xs tStage.dflt i).2.1 (getI xs tStage.dflt i).2.2.1.2 (getI xs tStage.dflt i).2.2.2.2:=fun i hi=>hsm _ (Pl.getI_mem hi)
 have hW:∀ i,i < ws.length→WiSm xs.length (getI ws tWin.dflt i).1 (getI ws tWin.dflt i).2.1 (getI ws tWin.dflt i).2.2:=fun i hi=>hww _ (Pl.getI_mem hi)
 repeat' (first|refine zN ?_|refine zE ?_|refine zP ?_|refine pD ?_|refine zS ?_|refine zR ?_|refine zO ?_|refine zB ?_|refine zX ?_|refine zT ?_|refine skipI rfl ?_)
 obtain ⟨nd,hnd⟩:∃ nd:List NeedT,nd=ns.drop done.toNat:=⟨_,rfl⟩
 have hndl:nd.length≤1000:=by rw [hnd,List.length_drop];omega
 have hndt:∀ x∈nd,x.1.length≤1000000:=fun x hx=>hnl x (List.mem_of_mem_drop (hnd ▸ hx))
 have hnd':List.drop done.toNat (List.take ((ns.length:Nat):Int).toNat ns)=nd:=by rw [hnd,Int.toNat_natCast,List.take_length]
 simp only [hnd']
 refine loopI (σ:=Nat) (fun i=>[(33,.int .i64 i)]) (fun i=>[(12,.box [.int .i64 entry,.int .i64 ra,.int .i64 rb,.own 3000,.nilsl]),(3000,.seq tNeed ((nd.take i).map (needR failed)))]) (fun i=>i≤nd.length) (fun i=>nd.length - i) 0 rfl (fun _=>rfl) rfl ?_ ?_ ?_
 ·exact Nat.zero_le _
 ·repeat' (first|exact trivial|with_reducible exact rfl|refine And.intro ?_ ?_)
  all_goals rfl
 ·intro i hi
  repeat' (first|refine zN ?_|refine zE ?_|refine zP ?_|refine pD ?_|refine zS ?_|refine zR ?_|refine zO ?_|refine zB ?_|refine zX ?_|refine zT ?_|refine skipI rfl ?_)
  refine condI rfl (fun c1=>?_) (fun c1=>?_)
  ·simp only [decide_eq_true_eq] at c1
   have hil:i < nd.length:=by omega
   have hin:((i:Int)).toNat=i:=by omega
   have hlt:((nd.take i).map (needR failed)).length=i:=by rw [List.length_map,List.length_take];omega
   repeat' (first|refine zN ?_|refine zE ?_|refine zP ?_|refine pD ?_|refine pC (by first|(simp only [hin];omega)|(simp only [hin];exact hndt _ (Pl.getI_mem hil))|(simp only [hlt,List.length_cons,List.length_nil];omega)) ?_|refine zS ?_|refine zR ?_|refine zO ?_|refine zB ?_|refine zX ?_|refine zT ?_|refine skipI rfl ?_)
   refine roundI (i+1) rfl ?_ ?_ ?_
   ·show i+1≤nd.length
    omega
   ·show nd.length - (i+1) < nd.length - i
    omega
   ·repeat' (first|exact trivial|with_reducible exact rfl|refine And.intro ?_ ?_)
    all_goals (first|rfl|(rw [take_getI (d:=tNeed.dflt) hil,List.map_append];simp only [hin];rfl))
  ·simp only [decide_eq_false_iff_not] at c1
   have hr1:(nd.take i).map (needR failed)=restN ns done failed:=by rw [List.take_of_length_le (by omega),hnd];rfl
   rw [hr1]
   refine freezeI 3000 rfl ?_
   repeat' (first|refine zN ?_|refine zE ?_|refine zP ?_|refine pD ?_|refine zS ?_|refine zR ?_|refine zO ?_|refine zB ?_|refine zX ?_|refine zT ?_|refine skipI rfl ?_)
   refine loopI (σ:=Nat × RestT) (fun s=>[(15,.own 3001),(53,.int .i64 s.1)]) (fun s=>[(3001,.map (.int .i64) (.int .i64) s.2.1),(12,.box [.int .i64 entry,.int .i64 ra,.int .i64 rb,.sl tNeed (restN ns done failed),.own 3002]),(3002,.seq tWin s.2.2)]) (fun s=>s.1≤ws.length∧s.2.2.length≤s.1∧restF xs ws done=(ws.drop s.1).foldl (restStep xs done) s.2) (fun s=>ws.length - s.1) (0,[],[]) rfl (fun _=>rfl) rfl ?_ ?_ ?_
   ·exact ⟨Nat.zero_le _,by simp,rfl⟩
   ·repeat' (first|exact trivial|with_reducible exact rfl|refine And.intro ?_ ?_)
    all_goals rfl
   rintro ⟨k,kvs,out⟩ ⟨hk,hol,hinv⟩
   dsimp only at hk hol hinv ⊢
   repeat' (first|refine zN ?_|refine zE ?_|refine zP ?_|refine pD ?_|refine zS ?_|refine zR ?_|refine zO ?_|refine zB ?_|refine zX ?_|refine zT ?_|refine skipI rfl ?_)
   refine condI rfl (fun c2=>?_) (fun c2=>?_)
   ·simp only [decide_eq_true_eq] at c2
    have hkl:k < ws.length:=by omega
    have hkn:((k:Int)).toNat=k:=by omega
    have hWk:=hW k hkl
    unfold WiSm at hWk
    rw [drop_getI (d:=tWin.dflt) hkl] at hinv
    obtain ⟨x,hx⟩:∃ x:Int × Int × Int,x=getI ws tWin.dflt k:=⟨_,rfl⟩
    rw [← hx] at hinv hWk
    have hx':getI ws tWin.dflt ((k:Int)).toNat=x:=by rw [hkn];exact hx.symm
    have hinv:restF xs ws done=(ws.drop (k+1)).foldl (restStep xs done) (restStep xs done (kvs,out) x):=hinv
    unfold restStep at hinv
    have hSx:=hS x.1.toNat (by omega)
    unfold StSm at hSx
    repeat' (first|refine zN ?_|refine zE ?_|refine zP ?_|refine pD ?_|refine zS ?_|refine zR ?_|refine zO ?_|refine zB ?_|refine zX ?_|refine zT ?_|refine skipI rfl ?_)
    simp only [hx']
    refine condI rfl (fun c3=>?_) (fun c3=>?_)
    ·have c3':decide (x.1≥done)=true:=c3
     simp only [c3',cond_true] at hinv
     repeat' (first|refine zN ?_|refine zE ?_|refine zP ?_|refine pD ?_|refine pC (by first|(unfold In64;omega)|(simp only [List.length_cons,List.length_nil];omega)) ?_|refine zS ?_|refine zR ?_|refine zO ?_|refine zB ?_|refine zX ?_|refine zT ?_|refine skipI rfl ?_)
     refine roundI (k+1,kvs,out++[(x.1 - done,x.2.1 - done,x.2.2)]) rfl ?_ ?_ ?_
     ·exact ⟨by show k+1≤ws.length;omega,by show (out++[_]).length≤k+1;simp;omega,hinv⟩
     ·show ws.length - (k+1) < ws.length - k
      omega
     ·repeat' (first|exact trivial|with_reducible exact rfl|refine And.intro ?_ ?_)
      all_goals rfl
    have c3':decide (x.1≥done)=false:=c3
    simp only [c3',cond_false] at hinv
    repeat' (first|refine zN ?_|refine zE ?_|refine zP ?_|refine pD ?_|refine zS ?_|refine zR ?_|refine zO ?_|refine zB ?_|refine zX ?_|refine zT ?_|refine skipI rfl ?_)
    refine condI rfl (fun c4=>?_) (fun c4=>?_)
    ·have c4':decide (x.2.1≥done)=true:=c4
     simp only [c4',cond_true] at hinv
     repeat' (first|refine zN ?_|refine zE ?_|refine zP ?_|refine pD ?_|refine pC (by first|(unfold In64;omega)|omega) ?_|refine zS ?_|refine zR ?_|refine zO ?_|refine zB ?_|refine zX ?_|refine zT ?_|refine skipI rfl ?_)
     obtain ⟨dv,hdv⟩:∃ dv:Int,dv=mSt (getI xs tStage.dflt x.1.toNat)+sMin (getI xs tStage.dflt x.1.toNat)+x.2.2:=⟨_,rfl⟩
     obtain ⟨fd,hfd⟩:∃ fd:Option Int,fd=mapFind (.int .i64) (.int .i64) (x.2.1 - done) kvs:=⟨_,rfl⟩
     refine condI rfl (fun c5=>?_) (fun c5=>?_)
     ·have c5':(!fd.isSome||decide (dv < fd.getD (0:Int)))=true:=by rw [hdv,hfd];exact c5
      rw [hdv,hfd] at c5'
      simp only [c5',cond_true] at hinv
      repeat' (first|refine zN ?_|refine zE ?_|refine zP ?_|refine pD ?_|refine pC (by (unfold In64;omega)) ?_|refine zS ?_|refine zR ?_|refine zO ?_|refine zB ?_|refine zX ?_|refine zT ?_|refine skipI rfl ?_)
      refine roundI (k+1,mapSet (.int .i64) (.int .i64) (x.2.1 - done) (mSt (getI xs tStage.dflt x.1.toNat)+sMin (getI xs tStage.dflt x.1.toNat)+x.2.2) kvs,out) rfl ?_ ?_ ?_
      ·exact ⟨by show k+1≤ws.length;omega,by show out.length≤k+1;omega,hinv⟩
      ·show ws.length - (k+1) < ws.length - k
       omega
      ·repeat' (first|exact trivial|with_reducible exact rfl|refine And.intro ?_ ?_)
       all_goals rfl
     ·have c5':(!fd.isSome||decide (dv < fd.getD (0:Int)))=false:=by rw [hdv,hfd];exact c5
      rw [hdv,hfd] at c5'
      simp only [c5',cond_false] at hinv
      repeat' (first|refine zN ?_|refine zE ?_|refine zP ?_|refine pD ?_|refine zS ?_|refine zR ?_|refine zO ?_|refine zB ?_|refine zX ?_|refine zT ?_|refine skipI rfl ?_)
      refine roundI (k+1,kvs,out) rfl ?_ ?_ ?_
      ·exact ⟨by show k+1≤ws.length;omega,by show out.length≤k+1;omega,hinv⟩
      ·show ws.length - (k+1) < ws.length - k
       omega
      ·repeat' (first|exact trivial|with_reducible exact rfl|refine And.intro ?_ ?_)
       all_goals rfl
    ·have c4':decide (x.2.1≥done)=false:=c4
     simp only [c4',cond_false] at hinv
     repeat' (first|refine zN ?_|refine zE ?_|refine zP ?_|refine pD ?_|refine zS ?_|refine zR ?_|refine zO ?_|refine zB ?_|refine zX ?_|refine zT ?_|refine skipI rfl ?_)
     refine roundI (k+1,kvs,out) rfl ?_ ?_ ?_
     ·exact ⟨by show k+1≤ws.length;omega,by show out.length≤k+1;omega,hinv⟩
     ·show ws.length - (k+1) < ws.length - k
      omega
     ·repeat' (first|exact trivial|with_reducible exact rfl|refine And.intro ?_ ?_)
      all_goals rfl
   ·simp only [decide_eq_false_iff_not] at c2
    rw [List.drop_eq_nil_of_le (by omega)] at hinv
    have hinv:restF xs ws done=(kvs,out):=hinv
    rw [hinv]
    refine freezeI 3002 rfl ?_
    repeat' (first|refine zN ?_|refine zE ?_|refine zP ?_|refine pD ?_|refine zS ?_|refine zR ?_|refine zO ?_|refine zB ?_|refine zX ?_|refine zT ?_|refine skipI rfl ?_)
    refine endR rfl ?_
    repeat' (first|exact trivial|exact rfl|refine ⟨rfl,?_⟩|refine And.intro ?_ ?_)
end Go.AM.YtmohhhbgcehnpaaGreat.Re
end

section
set_option linter.all false
namespace Go.AM
section
variable {P:Program} {C:Ctx} {g:Nat→Gh} {R:Nat→Prop} {a:Act} {w:World} {st:St} {tt:TT} {S:Nat→Option Spec}
theorem eval_put_same {a:Act} {t:Nat} {v:Value} (h:t < a.tmps.size):(a.put (some t) v).eval (.tmp t)=v:=by
 refine getD_of ?_
 simp only [Act.put]
 rw [getElem?_put _ _ _ _ h,if_pos rfl]
theorem eval_put_other {a:Act} {t u:Nat} {v:Value} (h:t < a.tmps.size) (hne:t≠u):(a.put (some t) v).eval (.tmp u)=a.eval (.tmp u):=by
 show ((a.put (some t) v).tmps).getD u undef=a.tmps.getD u undef
 simp only [Act.put]
 rw [Array.getD_eq_getD_getElem?,Array.getD_eq_getD_getElem?,getElem?_put _ _ _ _ h,if_neg hne]
theorem Rel.junk (h:Rel C g R st a w) (hgt:st.gt=[]) {d:Nat} (hd:d < st.n) (v:Value):Rel C g R ⟨st.n,(d,⟨[],.junk⟩)::st.slots,st.gt,st.ks,st.rows⟩ (a.put (some d) v) w :=
 h.put d ⟨[],.junk⟩ v st.gt hd (by rw [hgt];rfl) (fun _ h=>h) (fun u x h=>by simp at h) ⟨fun _=>.junk,fun h=>absurd (fun t x h=>by simp at h) h⟩
theorem move_rel (hrel:Rel C g R st a w) {r m:Nat} {ty:Ty} {xss yss:List (List ty.El)} (hr:look st.rows r=some (.arr ty yss none)) (hm:look st.rows m=some (.arr ty xss none)) (hrm:m≠r)
 {vs:List Value} {cty:TypeId} (hh:w.heap[(g m).b]?=some (.cells vs.toArray cty (0,0))) (ha:ArrH R w (g m).b ty xss none vs) {us:List Value} {cty':TypeId} (hhr:w.heap[(g r).b]?=some (.cells us.toArray cty' (0,0))) :
 Rel C g R ⟨st.n,st.slots,st.gt,appK [] st.ks,addRows [(r,.arr ty xss none),(m,.dead)] st.rows⟩ a (w.setRow (g r).b vs.toArray):=by
 have hownr:Own g w r (.arr ty yss none) (g r).b:=.inl rfl
 have hownm:∀ i v b,vs[i]?=some v→blkOf v=some b→Own g w m (.arr ty xss none) b:=fun i v b hi hb=>.inr ⟨vs,cty,i,v,hh,hi,by simp,hb⟩
 have hmb:∀ i v b,vs[i]?=some v→blkOf v=some b→b≠(g r).b:=fun i v b hi hb e=>hrm (hrel.heap.sep m r _ _ b hm hr (hownm i v b hi hb) (e ▸ hownr))
 have hkeep:∀ b,b≠(g r).b→(w.setRow (g r).b vs.toArray).heap[b]?=w.heap[b]?:=fun b hb=>setRow_other w _ _ _ hb
 have hkR:∀ ad:Addr,R ad.block→(w.setRow (g r).b vs.toArray).cell? ad=w.cell? ad:=fun ad had=>cell_of_heap (hkeep _ (fun e=>hR_w hrel hr hownr (e ▸ had)))
 have hh':(w.setRow (g r).b vs.toArray).heap[(g r).b]?=some (.cells vs.toArray cty' (0,0)):=setRow_heap' w _ _ _ cty' hhr
 have hlk:∀ r' o,look [(r,AObj.arr ty xss none),(m,.dead)] r'=some o→(r'=r∧o=.arr ty xss none)∨(r'=m∧o=.dead):=fun r' o h=>by
  rw [look_cons] at h
  by_cases e:r=r'
  ·simp [e] at h;exact .inl ⟨e.symm,h.symm⟩
  ·simp [e] at h
   rw [look_cons] at h
   by_cases e2:m=r'
   ·simp [e2] at h;exact .inr ⟨e2.symm,h.symm⟩
   ·simp [e2,look] at h
 have hownN:∀ b,Own g (w.setRow (g r).b vs.toArray) r (.arr ty xss none) b→Own g w r (.arr ty yss none) b∨Own g w m (.arr ty xss none) b:=fun b hb=>by
  rcases hb with rfl|⟨vs',cty',i,v',h1,h2,_,hb⟩
  ·exact .inl (.inl rfl)
  ·rw [hh'] at h1
   obtain rfl:=cells_inj h1
   exact .inr (hownm i v' b h2 hb)
 have hszw:(w.setRow (g r).b vs.toArray).heap.size=w.heap.size:=by simp
 have hKe:(fun r'=>mem st.ks r'=true∨mem [] r'=true)=(fun r'=>mem st.ks r'=true):=by funext r';simp [mem]
 refine hrel.gen (fun _ _=>rfl) (fun _ h=>h) (fun _ h=>h) ?_
 have:=hrel.heap.gen (g':=g) (R':=R) (w':=w.setRow (g r).b vs.toArray) [(r,.arr ty xss none),(m,.dead)] [] (fun r'=>r'=r∨r'=m) (fun r hr=>by simp [mem] at hr)
  (fun r' o1 h=>.inl (by rcases hlk r' o1 h with ⟨rfl,_⟩|⟨rfl,_⟩;exact hrel.heap.keys _ _ hr;exact hrel.heap.keys _ _ hm))
  (fun r' h=>by
   rcases h with rfl|rfl
   ·exact ⟨_,by rw [look_cons];simp;rfl⟩
   ·exact ⟨.dead,by rw [look_cons,if_neg (Ne.symm hrm),look_cons];simp⟩)
  rfl rfl rfl (by rw [hszw];exact Nat.le_refl _) (fun b _=>by
   by_cases e:b=(g r).b
   ·exact .inr ⟨r,_,.inl rfl,hr,e ▸ hownr⟩
   ·exact .inl (hkeep b e)) (fun _ _=>rfl) (fun _ h=>h)
  (fun b hb=>by rw [hszw];exact hrel.heap.rlt b hb) (fun _ h=>.inl h)
  (fun r' o1 h=>by
   rw [hKe]
   rcases hlk r' o1 h with ⟨rfl,rfl⟩|⟨rfl,rfl⟩
   ·exact ⟨_,cty',hh',⟨ha.len,ha.one,fun i v xs h1 h2 _=>ElemR_mono (fun _ h=>h) hkR (fun b hb=>hkeep b (hmb i v b h1 hb)) (ha.el i v xs h1 h2 (by simp)),fun i v h1 _ h2=>hmb i v _ h1 h2 rfl,ha.sep⟩⟩
   ·trivial)
  (fun r' o1 b h hb=>by
   rcases hlk r' o1 h with ⟨rfl,rfl⟩|⟨rfl,rfl⟩
   ·rcases hownN b hb with h1|h1
    ·exact ⟨hR_w hrel hr h1,.inr ⟨_,_,.inl rfl,hr,h1⟩⟩
    ·exact ⟨hR_w hrel hm h1,.inr ⟨_,_,.inr rfl,hm,h1⟩⟩
   ·simp [Own] at hb)
  (fun r1 r2 o1 o2 b h6 h7 h8 h9=>by
   rcases hlk r1 o1 h6 with ⟨rfl,rfl⟩|⟨rfl,rfl⟩
   ·rcases hlk r2 o2 h7 with ⟨rfl,rfl⟩|⟨rfl,rfl⟩
    ·rfl
    ·simp [Own] at h9
   ·simp [Own] at h8)
 exact ⟨this.1.lists,this.2⟩
end
section
variable {tt:TT} {S:Nat→Option Spec} {E:Env PG tt S} {K:List Nat} {c:Code} {st:St} {Q:AExit→St→Prop}
set_option maxHeartbeats 1000000 in
theorem moveI {id:Nat} {t0 t1 t2 t3 t4 x y:Nat} {y0 y1 y2 y3 y4 y5 T:TypeId} {p0 p1 p2 p3 p4 p5:String} {e0 f1 f2 f3 f4 f5:Array Edge} {ti:TI}
 (hc:c=.region id #[⟨some t0,.move (.tmp x),y0,p0,e0,none⟩,⟨some t1,.move (.tmp y),y1,p1,f1,none⟩,⟨some t2,.nilCheck (.tmp t1),y2,p2,f2,none⟩,⟨some t3,.load T (.tmp t2),y3,p3,f3,none⟩,⟨some t4,.nilCheck (.tmp t0),y4,p4,f4,none⟩,⟨none,.store T (.tmp t4) (.tmp t3),y5,p5,f5,none⟩] false)
 {r m:Nat} {ty:Ty} {xss yss:List (List ty.El)} (hx:look st.slots x=some ⟨[],.ptr r 0⟩) (hy:look st.slots y=some ⟨[],.ptr m 0⟩)
 (hr:look st.rows r=some (.arr ty yss none)) (hm:look st.rows m=some (.arr ty xss none)) (hrm:Nat.beq m r=false) (hT:look tt.1 T=some ti) (hag:ti.agg=true)
 (hgt:st.gt=[]) (hck:(Nat.blt t0 st.n&&Nat.blt t1 st.n&&Nat.blt t2 st.n&&Nat.blt t3 st.n&&Nat.blt t4 st.n&&!Nat.beq t0 y&&!Nat.beq t0 t1&&!Nat.beq t0 t2&&!Nat.beq t0 t3&&!Nat.beq t1 t0&&!Nat.beq t3 t4)=true)
 {z:St} (hz:tidy K ⟨st.n,(t4,⟨[],.junk⟩)::(t3,⟨[],.junk⟩)::(t2,⟨[],.junk⟩)::(t1,⟨[],.junk⟩)::(t0,⟨[],.junk⟩)::st.slots,st.gt,appK [] st.ks,addRows [(r,.arr ty xss none),(m,.dead)] st.rows⟩ (fun s=>some s)=some z)
 (hl1:xss.length=ti.size) (hl2:yss.length=ti.size) (k:Q .normal z):WP E K c st Q:=by
 subst hc
 intro hcode C g R a w Z hrel hq
 simp only [Bool.and_eq_true,Bool.not_eq_true',Nat.blt_eq] at hck
 obtain ⟨⟨⟨⟨⟨⟨⟨⟨⟨⟨l0,l1⟩,l2⟩,l3⟩,l4⟩,n0y⟩,n01⟩,n02⟩,n03⟩,n10⟩,n34⟩:=hck
 have n0y:=beq_ne n0y
 have n01:=beq_ne n01
 have n02:=beq_ne n02
 have n03:=beq_ne n03
 have n10:=beq_ne n10
 have n34:=beq_ne n34
 have hrm:=beq_ne hrm
 obtain ⟨i,zz,hi,hsz,_⟩:=E.hT.info hT
 obtain ⟨vs,cty,hh,ha⟩:=hrel.heap.held _ _ hm
 obtain ⟨us,cty',hhr,har⟩:=hrel.heap.held _ _ hr
 have hagr:∀ w:World,(isAgg T).run PG w=.ok true w:=fun w=>by rw [isAgg_run E.hT hT w,hag]
 obtain ⟨vx,hvx,rx⟩:=(hrel.slots x _ hx).1 (fun t x h=>by simp at h)
 obtain ⟨vy,hvy,ry⟩:=(hrel.slots y _ hy).1 (fun t x h=>by simp at h)
 have ex:a.eval (.tmp x)=.pointer (some ⟨(g r).b,0,none⟩):=by
  cases rx;exact getD_of hvx
 have ey:a.eval (.tmp y)=.pointer (some ⟨(g m).b,0,none⟩):=by
  cases ry;exact getD_of hvy
 have hs0:a.tmps.size=st.n:=hrel.size
 have hsp:∀ (a:Act) (d:Nat) (v:Value),(a.put (some d) v).tmps.size=a.tmps.size:=fun a d v=>by simp [Act.put]
 obtain ⟨a1,ha1⟩:∃ a1,a1=a.put (some t0) (.pointer (some ⟨(g r).b,0,none⟩)):=⟨_,rfl⟩
 obtain ⟨a2,ha2⟩:∃ a2,a2=a1.put (some t1) (.pointer (some ⟨(g m).b,0,none⟩)):=⟨_,rfl⟩
 obtain ⟨a3,ha3⟩:∃ a3,a3=a2.put (some t2) (.pointer (some ⟨(g m).b,0,none⟩)):=⟨_,rfl⟩
 obtain ⟨a4,ha4⟩:∃ a4,a4=a3.put (some t3) (.agg vs.toArray):=⟨_,rfl⟩
 obtain ⟨a5,ha5⟩:∃ a5,a5=a4.put (some t4) (.pointer (some ⟨(g r).b,0,none⟩)):=⟨_,rfl⟩
 have s1:a1.tmps.size=st.n:=by rw [ha1,hsp,hs0]
 have s2:a2.tmps.size=st.n:=by rw [ha2,hsp,s1]
 have s3:a3.tmps.size=st.n:=by rw [ha3,hsp,s2]
 have s4:a4.tmps.size=st.n:=by rw [ha4,hsp,s3]
 have e1:a1.eval (.tmp y)=.pointer (some ⟨(g m).b,0,none⟩):=by rw [ha1,eval_put_other (by rw [hs0];exact l0) n0y];exact ey
 have e2:a2.eval (.tmp t1)=.pointer (some ⟨(g m).b,0,none⟩):=by rw [ha2,eval_put_same (by rw [s1];exact l1)]
 have e3:a3.eval (.tmp t2)=.pointer (some ⟨(g m).b,0,none⟩):=by rw [ha3,eval_put_same (by rw [s2];exact l2)]
 have e4:a4.eval (.tmp t0)=.pointer (some ⟨(g r).b,0,none⟩):=by
  rw [ha4,eval_put_other (by rw [s3];exact l3) (Ne.symm n03),ha3,eval_put_other (by rw [s2];exact l2) (Ne.symm n02),ha2,eval_put_other (by rw [s1];exact l1) n10,ha1,eval_put_same (by rw [hs0];exact l0)]
 have e5:a5.eval (.tmp t4)=.pointer (some ⟨(g r).b,0,none⟩):=by rw [ha5,eval_put_same (by rw [s4];exact l4)]
 have e6:a5.eval (.tmp t3)=.agg vs.toArray:=by rw [ha5,eval_put_other (by rw [s4];exact l4) (Ne.symm n34),ha4,eval_put_same (by rw [s3];exact l3)]
 have hload:(Instr.loadAt T (.pointer (some ⟨(g m).b,0,none⟩))).run PG w=.ok (.agg vs.toArray) w:=by
  have hlo:=run_loadCells_list (P:=PG) w ⟨(g m).b,0,none⟩ vs (cell_box hh)
  have hlen:vs.length=i.size:=by rw [ha.len,hl1,hsz]
  rw [hlen] at hlo
  simp [Instr.loadAt,Instr.sureAddr,loadVar,hagr,run_size w hi,hlo]
 have hst:=storeVar_run (P:=PG) (t:=T) hi (off:=0) (v:=.agg vs.toArray) hhr (by show vs.toArray.size=_;simp [ha.len,hl1,hsz]) (by show 0+vs.toArray.size≤_;simp [ha.len,har.len,hl1,hl2]) (by show ∀ u∈vs.toArray.toList,_;simpa using ha.one)
 have hnew:us.toArray.toList.take 0++(Value.agg vs.toArray).cells.toList++us.toArray.toList.drop (0+(Value.agg vs.toArray).cells.size)=vs:=by
  show _++vs.toArray.toList++us.toArray.toList.drop (0+vs.toArray.size)=vs
  rw [List.drop_eq_nil_of_le (by simp [ha.len,har.len,hl1,hl2])]
  simp
 rw [hnew] at hst
 have hrel5:=((((hrel.junk hgt l0 (.pointer (some ⟨(g r).b,0,none⟩))).junk hgt l1 (.pointer (some ⟨(g m).b,0,none⟩))).junk hgt l2 (.pointer (some ⟨(g m).b,0,none⟩))).junk hgt l3 (.agg vs.toArray)).junk hgt l4 (.pointer (some ⟨(g r).b,0,none⟩))
 rw [← ha1,← ha2,← ha3,← ha4,← ha5] at hrel5
 have hrelZ:Rel C g R ⟨st.n,(t4,⟨[],.junk⟩)::(t3,⟨[],.junk⟩)::(t2,⟨[],.junk⟩)::(t1,⟨[],.junk⟩)::(t0,⟨[],.junk⟩)::st.slots,st.gt,appK [] st.ks,addRows [(r,.arr ty xss none),(m,.dead)] st.rows⟩ a5 (w.setRow (g r).b vs.toArray):=move_rel hrel5 (r:=r) (m:=m) (ty:=ty) (yss:=yss) (xss:=xss) hr hm hrm hh ha hhr
 have hfin:=hq C .normal z g R a5 (w.setRow (g r).b vs.toArray) (Later.refl C) k (by
  rw [tidy_eq] at hz
  obtain rfl:=Option.some.inj hz
  exact tidy_sound hrelZ)
 refine wpIn_region ?_
 obtain ⟨ops,hops⟩:∃ ops:Array Oper,ops=#[⟨some t0,.move (.tmp x),y0,p0,e0,none⟩,⟨some t1,.move (.tmp y),y1,p1,f1,none⟩,⟨some t2,.nilCheck (.tmp t1),y2,p2,f2,none⟩,⟨some t3,.load T (.tmp t2),y3,p3,f3,none⟩,⟨some t4,.nilCheck (.tmp t0),y4,p4,f4,none⟩,⟨none,.store T (.tmp t4) (.tmp t3),y5,p5,f5,none⟩]:=⟨_,rfl⟩
 rw [← hops]
 have step:∀ (o:Oper) (i:Nat) (rest:List Nat) (a:Act) (w:World),ops[i]?=some o→o.guard=none→o.wpIn (FR E.ro) 0 PG a w (wpOpsIn (FR E.ro) 0 PG ops Z rest) Z→wpOpsIn (FR E.ro) 0 PG ops Z (i::rest) a w:=fun o i rest a w h1 h2 h3=>by
  simp only [wpOpsIn,h1]
  rw [if_pos (by unfold Region.wanted;rw [h2])]
  exact h3
 rw [show List.range ops.size=[0,1,2,3,4,5] by rw [hops];rfl]
 refine step ⟨some t0,.move (.tmp x),y0,p0,e0,none⟩ 0 _ _ _ (by rw [hops];rfl) rfl ?_
 refine opFR (wp_value (v:=.pointer (some ⟨(g r).b,0,none⟩)) (w':=w) (by simp [execOp,ex]) ?_) rfl
 show wpOpsIn _ _ _ _ _ _ (Act.put _ (some t0) _) _
 rw [← ha1]
 refine step ⟨some t1,.move (.tmp y),y1,p1,f1,none⟩ 1 _ _ _ (by rw [hops];rfl) rfl ?_
 refine opFR (wp_value (v:=.pointer (some ⟨(g m).b,0,none⟩)) (w':=w) (by simp [execOp,e1]) ?_) rfl
 show wpOpsIn _ _ _ _ _ _ (Act.put _ (some t1) _) _
 rw [← ha2]
 refine step ⟨some t2,.nilCheck (.tmp t1),y2,p2,f2,none⟩ 2 _ _ _ (by rw [hops];rfl) rfl ?_
 refine opFR (wp_value (v:=.pointer (some ⟨(g m).b,0,none⟩)) (w':=w) (by simp [execOp,e2]) ?_) rfl
 show wpOpsIn _ _ _ _ _ _ (Act.put _ (some t2) _) _
 rw [← ha3]
 refine step ⟨some t3,.load T (.tmp t2),y3,p3,f3,none⟩ 3 _ _ _ (by rw [hops];rfl) rfl ?_
 refine opFR (wp_value (v:=.agg vs.toArray) (w':=w) (by simp [execOp,e3,hload]) ?_) rfl
 show wpOpsIn _ _ _ _ _ _ (Act.put _ (some t3) _) _
 rw [← ha4]
 refine step ⟨some t4,.nilCheck (.tmp t0),y4,p4,f4,none⟩ 4 _ _ _ (by rw [hops];rfl) rfl ?_
 refine opFR (wp_value (v:=.pointer (some ⟨(g r).b,0,none⟩)) (w':=w) (by simp [execOp,e4]) ?_) rfl
 show wpOpsIn _ _ _ _ _ _ (Act.put _ (some t4) _) _
 rw [← ha5]
 refine step ⟨none,.store T (.tmp t4) (.tmp t3),y5,p5,f5,none⟩ 5 _ _ _ (by rw [hops];rfl) rfl ?_
 refine opFR (wp_skip' (w':=w.setRow (g r).b vs.toArray) (by simp [execOp,e5,e6,hst]) ?_) rfl
 exact hfin
end
section
variable {P:Program} {C:Ctx} {tt:TT} {S:Nat→Option Spec}
theorem runs_pre {ro:Option Nat} (hT:TTok P tt) (hS:SigOk P S) {ops:List Oper} (hok:∀ o∈ops,operOk o∧notDefer o.op=true) {Q:Exit→Act→World→Prop}:∀ {l:List Oper} {st s:St} {cs:List Prop} {ts:List Tr} (k:Nat),Lex tt S ops l st cs s ts→(∀ j o,l[j]?=some o→ops[k+j]?=some o)→(∀ p∈cs,p) →
 ∀ {rest:List Nat} {g:Nat→Gh} {R:Nat→Prop} {a:Act} {w:World},Rel C g R st a w→(∀ g' R' a' w',Rel C g' R' s a' w'→wpOpsIn (FR ro) 0 P ops.toArray Q rest a' w')→wpOpsIn (FR ro) 0 P ops.toArray Q (List.range' k l.length++rest) a w
 | _,_,_,_,_,k,.nil,_,_,rest,g,R,a,w,hrel,hq=>by simpa using hq g R a w hrel
 | _,_,_,_,_,k,.cons (o:=o) (l:=l) (c:=c) (cs:=cs) h1 h2,hl,hcs,rest,g,R,a,w,hrel,hq=>by
   have hk:ops[k]?=some o:=hl 0 o (by simp)
   have hl':∀ j o',l[j]?=some o'→ops[k+1+j]?=some o':=fun j o' h=>by
    have:=hl (j+1) o' (by simpa using h)
    rwa [show k+(j+1)=k+1+j by omega] at this
   simp only [List.length_cons,List.range'_succ,List.cons_append,wpOpsIn,List.getElem?_toArray,hk]
   have:=stepS_sound (C:=C) (Q:=Q) (ro:=ro) (next:=wpOpsIn (FR ro) 0 P ops.toArray Q (List.range' (k+1) l.length++rest)) hT hS h1 (hok o (List.mem_of_getElem? hk)).1 (hok o (List.mem_of_getElem? hk)).2 hrel (fun p hp=>hcs p (List.mem_append_left _ hp))
    (fun g' R' a' w' hr=>runs_pre hT hS hok (k+1) h2 hl' (fun p hp=>hcs p (List.mem_append_right _ hp)) hr hq)
   split at this
   ·rename_i hw;rw [if_pos hw];exact this
   ·rename_i hw;rw [if_neg hw];exact ⟨fun _ _=>trivial,this⟩
end
def regSplit (tt:TT) (S:Nat→Option Spec) (K:List Nat) (k r:Nat) (c:Code) (st:St):Option (List Prop × St):=match c with
 | .region _ ops false=>runO tt S ops.toList (ops.toList.take k) st [] [] fun cs1 s1 _=>match frzSt r s1 with
   | some s2=>runO tt S ops.toList (ops.toList.drop k) s2 [] [] fun cs2 s3 _=>tidy K s3 fun s4=>some (appP cs1 cs2,s4)
   | none=>none
 | _=>none
section
variable {tt:TT} {S:Nat→Option Spec} {E:Env PG tt S} {K:List Nat} {c:Code} {st:St} {Q:AExit→St→Prop}
theorem regF (k r:Nat) {cs:List Prop} {st':St} (h:regSplit tt S K k r c st=some (cs,st')) (x:allP cs (Q .normal st')):WP E K c st Q:=by
 unfold regSplit at h
 split at h
 ·rename_i id ops
  intro hc C g R a w Z hrel hq
  obtain ⟨c1,s1,t1,hl1,h⟩:=runO_spec h
  try dsimp only at h
  split at h <;> try (cases h;done)
  rename_i s2 hf
  obtain ⟨c2,s3,t2,hl2,h⟩:=runO_spec h
  try dsimp only at h
  rw [tidy_eq] at h
  simp only [List.nil_append,Option.some.injEq,Prod.mk.injEq] at h
  obtain ⟨hcs,hst⟩:=h
  rw [appP_eq] at hcs
  subst hcs
  obtain ⟨x1,x2⟩:=allP_spec x
  have hok:∀ o∈ops.toList,operOk o∧notDefer o.op=true:=fun o ho=>by
   simp only [codeOk,List.all_eq_true] at hc
   have:=hc o ho
   rw [Bool.and_eq_true,List.all_eq_true] at this
   exact ⟨fun y hy=>operandB_spec (this.2 y (by simpa using hy)),this.1⟩
  refine wpIn_region ?_
  have e:List.range ops.size=List.range' 0 (ops.toList.take k).length++List.range' (min k ops.size) (ops.toList.drop k).length:=by
   rw [List.range_eq_range',List.length_take,List.length_drop,Array.length_toList]
   rw [show List.range' (min k ops.size) (ops.size - k)=List.range' (0+1 * min k ops.size) (ops.size - k) by simp,List.range'_append]
   congr 1
   omega
  rw [e]
  have hops:ops.toList.toArray=ops:=by simp
  have h1:=runs_pre (C:=C) (ro:=E.ro) (P:=PG) (Q:=Z) E.hT E.hS hok 0 hl1 (fun j o hj=>by
   rw [Nat.zero_add]
   rw [List.getElem?_take] at hj
   split at hj
   ·exact hj
   ·cases hj) (fun p hp=>x1 p (List.mem_append_left _ hp)) (rest:=List.range' (min k ops.size) (ops.toList.drop k).length) hrel
   (fun g' R' a' w' hr=>by
    obtain ⟨R2,hr2⟩:=frz_sound hf hr
    have h2:=runs_pre (C:=C) (ro:=E.ro) (P:=PG) (Q:=Z) E.hT E.hS hok (min k ops.size) hl2 (fun j o hj=>by
     rw [List.getElem?_drop] at hj
     by_cases hk:k≤ops.size
     ·rw [Nat.min_eq_left hk];exact hj
     ·rw [List.getElem?_eq_none (by simp;omega)] at hj;cases hj) (fun p hp=>x1 p (List.mem_append_right _ hp)) (rest:=[]) hr2
     (fun g3 R3 a3 w3 hr3=>by
      simp only [wpOpsIn]
      exact hq C .normal st' g3 R3 a3 w3 (Later.refl C) x2 (hst ▸ tidy_sound hr3))
    rwa [List.append_nil] at h2)
  rwa [hops] at h1
 ·cases h
end
end Go.AM
end

section
set_option linter.all false
namespace Go.AM.YtmohhhbgcehnpaaGreat.Pl
open Go.Proofs
set_option maxRecDepth 100000
set_option maxHeartbeats 8000000
def bk1 (s:tStage.El) (ow:Int):tBook.El:=(s.2.2.1.1,s.2.2.1.2,s.2.2.1.2+s.2.1,ow)
def bk2 (s:tStage.El) (ow:Int):tBook.El:=(s.2.2.2.1,s.2.2.2.2,s.2.2.2.2+s.2.1,ow)
def bkN (xs:List tStage.El) (ow:Int):Nat→List tBook.El
 | 0=>[]
 | i+1=>bkN xs ow i++[bk1 (getI xs tStage.dflt i) ow]++[bk2 (getI xs tStage.dflt i) ow]
theorem bkN_length {xs:List tStage.El} {ow:Int}:∀ {i:Nat},(bkN xs ow i).length=2 * i
 | 0=>rfl
 | i+1=>by simp [bkN,bkN_length];omega
def bookF (e a b:Int) (xs:List tStage.El) (ws:List tWin.El) (ow:Int):List tBook.El :=
 if validF e a b xs ws&&withinF ow 1 1000000 then bkN xs ow xs.length else []
def bookS:Spec:=plain fun
 | [.agg [.int .i64 e,.int .i64 a,.int .i64 b,.sl (.pair (.int .i64) (.pair (.int .i64) (.pair (.pair (.int .i64) (.int .i64)) (.pair (.int .i64) (.int .i64))))) xs,.sl (.pair (.int .i64) (.pair (.int .i64) (.int .i64))) ws],.int .i64 ow] =>
   some ⟨True,.own 0,[.seq tBook (bookF e a b xs ws ow)],false⟩
 | _=>none
theorem bkWrap {mn mx mt ms st ss:Int} (S:StOk mn mx mt ms st ss):IntKind.wrap .i64 (ms+mx)=ms+mx∧IntKind.wrap .i64 (ss+mx)=ss+mx:=by
 unfold StOk at S
 exact ⟨wrapId (by omega) (by omega),wrapId (by omega) (by omega)⟩
def bkJ (xs:List tStage.El) (ow:Int) (i:Nat):Nat→List tBook.El
 | 0=>bkN xs ow i
 | 1=>bkN xs ow i++[bk1 (getI xs tStage.dflt i) ow]
 | _=>bkN xs ow (i+1)
theorem bookOk:SpecSound Tryz.prog 82 bookS:=by
 refine sound0 sigVOk Tryz.func82 (c:=body Tryz.f82) rfl (by kernel_rfl) ?_
 intro args out0 hf hpre
 split at hf <;> try (cases hf;done)
 rename_i e a b xs ws ow
 cases hf
 refine ⟨Nat.le_of_ble_eq_true rfl,?_⟩
 conv=>whnf
 refine aI trivial ?_
 conv=>whnf
 refine aI ?_ ?_
 ·conv=>whnf
  intro _;trivial
 conv=>whnf
 refine bI (fun c1=>?_) (fun c1=>?_)
 ·conv=>whnf
  rw [← Bool.not_and,Bool.not_eq_true'] at c1
  have hr:bookF e a b xs ws ow=[]:=by unfold bookF;rw [c1];rfl
  exact ⟨[none],_,rfl,rfl,trivial,aI hr trivial,rfl,rfl,rfl,fun _=>⟨rfl,rfl,rfl⟩⟩
 ·rw [← Bool.not_and,Bool.not_eq_false'] at c1
  have hr:bookF e a b xs ws ow=bkN xs ow xs.length:=by unfold bookF;rw [c1];rfl
  rw [Bool.and_eq_true] at c1
  have F:=valid_facts c1.1
  have hn:=F.n
  conv=>whnf
  refine ⟨Nat,fun i=>⟨49,[(1,⟨[],.int .i64 ow⟩),(4,⟨[],.own 4⟩),(18,⟨[],.sl tStage xs⟩),(19,⟨[],.int .i64 xs.length⟩),(20,⟨[],.int .i64 i⟩)],[],[4],[(4,.seq tBook (bkN xs ow i))]⟩,
   fun i=>i≤xs.length,fun i=>xs.length - i,0,Nat.zero_le _,
   .ren [(4,none)] ⟨rfl,rfl,rfl,aI rfl (aI trivial (aI rfl (aI rfl (aI rfl trivial)))),aI rfl trivial,rfl,rfl,rfl⟩,?_⟩
  intro i hi
  conv=>whnf
  refine bI (fun c2=>?_) (fun c2=>?_)
  ·simp only [decide_eq_true_eq] at c2
   have hlt:i < xs.length:=by omega
   have hw:=bkWrap (F.st i hlt)
   conv=>whnf
   refine aI (by omega) ?_
   conv=>whnf
   refine aI (by omega) ?_
   conv=>whnf
   refine ⟨Nat,fun j=>⟨49,[(1,⟨[],.int .i64 ow⟩),(4,⟨[],.own 4⟩),(18,⟨[],.sl tStage xs⟩),(19,⟨[],.int .i64 xs.length⟩),(20,⟨[],.int .i64 i⟩),(6,⟨[],.ptr 6 0⟩),
    (28,⟨[],.agg [.int .i64 (getI xs tStage.dflt i).2.2.1.1,.int .i64 (getI xs tStage.dflt i).2.2.1.2,.int .i64 (getI xs tStage.dflt i).2.2.2.1,.int .i64 (getI xs tStage.dflt i).2.2.2.2]⟩),(29,⟨[],.int .i64 j⟩)],[],[6,4],
    [(6,.box [.int .i64 (getI xs tStage.dflt i).1,.int .i64 (getI xs tStage.dflt i).2.1,.int .i64 (getI xs tStage.dflt i).2.2.1.1,.int .i64 (getI xs tStage.dflt i).2.2.1.2,.int .i64 (getI xs tStage.dflt i).2.2.2.1,.int .i64 (getI xs tStage.dflt i).2.2.2.2]),(4,.seq tBook (bkJ xs ow i j))]⟩,
    fun j=>j≤2,fun j=>2 - j,0,Nat.zero_le _,
    .same ⟨rfl,rfl,rfl,⟨rfl,rfl,rfl,rfl,rfl,rfl,rfl,rfl,trivial⟩,⟨rfl,rfl,trivial⟩,rfl,rfl,rfl⟩,?_⟩
   intro j hj
   obtain rfl|rfl|rfl:j=0∨j=1∨j=2:=by omega
   ·conv=>whnf
    refine bI (fun c3=>?_) (fun c3=>?_)
    ·conv=>whnf
     refine aI (by decide) ?_
     conv=>whnf
     refine aI (by decide) ?_
     conv=>whnf
     refine aI (by show ((bkN xs ow i).length+1) * 32≤140737488355328;rw [bkN_length];omega) ?_
     conv=>whnf
     refine ⟨1,by decide,by decide,.ren [(6,some 6),(4,some 45)] ⟨rfl,rfl,rfl,aI rfl (aI rfl (aI rfl (aI rfl (aI rfl (aI (aI rfl rfl) (aI (aI rfl (aI rfl (aI rfl (aI rfl trivial)))) (aI rfl trivial))))))),
      aI (aI rfl (aI rfl (aI rfl (aI rfl (aI rfl (aI rfl trivial)))))) (aI (eSeq (congrArg (fun z=>bkN xs ow i++[((getI xs tStage.dflt i).2.2.1.1,(getI xs tStage.dflt i).2.2.1.2,z,ow)]) hw.1.symm)) trivial),rfl,rfl,rfl⟩⟩
    ·exact absurd c3 (by decide)
   ·conv=>whnf
    refine bI (fun c3=>?_) (fun c3=>?_)
    ·conv=>whnf
     refine aI (by decide) ?_
     conv=>whnf
     refine aI (by decide) ?_
     conv=>whnf
     refine aI (by show ((bkN xs ow i++[bk1 (getI xs tStage.dflt i) ow]).length+1) * 32≤140737488355328;rw [List.length_append,bkN_length];simp;omega) ?_
     conv=>whnf
     refine ⟨2,by decide,by decide,.ren [(6,some 6),(4,some 45)] ⟨rfl,rfl,rfl,aI rfl (aI rfl (aI rfl (aI rfl (aI rfl (aI (aI rfl rfl) (aI (aI rfl (aI rfl (aI rfl (aI rfl trivial)))) (aI rfl trivial))))))),
      aI (aI rfl (aI rfl (aI rfl (aI rfl (aI rfl (aI rfl trivial)))))) (aI (eSeq (congrArg (fun z=>bkN xs ow i++[bk1 (getI xs tStage.dflt i) ow]++[((getI xs tStage.dflt i).2.2.2.1,(getI xs tStage.dflt i).2.2.2.2,z,ow)]) hw.2.symm)) trivial),rfl,rfl,rfl⟩⟩
    ·exact absurd c3 (by decide)
   ·conv=>whnf
    refine bI (fun c3=>?_) (fun c3=>?_)
    ·exact absurd c3 (by decide)
    ·conv=>whnf
     refine ⟨i+1,hlt,(by show xs.length - (i+1) < xs.length - i;omega),.same ⟨rfl,rfl,rfl,⟨rfl,rfl,rfl,rfl,slotInt rfl (wrapEq (by show (i:Int)+1=((i+1:Nat):Int);omega) (by omega) (by omega)),trivial⟩,⟨rfl,trivial⟩,rfl,rfl,rfl⟩⟩
  ·simp only [decide_eq_false_iff_not] at c2
   have hie:i=xs.length:=by omega
   subst hie
   conv=>whnf
   exact ⟨[some 4],_,rfl,rfl,rfl,aI (eSeq hr) trivial,rfl,rfl,rfl,fun _=>⟨rfl,rfl,rfl⟩⟩
end Go.AM.YtmohhhbgcehnpaaGreat.Pl
end
