/- TpA, AmMove, AmMapR, AmRen, AmMM, AmFld. -/
import Derived.Test.YtbepaplaahcnkaaGreatPc28
import Derived.Test.YtbepaplaahcnkaaGreatPc29
import Derived.Test.YtbepaplaahcnkaaGreatPc24
import Derived.Test.YtbepaplaahcnkaaGreatPc16

set_option linter.all false
section
namespace Go.AM.YtbepaplaahcnkaaGreat.Tp
open Go.Proofs
open Go.AM.YtbepaplaahcnkaaGreat.Fl Go.AM.YtbepaplaahcnkaaGreat.Re
set_option maxRecDepth 100000
set_option maxHeartbeats 4000000
theorem pickTOk:SpecSound Tryz.prog 7 pickP:=by
 refine soundP (envOf sigNil) Tryz.func7 (c:=body Tryz.f7) rfl (by kernel_rfl) rfl ?_
 intro args out hf hpre
 split at hf <;> try (cases hf;done)
 rename_i c n
 cases hf
 refine ⟨Nat.le_of_ble_eq_true rfl,initI rfl ?_⟩
 refine factInt (t:=0) rfl (fun hc=>?_)
 have hc:=wrap64 hc
 change 0 < n at hpre
 repeat' (first|refine zN ?_|refine zE ?_|refine zP ?_|refine pD ?_|refine zQ ?_|refine zR ?_|refine zW ?_)
 refine condI rfl (fun c1=>?_) (fun c1=>?_)
 ·simp only [decide_eq_true_eq] at c1
  repeat' (first|refine zN ?_|refine zE ?_|refine zP ?_|refine pD ?_|refine zQ ?_|refine zR ?_|refine zW ?_)
  refine endR rfl ?_
  repeat' (first|exact trivial|exact rfl|refine ⟨rfl,?_⟩|refine And.intro ?_ ?_)
  exact pickF_neg hpre c1
 ·simp only [decide_eq_false_iff_not] at c1
  repeat' (first|refine zN ?_|refine zE ?_|refine zP ?_|refine pD ?_|refine zQ ?_|refine zR ?_|refine zW ?_)
  refine endR rfl ?_
  repeat' (first|exact trivial|exact rfl|refine ⟨rfl,?_⟩|refine And.intro ?_ ?_)
  exact pickF_pos hpre c1
def neAt (a b:List Int) (i:Nat):Bool:=!decide (getI a 0 i=getI b 0 i)
def sameL (a b:List Int):Bool:=decide ((a.length:Int)=(b.length:Int))&&!(List.range a.length).any (neAt a b)
def sameTS:Spec:=plain fun
 | [.sl (.int .i64) a,.sl (.int .i64) b]=>outV True (.bool (sameL a b))
 | _=>none
theorem sameTOk:SpecSound Tryz.prog 11 sameTS:=by
 refine soundP (envOf sigNil) Tryz.func11 (c:=body Tryz.f11) rfl (by kernel_rfl) rfl ?_
 intro args out hf hpre
 split at hf <;> try (cases hf;done)
 rename_i a b
 cases hf
 refine ⟨Nat.le_of_ble_eq_true rfl,initI (args:=[.sl tInt a,.sl tInt b]) rfl ?_⟩
 refine factSl (t:=0) (ty:=tInt) rfl (fun hxs=>?_)
 have hmx:List.length (α:=Int) a≤9223372036854775807:=by have:=hxs.1;unfold maxLen at this;exact this
 obtain ⟨r,hr⟩:∃ r,r=sameL a b:=⟨_,rfl⟩
 rw [← hr]
 unfold sameL at hr
 repeat' (first|refine zN ?_|refine zE ?_|refine zP ?_|refine pD ?_|refine zQ ?_|refine zR ?_|refine zW ?_)
 refine condI rfl (fun c1=>?_) (fun c1=>?_)
 ·have c1:decide ((a.length:Int)=(b.length:Int))=false:=decide_eq_false (of_decide_eq_true c1)
  rw [c1] at hr
  repeat' (first|refine zN ?_|refine zE ?_|refine zP ?_|refine pD ?_|refine zQ ?_|refine zR ?_|refine zW ?_)
  refine endR rfl ?_
  repeat' (first|exact trivial|exact rfl|refine ⟨rfl,?_⟩|refine And.intro ?_ ?_)
  exact hr
 have c1:decide ((a.length:Int)=(b.length:Int))=true:=decide_eq_true (Decidable.not_not.mp (of_decide_eq_false c1))
 rw [c1] at hr
 have hlen:a.length=b.length:=by have:=of_decide_eq_true c1;omega
 repeat' (first|refine zN ?_|refine zE ?_|refine zP ?_|refine pD ?_|refine zQ ?_|refine zR ?_|refine zW ?_)
 refine loopI (σ:=Nat) (fun i=>[(5,.int .i64 i)]) (fun i=>[]) (fun i=>i≤List.length (α:=Int) a∧∀ j,j < i→neAt a b j=false) (fun i=>List.length (α:=Int) a - i) 0 rfl (fun _=>rfl) rfl ?_ ?_ ?_
 ·exact ⟨Nat.zero_le _,fun j hj=>by omega⟩
 ·repeat' (first|exact trivial|exact rfl|refine ⟨rfl,?_⟩|refine And.intro ?_ ?_)
 rintro i ⟨hi,hb⟩
 repeat' (first|refine zN ?_|refine zE ?_|refine zP ?_|refine pD ?_|refine zQ ?_|refine zR ?_|refine zW ?_)
 refine condI rfl (fun c2=>?_) (fun c2=>?_)
 ·simp only [decide_eq_true_eq] at c2
  have hil:i < List.length (α:=Int) a:=by omega
  have hil2:i < List.length (α:=Int) b:=by have:List.length (α:=Int) a=List.length (α:=Int) b:=hlen;omega
  have hin:((i:Int)).toNat=i:=by omega
  repeat' (first|refine zN ?_|refine zE ?_|refine zP ?_|refine pD ?_|refine zQ ?_|refine zR ?_|refine zW ?_)
  refine condI rfl (fun c3=>?_) (fun c3=>?_)
  ·have c3:decide (getI a 0 ((i:Int)).toNat≠getI b 0 ((i:Int)).toNat)=true:=c3
   rw [hin] at c3
   have h9:neAt a b i=true:=by unfold neAt;rw [decide_eq_false (of_decide_eq_true c3)];rfl
   rw [rng_yes hil h9] at hr
   repeat' (first|refine zN ?_|refine zE ?_|refine zP ?_|refine pD ?_|refine zQ ?_|refine zR ?_|refine zW ?_)
   refine endR rfl ?_
   repeat' (first|exact trivial|exact rfl|refine ⟨rfl,?_⟩|refine And.intro ?_ ?_)
   exact hr
  ·have c3:decide (getI a 0 ((i:Int)).toNat≠getI b 0 ((i:Int)).toNat)=false:=c3
   rw [hin] at c3
   have h9:neAt a b i=false:=by unfold neAt;rw [decide_eq_true (Decidable.not_not.mp (of_decide_eq_false c3))];rfl
   repeat' (first|refine zN ?_|refine zE ?_|refine zP ?_|refine pD ?_|refine zQ ?_|refine zR ?_|refine zW ?_)
   refine roundI (i+1) rfl ?_ ?_ ?_
   ·refine ⟨by show i+1≤List.length (α:=Int) a;omega,fun j hj=>?_⟩
    by_cases hji:j=i
    ·subst hji;exact h9
    ·exact hb j (by omega)
   ·show List.length (α:=Int) a - (i+1) < List.length (α:=Int) a - i
    omega
   ·repeat' (first|exact trivial|with_reducible exact rfl|refine And.intro ?_ ?_)
    all_goals rfl
 ·simp only [decide_eq_false_iff_not] at c2
  rw [rng_no (fun j hj=>hb j (by show j < i;have:j < List.length (α:=Int) a:=hj;omega))] at hr
  repeat' (first|refine zN ?_|refine zE ?_|refine zP ?_|refine pD ?_|refine zQ ?_|refine zR ?_|refine zW ?_)
  refine endR rfl ?_
  repeat' (first|exact trivial|exact rfl|refine ⟨rfl,?_⟩|refine And.intro ?_ ?_)
  exact hr
def exNx (i:Nat):List Int:=bif decide ((i:Int) < 2) then [(i:Int)+1] else []
def exStep (i:Nat):StepT:=(1,[(i:Int)],10,20,exNx i,-1,0)
def exL (n:Nat):List StepT:=(List.range n).map exStep
def awakeS:Spec:=plain fun
 | []=>outV True (.bool true)
 | _=>none
abbrev shPl:Shp:=.agg [none,none,none,some tStage,some Fl.tWin]
def sigAw:List (Nat × Spec):=[(12,wcheckS),(13,checkS.norm [shPl]),(11,sameTS)]
theorem sigAwOk:SigOk Tryz.prog (look sigAw):=sigCons (sigCons (sigCons sigNil
 Tryz.func11 (by kernel_rfl) (c:=body Tryz.f11) rfl sameTOk)
 Tryz.func13 (by kernel_rfl) (c:=body Tryz.f13) rfl (checkOk.norm _))
 Tryz.func12 (by kernel_rfl) (c:=body Tryz.f12) rfl wcheckOk
theorem aw_check:checkF 2 5 (exL 3) [(0,2,13)]=(3,[0,1,2]):=by decide +kernel
theorem aw_safe:safeF 0 1 5 [(10,20,(1,5),(2,29))] []=true:=by decide +kernel
theorem awakeOk:SpecSound Tryz.prog 4 awakeS:=by
 refine soundP (envOf sigAwOk) Tryz.func4 (c:=body Tryz.f4) rfl (by kernel_rfl) rfl ?_
 intro args out hf hpre
 split at hf <;> try (cases hf;done)
 cases hf
 refine ⟨Nat.le_of_ble_eq_true rfl,initI rfl ?_⟩
 repeat' (first|refine zN ?_|refine zE ?_|refine zP ?_|refine pD ?_|refine zQ ?_|refine zR ?_|refine zW ?_)
 refine loopI (σ:=Nat) (fun i=>[(2,.int .i64 i)]) (fun i=>[(1,.box [.int .i64 2,.int .i64 5,.own 3000,.own 9]),(3000,.seq tStep (exL i)),(9,.seq Fl.tWin [(0,2,13)])]) (fun i=>i≤3) (fun i=>3 - i) 0 rfl (fun _=>rfl) rfl ?_ ?_ ?_
 ·exact Nat.zero_le _
 ·repeat' (first|exact trivial|with_reducible exact rfl|refine And.intro ?_ ?_)
  all_goals rfl
 intro i hi
 repeat' (first|refine zN ?_|refine zE ?_|refine zP ?_|refine pD ?_|refine zQ ?_|refine zR ?_|refine zW ?_)
 refine condI rfl (fun c1=>?_) (fun c1=>?_)
 ·simp only [decide_eq_true_eq] at c1
  have hi3:i < 3:=by omega
  repeat' (first|refine zN ?_|refine zE ?_|refine zP ?_|refine zQ ?_|refine zW ?_)
  refine zR ?_
  repeat' (first|with_reducible refine pN ?_|refine pD ?_|fail)
  repeat with_reducible refine cN ?_
  refine freezeI 16 rfl ?_
  repeat' (first|refine zN ?_|refine zE ?_|refine zP ?_|refine zQ ?_|refine zW ?_)
  refine zR ?_
  repeat' (first|with_reducible refine pN ?_|refine pD ?_|fail)
  repeat with_reducible refine cN ?_
  repeat' (first|with_reducible refine cN ?_|refine zS ?_|refine skipI rfl ?_)
  refine joinC (fun _:Unit=>[]) (fun _=>[(3,.box [.int .i64 1,.sl tInt [(i:Int)],.int .i64 10,.int .i64 20,.own 3100,.int .i64 (-1),.int .i64 0]),(3100,.seq tInt (exNx i))]) (fun _=>True) (fun _=>rfl) ?_ (fun _ _=>?_)
  ·refine condI rfl (fun c2=>?_) (fun c2=>?_)
   ·have c2:decide ((i:Int) < 2)=true:=c2
    repeat' (first|refine zN ?_|refine zE ?_|refine zP ?_|refine pD ?_|refine pC (by (unfold In64;omega)) ?_|refine zQ ?_|refine zR ?_|refine zW ?_)
    refine meetI () rfl trivial ?_
    repeat' (first|exact trivial|exact rfl|refine ⟨rfl,?_⟩|refine And.intro ?_ ?_)
    unfold exNx
    rw [c2]
    rfl
   ·have c2:decide ((i:Int) < 2)=false:=c2
    repeat' (first|refine zN ?_|refine zE ?_|refine zP ?_|refine pD ?_|refine zQ ?_|refine zR ?_|refine zW ?_)
    refine meetI () rfl trivial ?_
    repeat' (first|exact trivial|exact rfl|refine ⟨rfl,?_⟩|refine And.intro ?_ ?_)
    unfold exNx
    rw [c2]
    rfl
  have hel:(exL i).length=i:=by unfold exL;rw [List.length_map,List.length_range]
  repeat' (first|refine zN ?_|refine zE ?_|refine zP ?_|refine pD ?_|refine pC (by first|(rw [hel];omega)|(simp only [hel,List.length_cons,List.length_nil];omega)|(unfold In64;omega)) ?_|refine zQ ?_|refine zR ?_|refine zW ?_)
  refine roundI (i+1) rfl ?_ ?_ ?_
  ·show i+1≤3
   omega
  ·show 3 - (i+1) < 3 - i
   omega
  ·repeat' (first|exact trivial|with_reducible exact rfl|refine And.intro ?_ ?_)
   all_goals first|rfl|(unfold exL;rw [List.range_succ,List.map_append];rfl)
 ·simp only [decide_eq_false_iff_not] at c1
  obtain rfl:i=3:=by omega
  repeat' (first|with_reducible refine cN ?_|refine zS ?_|refine skipI rfl ?_)
  refine freezeI 3000 rfl ?_
  refine freezeI 9 rfl ?_
  repeat' (first|refine zN ?_|refine zE ?_|refine zP ?_|refine zQ ?_|refine zW ?_)
  refine zR ?_
  repeat' (first|with_reducible refine pN ?_|refine pD ?_|fail)
  repeat with_reducible refine cN ?_
  rw [aw_check]
  repeat' (first|refine zN ?_|refine zE ?_|refine zP ?_|refine zQ ?_|refine zW ?_)
  refine zR ?_
  repeat' (first|with_reducible refine pN ?_|refine pD ?_|fail)
  repeat with_reducible refine cN ?_
  repeat' (first|refine zN ?_|refine zE ?_|refine zP ?_|refine zQ ?_|refine zW ?_)
  refine zR ?_
  repeat' (first|with_reducible refine pN ?_|refine pD ?_|fail)
  repeat with_reducible refine cN ?_
  rw [aw_safe]
  repeat' (first|refine zN ?_|refine zE ?_|refine zP ?_|refine pD ?_|refine zQ ?_|refine zR ?_|refine zW ?_)
  refine endR rfl ?_
  repeat' (first|exact trivial|exact rfl|refine ⟨rfl,?_⟩|refine And.intro ?_ ?_)
  trace_state
end Go.AM.YtbepaplaahcnkaaGreat.Tp
end

section
namespace Go.AM
section
variable {P:Program} {C:Ctx} {g:Nat→Gh} {R:Nat→Prop} {a:Act} {w:World} {st:St} {tt:TT} {S:Nat→Option Spec}
theorem eval_put_same {a:Act} {t:Nat} {v:Value} (h:t < a.tmps.size):(a.put (some t) v).eval (.tmp t)=v:=by
 refine getD_of ?_
 simp only [Act.put]
 rw [getElem?_put _ _ _ _ h,if_pos rfl]
theorem Rel.junk (h:Rel C g R st a w) (hgt:st.gt=[]) {d:Nat} (hd:d < st.n) (v:Value):Rel C g R ⟨st.n,(d,⟨[],.junk⟩)::st.slots,st.gt,st.ks,st.rows⟩ (a.put (some d) v) w :=
 h.put d ⟨[],.junk⟩ v st.gt hd (by rw [hgt];rfl) (fun _ h=>h) (fun u x h=>by simp at h) ⟨fun _=>.junk,fun h=>absurd (fun t x h=>by simp at h) h⟩
end
section
variable {tt:TT} {S:Nat→Option Spec} {E:Env PG tt S} {K:List Nat} {c:Code} {st:St} {Q:AExit→St→Prop}
end
section
variable {P:Program} {C:Ctx} {tt:TT} {S:Nat→Option Spec}
end
section
variable {tt:TT} {S:Nat→Option Spec} {E:Env PG tt S} {K:List Nat} {c:Code} {st:St} {Q:AExit→St→Prop}
end
end Go.AM
end

section
namespace Go.AM
open Go.ChangeMaps (setBlock)
section
variable {tt:TT} {S:Nat→Option Spec} {E:Env PG tt S} {K:List Nat} {c:Code} {st:St} {Q:AExit→St→Prop}
theorem Rel.reRow {C:Ctx} {g:Nat→Gh} {R:Nat→Prop} {a:Act} {w:World} (hrel:Rel C g R st a w) {r:Nat} {o o':AObj} (ho:look st.rows r=some o) (hb:∀ b1,Own g w r o' b1→Own g w r o b1)
 (hrow:RowH g (fun r=>mem st.ks r=true) R w r o'):Rel C g R ⟨st.n,st.slots,st.gt,st.ks,(r,o')::st.rows⟩ a w:=by
 have hlook:∀ r' o1,look [(r,o')] r'=some o1→r'=r∧o1=o':=fun r' o1 h=>by
  rw [look_cons] at h
  by_cases e:r=r'
  ·simp [e] at h;exact ⟨e.symm,h.symm⟩
  ·simp [e,look] at h
 refine hrel.gen (fun _ _=>rfl) (fun _ h=>h) (fun _ h=>h) ?_
 have:=hrel.heap.gen (g':=g) (R':=R) (w':=w) [(r,o')] [] (fun r'=>r'=r) (fun r hr=>by simp [mem] at hr) (fun r' o1 h=>.inl ((hlook r' o1 h).1 ▸ hrel.heap.keys r o ho)) (fun r' h=>⟨o',by rw [h,look_cons];simp⟩)
  rfl rfl rfl (Nat.le_refl _) (fun k _=>.inl rfl) (fun _ _=>rfl) (fun _ h=>h)
  (fun b hb=>hrel.heap.rlt b hb) (fun _ h=>.inl h) (fun r' o1 h=>?_) (fun r' o1 b1 h h1=>?_) (fun r1 r2 o1 o2 b h1 h2 _ _=>(hlook r1 o1 h1).1.trans (hlook r2 o2 h2).1.symm)
 ·have h2:=this.1.lists (ks:=st.ks) (rows:=st.rows)
  exact ⟨h2,this.2⟩
 ·obtain ⟨rfl,rfl⟩:=hlook r' o1 h
  have e:(fun r'=>mem st.ks r'=true∨mem [] r'=true)=(fun r'=>mem st.ks r'=true):=by funext r';simp [mem]
  rw [e];exact hrow
 ·obtain ⟨rfl,rfl⟩:=hlook r' o1 h
  have h1:=hb b1 h1
  exact ⟨(hrel.heap.own _ o b1 ho h1).1,.inr ⟨_,o,rfl,ho,h1⟩⟩
theorem MapE_at {R:Nat→Prop} {w:World} {k v:Ty}:∀ {kvs:List (k.El × v.El)} {es:List MapEntry} {j:Nat} {e:MapEntry},MapE R w k v kvs es→es[j]?=some e→∃ p,kvs[j]?=some p∧(∃ us,RelEl R w k p.1 us∧e.key=valOf k us)∧∃ vs,RelEl R w v p.2 vs∧e.val=valOf v vs
 | p::_,_::_,0,_,⟨h1,h2,_⟩,he=>by simp at he;subst he;exact ⟨p,rfl,h1,h2⟩
 | _::_,_::_,j+1,_,⟨_,_,h⟩,he=>by
   obtain ⟨p,h1,h2⟩:=MapE_at (j:=j) h (by simpa using he)
   exact ⟨p,by simpa using h1,h2⟩
 | [],[],_,_,_,he=>by simp at he
 | [],_::_,_,_,h,_=>h.elim
 | _::_,[],_,_,h,_=>h.elim
def MitG.was (D:MitG) (j:Nat):Bool:=match D.es[j]? with
 | some e=>D.seen.contains e.born
 | none=>false
def MitG.left (D:MitG):Nat:=(leftOf D.es D.seen).size
theorem mitI (r:Nat) {m:Nat} {k v:Ty} {kvs:List (k.El × v.El)} {cur:Option (k.El × v.El)} (hr:look st.rows r=some (.mit m k v kvs cur none))
 (x:∀ (D:MitG) (l:List (k.El × v.El)),l.Perm kvs→(∀ j,D.was j=false)→WP E K c ⟨st.n,st.slots,st.gt,st.ks,(r,.mit m k v l cur (some D))::st.rows⟩ Q):WP E K c st Q:=fun hc C g R a w Z hrel hq=>by
 obtain ⟨h1,b,D,h2,h3,h4⟩:=hrel.heap.held r _ hr
 obtain ⟨l,hp,hME⟩:=h4.rel.rel
 refine x D l hp (fun j=>?_) hc C g R a w Z (hrel.reRow hr (fun _ h=>h) ⟨h1,b,D,h2,⟨rfl,hME⟩,⟨h4.it,h4.mp,⟨⟨l,.refl _,hME⟩,h4.rel.lt,h4.rel.nd,KeysDiffer.perm h4.rel.ki hp h4.rel.dk,h4.rel.ki⟩,h4.old,h4.sc,h4.sk,h4.cu⟩⟩) hq
 have h3:D.seen=#[]:=h3
 unfold MitG.was
 split
 ·rw [h3];simp
 ·rfl
def unSt (r:Nat) (st:St):Option St:=match look st.rows r with
 | some (.mit m k v kvs _ _)=>match look st.rows m,Nat.beq m r with
   | some .dead,false=>some ⟨st.n,st.slots,st.gt,st.ks,(m,.map k v kvs)::(r,.dead)::st.rows⟩
   | _,_=>none
 | _=>none
theorem unitI (r:Nat) {z:St} (h:unSt r st=some z) (x:WP E K c z Q):WP E K c st Q:=fun hc C g R a w Z hrel hq=>by
 unfold unSt at h
 split at h <;> try (cases h;done)
 rename_i m k v kvs cur G hr
 split at h <;> try (cases h;done)
 rename_i hm hne
 cases h
 have hne:=beq_ne hne
 obtain ⟨⟨hK,hgm⟩,b,D,h2,_,h4⟩:=hrel.heap.held r _ hr
 have hlk:∀ r' o',look [(m,AObj.map k v kvs),(r,.dead)] r'=some o'→(r'=m∧o'=.map k v kvs)∨(r'=r∧o'=.dead):=fun r' o' h=>by
  rw [look_cons] at h
  by_cases e:m=r'
  ·simp [e] at h;exact .inl ⟨e.symm,h.symm⟩
  ·simp [e] at h
   rw [look_cons] at h
   by_cases e2:r=r'
   ·simp [e2] at h;exact .inr ⟨e2.symm,h.symm⟩
   ·simp [e2,look] at h
 refine x hc C g R a w Z (hrel.gen (fun _ _=>rfl) (fun _ h=>h) (fun _ h=>h) ?_) hq
 have hown:Own g w r (.mit m k v kvs cur G) (g r).b:=.inr rfl
 have:=hrel.heap.gen (g':=g) (R':=R) (w':=w) [(m,.map k v kvs),(r,.dead)] [] (fun r'=>r'=r∨r'=m) (fun r hr=>by simp [mem] at hr)
  (fun r' o1 h=>.inl (by rcases hlk r' o1 h with ⟨e,_⟩|⟨e,_⟩;rw [e];exact hK;rw [e];exact hrel.heap.keys r _ hr))
  (fun r' h=>by
   rw [look_cons]
   by_cases e:m=r'
   ·exact ⟨_,by simp [e];rfl⟩
   ·rcases h with h|h
    ·exact ⟨.dead,by rw [if_neg e,look_cons,if_pos h.symm]⟩
    ·exact absurd h.symm e)
  rfl rfl rfl (Nat.le_refl _) (fun k _=>.inl rfl) (fun _ _=>rfl) (fun _ h=>h)
  (fun b hb=>hrel.heap.rlt b hb) (fun _ h=>.inl h)
  (fun r' o1 h=>by
   rcases hlk r' o1 h with ⟨rfl,rfl⟩|⟨_,rfl⟩
   ·exact ⟨(g r).b,D.es,D.clock,hgm,h4.mp,h4.rel⟩
   ·trivial)
  (fun r' o1 b1 h h1=>by
   rcases hlk r' o1 h with ⟨rfl,rfl⟩|⟨_,rfl⟩
   ·have h1:(g r').v=.map (some b1):=h1
    rw [hgm] at h1
    cases h1
    exact ⟨(hrel.heap.own r _ _ hr hown).1,.inr ⟨r,_,.inl rfl,hr,hown⟩⟩
   ·simp [Own] at h1)
  (fun r1 r2 o1 o2 b h6 h7 h8 h9=>by
   rcases hlk r1 o1 h6 with ⟨e1,_⟩|⟨_,e1⟩
   ·rcases hlk r2 o2 h7 with ⟨e2,_⟩|⟨_,e2⟩
    ·rw [e1,e2]
    ·rw [e2] at h9;simp [Own] at h9
   ·rw [e1] at h8;simp [Own] at h8)
 have h2:=this.1.lists (ks:=st.ks) (rows:=st.rows)
 exact ⟨h2,this.2⟩
theorem nextI {id:Nat} {d1 d2 it:Nat} {y0 y1:TypeId} {p0 p1:String} {e0 e1:Array Edge}
 (hc:c=.region id #[⟨some d1,.next (.tmp it) false,y0,p0,e0,none⟩,⟨some d2,.extract (.tmp d1) 0,y1,p1,e1,none⟩] false)
 {r m:Nat} {k v:Ty} {kvs:List (k.El × v.El)} {cur:Option (k.El × v.El)} {D:MitG} (hx:look st.slots it=some ⟨[],.own r⟩) (hr:look st.rows r=some (.mit m k v kvs cur (some D))) (hgt:st.gt=[])
 (hck:(Nat.blt d1 st.n&&Nat.blt d2 st.n&&!Nat.beq d1 d2)=true)
 {z0:St} {z1:k.El × v.El→MitG→St} (hz0:tidy K ⟨st.n,(d2,⟨[],.bool false⟩)::(d1,⟨[],.junk⟩)::st.slots,st.gt,st.ks,st.rows⟩ (fun s=>some s)=some z0)
 (hz1:∀ y D',tidy K ⟨st.n,(d2,⟨[],.bool true⟩)::(d1,⟨[],.junk⟩)::st.slots,st.gt,st.ks,(r,.mit m k v kvs (some y) (some D'))::st.rows⟩ (fun s=>some s)=some (z1 y D'))
 (k0:(∀ j,j < kvs.length→D.was j=true)→Q .normal z0)
 (k1:∀ (j:Nat) (y:k.El × v.El) (D':MitG),kvs[j]?=some y→D.was j=false→(∀ i,i < kvs.length→(D'.was i=true↔D.was i=true∨i=j))→D'.left < D.left→Q .normal (z1 y D')):WP E K c st Q:=by
 subst hc
 intro hcode C g R a w Z hrel hq
 simp only [Bool.and_eq_true,Bool.not_eq_true',Nat.blt_eq] at hck
 obtain ⟨⟨l0,l1⟩,n01⟩:=hck
 have n01:=beq_ne n01
 obtain ⟨⟨hK,hgm⟩,b,D0,hgr,hD,H⟩:=hrel.heap.held r _ hr
 obtain ⟨hD,hME⟩:D0=D∧MapE R w k v kvs D0.es.toList:=hD
 subst hD
 obtain ⟨vx,hvx,rx⟩:=(hrel.slots it _ hx).1 (fun t x h=>by simp at h)
 have ex:a.eval (.tmp it)=.pointer (some ⟨b,0,none⟩):=by
  cases rx;rw [hgr] at hvx;exact getD_of hvx
 have hlen:=MapE_len hME
 have hwas:∀ j e,D0.es.toList[j]?=some e→D0.was j=D0.seen.contains e.born:=fun j e h=>by
  unfold MitG.was
  rw [← Array.getElem?_toList,h]
 refine wpIn_region ?_
 obtain ⟨ops,hops⟩:∃ ops:Array Oper,ops=#[⟨some d1,.next (.tmp it) false,y0,p0,e0,none⟩,⟨some d2,.extract (.tmp d1) 0,y1,p1,e1,none⟩]:=⟨_,rfl⟩
 rw [← hops]
 have step:∀ (o:Oper) (i:Nat) (rest:List Nat) (a:Act) (w:World),ops[i]?=some o→o.guard=none→o.wpIn (FR E.ro) 0 PG a w (wpOpsIn (FR E.ro) 0 PG ops Z rest) Z→wpOpsIn (FR E.ro) 0 PG ops Z (i::rest) a w:=fun o i rest a w h1 h2 h3=>by
  simp only [wpOpsIn,h1]
  rw [if_pos (by unfold Region.wanted;rw [h2])]
  exact h3
 rw [show List.range ops.size=[0,1] by rw [hops];rfl]
 have hs0:a.tmps.size=st.n:=hrel.size
 have hsp:∀ (a:Act) (d:Nat) (v:Value),(a.put (some d) v).tmps.size=a.tmps.size:=fun a d v=>by simp [Act.put]
 rcases run_next_at (P:=PG) w y0 b (g r).b D0.since D0.c0 D0.seen D0.es D0.clock H.it H.mp H.old H.sc with ⟨h0,hrun⟩|⟨e,he,w1,hal,hrun⟩
 ·obtain ⟨a1,ha1⟩:∃ a1,a1=a.put (some d1) (.tuple #[.bool false]):=⟨_,rfl⟩
  have e1':a1.eval (.tmp d1)=.tuple #[.bool false]:=by rw [ha1,eval_put_same (by rw [hs0];exact l0)]
  have hrel1:=hrel.junk hgt l0 (.tuple #[.bool false])
  rw [← ha1] at hrel1
  have hrel2:=hrel1.put d2 ⟨[],.bool false⟩ (.bool false) st.gt l1 (by show mem st.gt d2=false;rw [hgt];rfl) (fun _ h=>h) (fun u x h=>by cases h) ⟨fun _=>.bool,fun h=>absurd (fun t x h=>by cases h) h⟩
  refine step ⟨some d1,.next (.tmp it) false,y0,p0,e0,none⟩ 0 _ _ _ (by rw [hops];rfl) rfl ?_
  refine opFR (wp_value (v:=.tuple #[.bool false]) (w':=w) (by simp [execOp,ex,hrun]) ?_) rfl
  show wpOpsIn _ _ _ _ _ _ (Act.put _ (some d1) _) _
  rw [← ha1]
  refine step ⟨some d2,.extract (.tmp d1) 0,y1,p1,e1,none⟩ 1 _ _ _ (by rw [hops];rfl) rfl ?_
  refine opFR (wp_value (v:=.bool false) (w':=w) (by simp [execOp,Instr.extract,e1']) ?_) rfl
  simp only [wpOpsIn]
  refine hq C .normal z0 g R _ w (Later.refl C) (k0 fun j hj=>?_) (by
   rw [tidy_eq] at hz0
   obtain rfl:=Option.some.inj hz0
   exact tidy_sound hrel2)
  have hj':j < D0.es.toList.length:=by rw [hlen];exact hj
  rw [hwas j _ (List.getElem?_eq_getElem hj')]
  exact all_seen D0.es D0.seen h0 _ (List.getElem_mem hj')
 ·obtain ⟨hem,hes⟩:=mem_left he
  obtain ⟨j,hj,hje⟩:=List.getElem_of_mem hem
  have hje':D0.es.toList[j]?=some e:=by rw [List.getElem?_eq_getElem hj,hje]
  obtain ⟨y,hy,hyk,hyv⟩:=MapE_at hME hje'
  obtain ⟨D',hD'⟩:∃ D':MitG,D'=⟨D0.es,D0.clock,D0.since,D0.seen.push e.born,D0.clock⟩:=⟨_,rfl⟩
  have hw1:w1.os=w.os∧w1.tape=w.tape∧w1.output=w.output∧w1.heap=w.heap:=by rcases hal with rfl|rfl <;> exact ⟨rfl,rfl,rfl,rfl⟩
  have hrelw:Rel C g R st a w1:=hrel.world hw1.1 hw1.2.1 hw1.2.2.1 (by rw [hw1.2.2.2];exact Nat.le_refl _) (fun k hk=>by rw [hw1.2.2.2])
  obtain ⟨vt,hvt⟩:∃ vt:Value,vt=.tuple #[.bool true,e.key,e.val]:=⟨_,rfl⟩
  rw [← hvt] at hrun
  have hne:b≠(g r).b:=fun e2=>by
   have h1:=H.it
   rw [e2,H.mp] at h1
   cases h1
  have hown:Own g w1 r (.mit m k v kvs cur (some D0)) b:=.inl hgr
  have hblt:b < w1.heap.size:=by rw [hw1.2.2.2];exact (Array.getElem?_eq_some_iff.1 H.it).1
  have hrel1:=hrelw.setO (o':=.mit m k v kvs (some y) (some D')) (ob:=.mapIter (some (g r).b) D0.since (D0.seen.push e.born) D0.clock) hr hown (fun b1 h=>h) (fun hcell=>by
   have hcell':∀ ad:Addr,R ad.block→({ w1 with heap:=w1.heap.setIfInBounds b (.mapIter (some (g r).b) D0.since (D0.seen.push e.born) D0.clock) }:World).cell? ad=w.cell? ad:=fun ad had=>(hcell ad had).trans (cell_of_heap (by rw [hw1.2.2.2]))
   refine ⟨⟨hK,hgm⟩,b,D',hgr,⟨rfl,by rw [hD'];exact MapE_mono (fun _ h=>h) hcell' hME⟩,?_⟩
   rw [hD']
   refine ⟨by simp [Array.getElem?_setIfInBounds,hblt],by simp [Array.getElem?_setIfInBounds,hne,hw1.2.2.2];exact H.mp,MapH_mono (fun _ h=>h) hcell' H.rel,H.old,H.sk,H.sk,fun y' hy'=>?_⟩
   cases hy'
   obtain ⟨us,q1,q2⟩:=hyk
   obtain ⟨vs,q3,q4⟩:=hyv
   exact ⟨rfl,e,hem,by simp,⟨us,RelEl_mono (fun _ h=>h) hcell' q1,q2⟩,vs,RelEl_mono (fun _ h=>h) hcell' q3,q4⟩)
  have hw':setBlock w1 b (.mapIter (some (g r).b) D0.since (D0.seen.push e.born) D0.clock)={ w1 with heap:=w1.heap.setIfInBounds b (.mapIter (some (g r).b) D0.since (D0.seen.push e.born) D0.clock) }:=rfl
  rw [← hw'] at hrel1
  obtain ⟨w2,hw2⟩:∃ w2,w2=setBlock w1 b (.mapIter (some (g r).b) D0.since (D0.seen.push e.born) D0.clock):=⟨_,rfl⟩
  rw [← hw2] at hrel1 hrun
  obtain ⟨a1,ha1⟩:∃ a1,a1=a.put (some d1) vt:=⟨_,rfl⟩
  have e1':a1.eval (.tmp d1)=vt:=by rw [ha1,eval_put_same (by rw [hs0];exact l0)]
  have hrel2:=hrel1.junk hgt l0 vt
  rw [← ha1] at hrel2
  have hrel3:=hrel2.put d2 ⟨[],.bool true⟩ (.bool true) st.gt l1 (by show mem st.gt d2=false;rw [hgt];rfl) (fun _ h=>h) (fun u x h=>by cases h) ⟨fun _=>.bool,fun h=>absurd (fun t x h=>by cases h) h⟩
  refine step ⟨some d1,.next (.tmp it) false,y0,p0,e0,none⟩ 0 _ _ _ (by rw [hops];rfl) rfl ?_
  refine opFR (wp_value (v:=vt) (w':=w2) (by simp [execOp,ex,hrun]) ?_) rfl
  show wpOpsIn _ _ _ _ _ _ (Act.put _ (some d1) _) _
  rw [← ha1]
  refine step ⟨some d2,.extract (.tmp d1) 0,y1,p1,e1,none⟩ 1 _ _ _ (by rw [hops];rfl) rfl ?_
  refine opFR (wp_value (v:=.bool true) (w':=w2) (by simp [execOp,Instr.extract,e1',hvt]) ?_) rfl
  simp only [wpOpsIn]
  have hborn:∀ i e',D0.es.toList[i]?=some e'→(e'.born=e.born↔i=j):=fun i e' hi=>by
   constructor
   ·intro hb2
    have hnd:=H.rel.nd
    have h1:(D0.es.toList.map (·.born))[i]?=some e.born:=by rw [List.getElem?_map,hi];simp [hb2]
    have h2:(D0.es.toList.map (·.born))[j]?=some e.born:=by rw [List.getElem?_map,hje'];rfl
    have hil:i < (D0.es.toList.map (·.born)).length:=(List.getElem?_eq_some_iff.1 h1).1
    exact (List.getElem?_inj hil hnd).1 (h1.trans h2.symm)
   ·rintro rfl
    rw [hje'] at hi
    cases hi
    rfl
  refine hq C .normal (z1 y D') g R _ w2 (Later.refl C) (k1 j y D' hy (by rw [hwas j e hje'];exact hes) (fun i hi=>?_) ?_) (by
   have:=hz1 y D'
   rw [tidy_eq] at this
   obtain h9:=Option.some.inj this
   rw [← h9]
   exact tidy_sound hrel3)
  ·have hi':i < D0.es.toList.length:=by rw [hlen];exact hi
   have hie:=List.getElem?_eq_getElem hi'
   have h1:D'.was i=(D0.seen.push e.born).contains (D0.es.toList[i]).born:=by
    unfold MitG.was
    rw [hD']
    rw [← Array.getElem?_toList,hie]
   rw [h1,hwas i _ hie,← hborn i _ hie]
   simp
  ·unfold MitG.left
   rw [hD']
   exact left_shrinks D0.es D0.seen e he
end
end Go.AM
end

section
namespace Go.AM
mutual
theorem ren_no {p:Nat→Bool} {f:Nat→Nat} (hf:∀ k,p k=true→f k=k):∀ {c:AV},AV.within p c=true→c.ren f=c
 | .int _ _,_=>rfl
 | .bool _,_=>rfl
 | .str _,_=>rfl
 | .sl _ _,_=>rfl
 | .el _ _ _ _,_=>rfl
 | .own _,h=>by simp only [AV.within] at h;simp only [AV.ren,hf _ h]
 | .oel _ _ _ _,h=>by simp only [AV.within] at h;simp only [AV.ren,hf _ h]
 | .part _ _ _,h=>by simp only [AV.within] at h;simp only [AV.ren,hf _ h]
 | .head _ _ _,h=>by simp only [AV.within] at h;simp only [AV.ren,hf _ h]
 | .ptr _ _,h=>by simp only [AV.within] at h;simp only [AV.ren,hf _ h]
 | .agg cs,h=>by simp only [AV.within] at h;simp only [AV.ren,renL_no hf h]
 | .tup cs,h=>by simp only [AV.within] at h;simp only [AV.ren,renL_no hf h]
 | .fn _ cs ds,h=>by
   simp only [AV.within] at h
   split at h
   ·rename_i h1;simp only [AV.ren,renL_no hf h1,renL_no hf h]
   ·cases h
 | .nilsl,_=>rfl
 | .nilptr,_=>rfl
 | .nilfn,_=>rfl
 | .ext _,_=>rfl
 | .junk,_=>rfl
theorem renL_no {p:Nat→Bool} {f:Nat→Nat} (hf:∀ k,p k=true→f k=k):∀ {cs:List AV},withinL p cs=true→renL f cs=cs
 | [],_=>rfl
 | c::r,h=>by
   simp only [withinL] at h
   split at h
   ·rename_i h1;simp only [renL,ren_no hf h1,renL_no hf h]
   ·cases h
end
def noRow (r:Nat):AObj→Bool
 | .box cs=>withinL (fun k=>!Nat.beq k r) cs
 | .map _ _ _=>true
 | .bag _ _=>true
 | _=>false
theorem noRow_ren {o:AObj} {r d:Nat} (h:noRow r o=true):o.ren (reF r d)=o:=by
 cases o <;> simp only [noRow] at h <;> first|(cases h;done)|rfl|skip
 rename_i cs
 simp only [AObj.ren]
 rw [renL_no (fun k hk=>?_) h]
 unfold reF
 rw [show Nat.beq k r=false by simpa using hk]
def reBSt (r d:Nat) (st:St):Option St:=match look st.rows r,mem st.ks d,Nat.blt d 100000 with
 | some o,false,true=>match noRow r o with
   | true=>match st with
     | ⟨n,slots,gt,ks,rows⟩=>forceE (reS r d slots) fun slots=>forceR (reR r d rows) fun rows=>forceO o fun o=>some ⟨n,slots,gt,d::ks,(d,o)::rows⟩
   | false=>none
 | _,_,_=>none
section
variable {P:Program} {tt:TT} {S:Nat→Option Spec} {E:Env P tt S} {K:List Nat} {c b:Code} {st:St} {Q:AExit→St→Prop}
theorem reB_sound {C:Ctx} {g:Nat→Gh} {R:Nat→Prop} {a:Act} {w:World} {r d:Nat} {m:St} (h:reBSt r d st=some m) (hrel:Rel C g R st a w):∃ g',Rel C g' R m a w:=by
 unfold reBSt at h
 split at h <;> try (cases h;done)
 rename_i oo ho hd hlt
 split at h <;> try (cases h;done)
 rename_i hpl
 obtain ⟨n,slots,gt,ks,rows⟩:=st
 simp only [forceE_eq,forceR_eq,forceO_eq,Option.some.injEq] at h
 subst h
 have hk:mem ks r=true:=hrel.heap.keys r _ ho
 have hdr:d≠r:=fun e=>by subst e;rw [hk] at hd;cases hd
 obtain ⟨g',hg'⟩:∃ g':Nat→Gh,g'=fun k=>if k=d then g r else g k:=⟨_,rfl⟩
 have hgd:g' d=g r:=by rw [hg'];simp
 have hgk:∀ k,mem ks k=true→g' k=g k:=fun k hk=>by
  rw [hg']
  have:k≠d:=fun e=>by subst e;rw [hk] at hd;cases hd
  simp [this]
 have hmd:∀ k,mem (d::ks) k=true↔(k=d∨mem ks k=true):=fun k=>by rw [mem_cons];simp only [Bool.or_eq_true,decide_eq_true_eq];exact ⟨fun h=>h.imp Eq.symm id,fun h=>h.imp Eq.symm id⟩
 have hren:∀ k,mem ks k=true→mem (d::ks) (reF r d k)=true∧g' (reF r d k)=g k:=fun k hk=>by
  unfold reF
  cases hb:Nat.beq k r
  ·exact ⟨(hmd k).2 (.inr hk),hgk k hk⟩
  ·rw [beq_eq hb];exact ⟨(hmd d).2 (.inl rfl),hgd⟩
 have hlk:∀ i o,look ((d,oo)::reR r d rows) i=some o→(i=d∧o=oo)∨(i≠d∧i=r∧o=.dead)∨(i≠d∧i≠r∧∃ o0,look rows i=some o0∧o=AObj.ren (reF r d) o0):=fun i o h=>by
  rw [look_cons] at h
  by_cases e:d=i
  ·simp [e] at h;exact .inl ⟨e.symm,h.symm⟩
  ·simp [e] at h
   rcases look_reR h with ⟨h1,h2⟩|⟨h1,h2⟩
   ·exact .inr (.inl ⟨Ne.symm e,h1,h2⟩)
   ·exact .inr (.inr ⟨Ne.symm e,h1,h2⟩)
 have hOwn:∀ i o b,look ((d,oo)::reR r d rows) i=some o→Own g' w i o b→∃ i0 o0,look rows i0=some o0∧Own g w i0 o0 b∧((i=d∧i0=r)∨(i=i0∧i≠r)):=fun i o b h hb=>by
  rcases hlk i o h with ⟨rfl,rfl⟩|⟨_,_,rfl⟩|⟨_,h1,o0,h2,rfl⟩
  ·rw [← noRow_ren (d:=i) hpl,Own_ren hgd] at hb
   exact ⟨r,_,ho,hb,.inl ⟨rfl,rfl⟩⟩
  ·simp [Own] at hb
  ·rw [Own_ren (hgk i (hrel.heap.keys i _ h2))] at hb
   exact ⟨i,o0,h2,hb,.inr ⟨rfl,h1⟩⟩
 refine ⟨g',hrel.size,hrel.defers,fun i e hi=>?_,fun i e hi u x hx=>?_,?_⟩
 ·obtain ⟨e0,h1,rfl⟩:=look_reS hi
  obtain ⟨h2,h3⟩:=hrel.slots i e0 h1
  exact ⟨fun hp=>by obtain ⟨v,h4,h5⟩:=h2 hp;exact ⟨v,h4,RelV_ren hren h5⟩,h3⟩
 ·obtain ⟨e0,h1,rfl⟩:=look_reS hi
  exact hrel.gts i e0 h1 u x hx
 ·have hh:=hrel.heap
  refine ⟨hh.hsize,hh.os,hh.tape,hh.output,hh.frame,hh.rsub,hh.rlt,hh.rnew,fun k hk hm=>?_,fun i o hi=>?_,fun i o hi=>?_,fun i o b hi hb=>?_,fun i j o o' b h1 h2 h3 h4=>?_⟩
  ·rcases (hmd k).1 hm with rfl|hm
   ·have:k < 100000:=by simpa using hlt
    omega
   ·rw [hgk k hm];exact hh.gfix k hk hm
  ·rcases hlk i o hi with ⟨rfl,_⟩|⟨_,rfl,_⟩|⟨_,_,o0,h2,_⟩
   ·exact (hmd _).2 (.inl rfl)
   ·exact (hmd _).2 (.inr hk)
   ·exact (hmd _).2 (.inr (hh.keys _ _ h2))
  ·rcases hlk i o hi with ⟨rfl,rfl⟩|⟨_,_,rfl⟩|⟨_,_,o0,h2,rfl⟩
   ·have:=RowH_ren (K':=fun k=>mem (i::ks) k=true) hren hgd (hh.held r _ ho)
    rwa [noRow_ren hpl] at this
   ·trivial
   ·exact RowH_ren hren (hgk i (hh.keys _ _ h2)) (hh.held i _ h2)
  ·obtain ⟨i0,o0,h1,h2,_⟩:=hOwn i o b hi hb
   exact hh.own i0 o0 b h1 h2
  ·obtain ⟨i0,o0,h5,h6,h7⟩:=hOwn i o b h1 h3
   obtain ⟨j0,o1,h8,h9,h10⟩:=hOwn j o' b h2 h4
   have e:=hh.sep i0 j0 o0 o1 b h5 h8 h6 h9
   subst e
   rcases h7 with ⟨h7,h7'⟩|⟨h7,h7'⟩
   ·rcases h10 with ⟨h10,_⟩|⟨h10,h10'⟩
    ·rw [h7,h10]
    ·exact absurd (h10.trans h7') h10'
   ·rcases h10 with ⟨h10,h10'⟩|⟨h10,_⟩
    ·exact absurd (h7.trans h10') h7'
    ·rw [h7,h10]
theorem renameB (r d:Nat) {m:St} (h:reBSt r d st=some m) (k:WP E K c m Q):WP E K c st Q:=fun hc C g R a w Z hrel hq=>by
 obtain ⟨g',hr⟩:=reB_sound h hrel
 exact k hc C g' R a w Z hr hq
end
end Go.AM
end

section
namespace Go.AM
section
variable {P:Program} {tt:TT} {S:Nat→Option Spec} {E:Env P tt S} {K:List Nat} {c b:Code} {st:St} {Q:AExit→St→Prop}
def takeMSt (r d j:Nat) (st:St):Option St:=match look st.rows r,mem st.ks d,Nat.blt d 100000 with
 | some (.mmap k a b kvss none),false,true=>match kvss[j]? with
   | some x=>some ⟨st.n,st.slots,st.gt,d::st.ks,(d,.map a b x.2)::(r,.mmap k a b kvss (some (j,d)))::st.rows⟩
   | none=>none
 | _,_,_=>none
theorem takeM_sound {C:Ctx} {g:Nat→Gh} {R:Nat→Prop} {a:Act} {w:World} {r d j:Nat} {k x y:Ty} {kvss:List (k.El × List (x.El × y.El))} (ho:look st.rows r=some (.mmap k x y kvss none)) (hd:mem st.ks d=false) (hlt:d < 100000) {z:k.El × List (x.El × y.El)} (hz:kvss[j]?=some z) (hrel:Rel C g R st a w) :
 ∃ g',Rel C g' R ⟨st.n,st.slots,st.gt,d::st.ks,(d,.map x y z.2)::(r,.mmap k x y kvss (some (j,d)))::st.rows⟩ a w:=by
 have hk:mem st.ks r=true:=hrel.heap.keys r _ ho
 have hdr:d≠r:=fun e=>by subst e;rw [hk] at hd;cases hd
 obtain ⟨bm,es,clock,ns,hgr,hb,hM,_⟩:=hrel.heap.held r _ ho
 obtain ⟨q1,q2,q3⟩:=MMapE_iff.1 hM.rel
 have hj:j < kvss.length:=(List.getElem?_eq_some_iff.1 hz).1
 obtain ⟨n,hn⟩:∃ n,ns[j]?=some n:=⟨_,List.getElem?_eq_getElem (by omega)⟩
 obtain ⟨e,he⟩:∃ e,es.toList[j]?=some e:=⟨_,List.getElem?_eq_getElem (by omega)⟩
 have q:=q3 j z e n hz he hn
 obtain ⟨es',cl',q6,q7⟩:=q.inn rfl
 obtain ⟨g',hg'⟩:∃ g':Nat→Gh,g'=updG g d ⟨0,.map (some n)⟩:=⟨_,rfl⟩
 have hgd:g' d=⟨0,.map (some n)⟩:=by rw [hg',updG_same]
 have hgk:∀ k,mem st.ks k=true→g' k=g k:=fun k hk=>by
  rw [hg']
  exact updG_other g _ (fun e=>by subst e;rw [hk] at hd;cases hd)
 have hmd:∀ k,mem (d::st.ks) k=true↔(k=d∨mem st.ks k=true):=fun k=>by rw [mem_cons];simp only [Bool.or_eq_true,decide_eq_true_eq];exact ⟨fun h=>h.imp Eq.symm id,fun h=>h.imp Eq.symm id⟩
 have hown:Own g w r (.mmap k x y kvss none) n:=.inr ⟨bm,es,clock,j,hgr,hb,rfl,e,he,q.val⟩
 have hlk:∀ i o,look ((d,AObj.map x y z.2)::(r,.mmap k x y kvss (some (j,d)))::st.rows) i=some o→(i=d∧o=.map x y z.2)∨(i=r∧o=.mmap k x y kvss (some (j,d)))∨(i≠d∧i≠r∧look st.rows i=some o):=fun i o h=>by
  rw [look_cons] at h
  by_cases e1:d=i
  ·simp [e1] at h;exact .inl ⟨e1.symm,h.symm⟩
  ·simp [e1] at h
   rw [look_cons] at h
   by_cases e2:r=i
   ·simp [e2] at h;exact .inr (.inl ⟨e2.symm,h.symm⟩)
   ·simp [e2] at h;exact .inr (.inr ⟨Ne.symm e1,Ne.symm e2,h⟩)
 have hdisj:¬ Own g' w r (.mmap k x y kvss (some (j,d))) n:=by
  rintro (h|⟨bm',es2,cl2,i,h1,h2,h3,e2,h4,h5⟩)
  ·rw [hgk r hk,hgr] at h
   cases h
   exact q.ne rfl
  ·rw [hgk r hk,hgr] at h1
   cases h1
   rw [hb] at h2
   cases h2
   have hij:i≠j:=fun e3=>by rw [e3] at h3;simp [holeAt] at h3
   obtain ⟨_,n2,_,h6,h7⟩:=MMapE_one hM.rel h4
   have h8:=h7.val
   rw [h5] at h8
   cases h8
   have hil:i < ns.length:=(List.getElem?_eq_some_iff.1 h6).1
   exact hij ((List.getElem?_inj hil hM.sep).1 (h6.trans hn.symm))
 have hOwn:∀ i o b,look ((d,AObj.map x y z.2)::(r,.mmap k x y kvss (some (j,d)))::st.rows) i=some o→Own g' w i o b→∃ i0 o0,look st.rows i0=some o0∧Own g w i0 o0 b∧((i=d∧i0=r∧b=n)∨(i=i0∧(i=r→b≠n))):=fun i o b h hb1=>by
  rcases hlk i o h with ⟨rfl,rfl⟩|⟨rfl,rfl⟩|⟨h0,h1,h2⟩
  ·have hb1:(g' i).v=.map (some b):=hb1
   rw [hgd] at hb1
   cases hb1
   exact ⟨r,_,ho,hown,.inl ⟨rfl,rfl,rfl⟩⟩
  ·have hne:b≠n:=fun e3=>hdisj (e3 ▸ hb1)
   refine ⟨i,_,ho,?_,.inr ⟨rfl,fun _=>hne⟩⟩
   rcases hb1 with h|⟨bm',es2,cl2,i2,h1,h2,h3,h4⟩
   ·rw [hgk i hk] at h;exact .inl h
   ·rw [hgk i hk] at h1;exact .inr ⟨bm',es2,cl2,i2,h1,h2,rfl,h4⟩
  ·refine ⟨i,o,h2,?_,.inr ⟨rfl,fun e3=>absurd e3 h1⟩⟩
   exact (Own_mono (g:=g) (g':=g') (w:=w) (w':=w) (hgk i (hrel.heap.keys i _ h2)) (fun _ _=>rfl) b).1 hb1
 refine ⟨g',hrel.gen hgk (fun k hk=>(hmd k).2 (.inr hk)) (fun _ h=>h) ⟨?_,fun _ _=>rfl⟩⟩
 have hh:=hrel.heap
 refine ⟨hh.hsize,hh.os,hh.tape,hh.output,hh.frame,hh.rsub,hh.rlt,hh.rnew,fun k hk hm=>?_,fun i o hi=>?_,fun i o hi=>?_,fun i o b hi hb=>?_,fun i1 i2 o o' b h1 h2 h3 h4=>?_⟩
 ·rcases (hmd k).1 hm with rfl|hm
  ·omega
  ·rw [hgk k hm];exact hh.gfix k hk hm
 ·rcases hlk i o hi with ⟨rfl,_⟩|⟨rfl,_⟩|⟨_,_,h2⟩
  ·exact (hmd _).2 (.inl rfl)
  ·exact (hmd _).2 (.inr hk)
  ·exact (hmd _).2 (.inr (hh.keys _ _ h2))
 ·rcases hlk i o hi with ⟨rfl,rfl⟩|⟨rfl,rfl⟩|⟨_,_,h2⟩
  ·exact ⟨n,es',cl',by rw [hgd],q6,q7⟩
  ·refine ⟨bm,es,clock,ns,by rw [hgk i hk];exact hgr,hb,⟨?_,hM.lt,hM.nd,hM.sep⟩,fun j' d' h=>?_⟩
   ·refine MMapE_iff.2 ⟨q1,q2,fun j' x' e' n' hx he hn=>?_⟩
    have q:=q3 j' x' e' n' hx he hn
    exact ⟨q.key,q.val,q.ne,fun _=>q.inn rfl⟩
   ·cases h
    exact ⟨hj,(hmd _).2 (.inl rfl),n,hn,by rw [hgd]⟩
  ·exact RowH_mono (fun k hk=>hgk k hk) (hgk i (hh.keys _ _ h2)) (fun k hk=>(hmd k).2 (.inr hk)) (fun _ h=>h) (fun _ _=>rfl) (fun _ _=>rfl) ⟨rfl,rfl,rfl,Nat.le_refl _⟩ (hh.held i _ h2)
 ·obtain ⟨i0,o0,h1,h2,_⟩:=hOwn i o b hi hb
  exact hh.own i0 o0 b h1 h2
 ·obtain ⟨j1,o1,h5,h6,h7⟩:=hOwn i1 o b h1 h3
  obtain ⟨j2,o2,h8,h9,h10⟩:=hOwn i2 o' b h2 h4
  have e:=hh.sep j1 j2 o1 o2 b h5 h8 h6 h9
  subst e
  rcases h7 with ⟨h7,h7',h7''⟩|⟨h7,h7'⟩
  ·rcases h10 with ⟨h10,_⟩|⟨h10,h10'⟩
   ·rw [h7,h10]
   ·exact absurd h7'' (h10' (h10.trans h7'))
  ·rcases h10 with ⟨h10,h10',h10''⟩|⟨h10,_⟩
   ·exact absurd h10'' (h7' (h7.trans h10'))
   ·rw [h7,h10]
theorem takeM (r d j:Nat) {m:St} (h:takeMSt r d j st=some m) (k:WP E K c m Q):WP E K c st Q:=fun hc C g R a w Z hrel hq=>by
 unfold takeMSt at h
 split at h <;> try (cases h;done)
 rename_i k0 x y kvss ho hd hlt
 split at h <;> try (cases h;done)
 rename_i z hz
 cases h
 obtain ⟨g',hr⟩:=takeM_sound ho hd (by simpa using hlt) hz hrel
 exact k hc C g' R a w Z hr hq
def backMSt (r:Nat) (st:St):Option St:=match look st.rows r with
 | some (.mmap k a b kvss (some (j,d)))=>match look st.rows d,Nat.beq d r,kvss[j]? with
   | some (.map a' b' l),false,some x=>match Ty.same a' a,Ty.same b' b with
     | some ⟨h⟩,some ⟨h'⟩=>castM h h' l fun l=>some ⟨st.n,st.slots,st.gt,st.ks,(r,.mmap k a b (kvss.set j (x.1,l)) none)::(d,.dead)::st.rows⟩
     | _,_=>none
   | _,_,_=>none
 | _=>none
theorem backM (r:Nat) {m:St} (h:backMSt r st=some m) (kk:WP E K c m Q):WP E K c st Q:=fun hc C g R a w Z hrel hq=>by
 unfold backMSt at h
 split at h <;> try (cases h;done)
 rename_i k x y kvss j d ho
 split at h <;> try (cases h;done)
 rename_i x' y' l z hod hdr hz
 split at h <;> try (cases h;done)
 rename_i hx hy _ _
 subst hx hy
 cases h
 have hdr:d≠r:=beq_ne hdr
 obtain ⟨bm,es,clock,ns,hgr,hb,hM,hh⟩:=hrel.heap.held r _ ho
 obtain ⟨hj,hkd,n,hn,hgd⟩:=hh j d rfl
 obtain ⟨n',es2,cl2,hgd',hb2,hM2⟩:=hrel.heap.held d _ hod
 rw [hgd] at hgd'
 cases hgd'
 obtain ⟨q1,q2,q3⟩:=MMapE_iff.1 hM.rel
 have:=hrel.two (g':=g) (d:=r) (r:=d) (o':=.mmap k x' y' (kvss.set j (z.1,l)) none) (new:=[]) (w':=w) (Ne.symm hdr) (fun _ _=>rfl) (fun r h=>by simp [mem] at h) (.inl (hrel.heap.keys r _ ho)) hkd rfl rfl rfl (Nat.le_refl _) (fun _ _=>.inl rfl) (fun _=>?_) (fun b hb1=>?_)
 ·exact kk hc C g R a w Z this hq
 ·refine ⟨bm,es,clock,ns,hgr,hb,⟨?_,hM.lt,hM.nd,hM.sep⟩,fun j' d' h=>by cases h⟩
  refine MMapE_iff.2 ⟨by simp [q1],by simp [q2],fun i u e m' hu he hm'=>?_⟩
  rw [List.getElem?_set] at hu
  by_cases hij:j=i
  ·subst hij
   rw [if_pos rfl,if_pos hj] at hu
   cases hu
   have q:=q3 j z e m' hz he hm'
   rw [hn] at hm'
   cases hm'
   exact ⟨q.key,q.val,q.ne,fun _=>⟨es2,cl2,hb2,hM2⟩⟩
  ·rw [if_neg hij] at hu
   have q:=q3 i u e m' hu he hm'
   refine ⟨q.key,q.val,q.ne,fun _=>q.inn ?_⟩
   simp only [holeAt,Nat.zero_add]
   cases hq:Nat.beq i j
   ·rfl
   ·exact absurd (beq_eq hq).symm hij
 ·have sol:∀ {q:Nat} {o:AObj},(q=r∨q=d)→look st.rows q=some o→Own g w q o b→¬ R b∧(w.heap.size≤b∨∃ q o,(q=r∨q=d)∧look st.rows q=some o∧Own g w q o b):=fun hq h1 h2=>⟨(hrel.heap.own _ _ b h1 h2).1,.inr ⟨_,_,hq,h1,h2⟩⟩
  rcases hb1 with h|⟨bm',es',cl',i,h1,h2,_,h4⟩
  ·exact sol (.inl rfl) ho (.inl h)
  ·by_cases hij:i=j
   ·subst hij
    rw [hgr] at h1
    cases h1
    rw [hb] at h2
    cases h2
    obtain ⟨e,h5,h6⟩:=h4
    obtain ⟨_,n2,_,h7,h8⟩:=MMapE_one hM.rel h5
    rw [hn] at h7
    cases h7
    have:=h8.val
    rw [h6] at this
    cases this
    exact sol (.inr rfl) hod hgd
   ·refine sol (.inl rfl) ho (.inr ⟨bm',es',cl',i,h1,h2,?_,h4⟩)
    simp only [holeAt]
    cases hq:Nat.beq i j
    ·rfl
    ·exact absurd (beq_eq hq) hij
end
section
variable {tt:TT} {S:Nat→Option Spec} {E:Env PG tt S} {K:List Nat} {c b:Code} {st:St} {Q:AExit→St→Prop}
theorem next0I {id:Nat} {d1 d2 it:Nat} {y0 y1:TypeId} {p0 p1:String} {e0 e1:Array Edge}
 (hc:c=.region id #[⟨some d1,.next (.tmp it) false,y0,p0,e0,none⟩,⟨some d2,.extract (.tmp d1) 0,y1,p1,e1,none⟩] false)
 {r:Nat} (hx:look st.slots it=some ⟨[],.own r⟩) (hr:look st.rows r=some .mit0) (hgt:st.gt=[])
 (hck:(Nat.blt d1 st.n&&Nat.blt d2 st.n&&!Nat.beq d1 d2)=true)
 {z0:St} (hz0:tidy K ⟨st.n,(d2,⟨[],.bool false⟩)::(d1,⟨[],.junk⟩)::st.slots,st.gt,st.ks,st.rows⟩ (fun s=>some s)=some z0)
 (k0:Q .normal z0):WP E K c st Q:=by
 subst hc
 intro hcode C g R a w Z hrel hq
 simp only [Bool.and_eq_true,Bool.not_eq_true',Nat.blt_eq] at hck
 obtain ⟨⟨l0,l1⟩,n01⟩:=hck
 have n01:=beq_ne n01
 obtain ⟨b,since,seen,c0,hgr,hit⟩:=hrel.heap.held r _ hr
 obtain ⟨vx,hvx,rx⟩:=(hrel.slots it _ hx).1 (fun t x h=>by simp at h)
 have ex:a.eval (.tmp it)=.pointer (some ⟨b,0,none⟩):=by
  cases rx;rw [hgr] at hvx;exact getD_of hvx
 refine wpIn_region ?_
 obtain ⟨ops,hops⟩:∃ ops:Array Oper,ops=#[⟨some d1,.next (.tmp it) false,y0,p0,e0,none⟩,⟨some d2,.extract (.tmp d1) 0,y1,p1,e1,none⟩]:=⟨_,rfl⟩
 rw [← hops]
 have step:∀ (o:Oper) (i:Nat) (rest:List Nat) (a:Act) (w:World),ops[i]?=some o→o.guard=none→o.wpIn (FR E.ro) 0 PG a w (wpOpsIn (FR E.ro) 0 PG ops Z rest) Z→wpOpsIn (FR E.ro) 0 PG ops Z (i::rest) a w:=fun o i rest a w h1 h2 h3=>by
  simp only [wpOpsIn,h1]
  rw [if_pos (by unfold Region.wanted;rw [h2])]
  exact h3
 rw [show List.range ops.size=[0,1] by rw [hops];rfl]
 have hs0:a.tmps.size=st.n:=hrel.size
 have hrun:(Instr.next (.pointer (some ⟨b,0,none⟩)) false y0).run PG w=.ok (.tuple #[.bool false]) w:=by
  simp [Instr.next,getObj,Sem.run,hit]
 obtain ⟨a1,ha1⟩:∃ a1,a1=a.put (some d1) (.tuple #[.bool false]):=⟨_,rfl⟩
 have e1':a1.eval (.tmp d1)=.tuple #[.bool false]:=by rw [ha1,eval_put_same (by rw [hs0];exact l0)]
 have hrel1:=hrel.junk hgt l0 (.tuple #[.bool false])
 rw [← ha1] at hrel1
 have hrel2:=hrel1.put d2 ⟨[],.bool false⟩ (.bool false) st.gt l1 (by show mem st.gt d2=false;rw [hgt];rfl) (fun _ h=>h) (fun u x h=>by cases h) ⟨fun _=>.bool,fun h=>absurd (fun t x h=>by cases h) h⟩
 refine step ⟨some d1,.next (.tmp it) false,y0,p0,e0,none⟩ 0 _ _ _ (by rw [hops];rfl) rfl ?_
 refine opFR (wp_value (v:=.tuple #[.bool false]) (w':=w) (by simp [execOp,ex,hrun]) ?_) rfl
 show wpOpsIn _ _ _ _ _ _ (Act.put _ (some d1) _) _
 rw [← ha1]
 refine step ⟨some d2,.extract (.tmp d1) 0,y1,p1,e1,none⟩ 1 _ _ _ (by rw [hops];rfl) rfl ?_
 refine opFR (wp_value (v:=.bool false) (w':=w) (by simp [execOp,Instr.extract,e1']) ?_) rfl
 simp only [wpOpsIn]
 exact hq C .normal z0 g R _ w (Later.refl C) k0 (by
  rw [tidy_eq] at hz0
  obtain rfl:=Option.some.inj hz0
  exact tidy_sound hrel2)
end
end Go.AM
end

section
set_option maxRecDepth 10000
namespace Go.AM
section
variable {tt:TT} {S:Nat→Option Spec} {E:Env PG tt S} {K:List Nat} {c:Code} {st:St} {Q:AExit→St→Prop}
end
end Go.AM
end
