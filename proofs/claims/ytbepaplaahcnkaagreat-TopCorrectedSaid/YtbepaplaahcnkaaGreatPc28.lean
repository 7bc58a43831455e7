/- CaT, CaU, ReF, ReL, GrF, GrG, GrH. -/
import Derived.Test.YtbepaplaahcnkaaGreatPc24
import Derived.Test.YtbepaplaahcnkaaGreatPc20
import Derived.Test.YtbepaplaahcnkaaGreatPc27
import Derived.Test.YtbepaplaahcnkaaGreatPc21

set_option linter.all false
section
namespace Go.AM.YtbepaplaahcnkaaGreat
open Go.Proofs
def tlB (b:Bk.El):Int:=b.1
def stB (b:Bk.El):Int:=b.2.1
def enB (b:Bk.El):Int:=b.2.2.1
def owB (b:Bk.El):Int:=b.2.2.2
structure GoodB (b:Bk.El):Prop where
 t0:0≤tlB b
 t1:tlB b < 60
 s0:0≤stB b
 se:stB b < enB b
 e1:enB b≤1000000
 o0:1≤owB b
 o1:owB b≤1000000
def meet (a b:Bk.El):Prop:=stB a < enB b∧stB b < enB a
structure GoodL (t:Nat) (l:List Bk.El):Prop where
 all:∀ b∈l,GoodB b∧tlB b=t
 ord:l.Pairwise fun a b=>enB a≤stB b
theorem GoodL.sorted {t:Nat} {l:List Bk.El} (h:GoodL t l):SortedB l:=fun i j hij hj=>by
 have:=List.pairwise_iff_getElem.1 h.ord i j (by omega) hj hij
 have h1:=(h.all l[i] (List.getElem_mem _)).1.se
 show startB (getI l Bk.dflt i)≤startB (getI l Bk.dflt j)
 have e1:getI l Bk.dflt i=l[i]:=by simp [getI,List.getD,List.getElem?_eq_getElem (show i < l.length by omega)]
 have e2:getI l Bk.dflt j=l[j]:=by simp [getI,List.getD,List.getElem?_eq_getElem hj]
 rw [e1,e2]
 show stB l[i]≤stB l[j]
 omega
structure CalG (xss:List (List Bk.El)):Prop where
 len:xss.length=60
 each:∀ t,t < 60→GoodL t (getI xss [] t)
def inC (xss:List (List Bk.El)) (b:Bk.El):Prop:=b∈toolL xss (tlB b)
theorem CalG.sorted {xss:List (List Bk.El)} (h:CalG xss):CalS xss:=fun xs hx=>by
 obtain ⟨i,hi,rfl⟩:=List.getElem_of_mem hx
 have:=(h.each i (by rw [← h.len];exact hi)).sorted
 rwa [show getI xss [] i=xss[i] by simp [getI,List.getD,List.getElem?_eq_getElem hi]] at this
theorem CalG.tool {xss:List (List Bk.El)} (h:CalG xss) {t:Int} (h0:0≤t) (h1:t < 60):GoodL t.toNat (toolL xss t):=h.each t.toNat (by omega)
theorem CalG.good {xss:List (List Bk.El)} (h:CalG xss) {b:Bk.El} (hb:inC xss b) (h0:0≤tlB b) (h1:tlB b < 60):GoodB b:=((h.tool h0 h1).all b hb).1
end Go.AM.YtbepaplaahcnkaaGreat
end

section
namespace Go.AM.YtbepaplaahcnkaaGreat
open Go.Proofs
set_option maxRecDepth 100000
set_option maxHeartbeats 4000000
end Go.AM.YtbepaplaahcnkaaGreat
end

section
namespace Go.AM.YtbepaplaahcnkaaGreat.Re
open Go.Proofs
set_option maxRecDepth 100000
set_option maxHeartbeats 4000000
end Go.AM.YtbepaplaahcnkaaGreat.Re
end

section
namespace Go.AM.YtbepaplaahcnkaaGreat.Re
open Go.Proofs
set_option maxRecDepth 100000
set_option maxHeartbeats 4000000
def cloneIN:Spec:=plain fun
 | [.ext (.nl (.int .i64))]=>some ⟨True,.own 0,[.seq tInt []],false⟩
 | _=>none
theorem cloneINOk:SpecSound Tryz.prog 147 cloneIN:=by
 refine soundP (envOf sigNil) Tryz.func147 (c:=body Tryz.f147) rfl (by kernel_rfl) rfl ?_
 intro args out hf hpre
 split at hf <;> try (cases hf;done)
 cases hf
 refine ⟨Nat.le_of_ble_eq_true rfl,initI rfl ?_⟩
 repeat' (first|refine zN ?_|refine zE ?_|refine zP ?_|refine pD ?_|refine zQ ?_|refine zR ?_|refine zW ?_)
 refine condT rfl ?_
 repeat' (first|refine zN ?_|refine zE ?_|refine zP ?_|refine pD ?_|refine zQ ?_|refine zR ?_|refine zW ?_)
 refine endR rfl ?_
 repeat' (first|exact trivial|exact rfl|refine ⟨rfl,?_⟩|refine And.intro ?_ ?_)
def cloneIM:Spec:=plain fun
 | [.ext (.nn (.int .i64) xs)]=>some ⟨xs.length * 8≤140737488355328,.own 0,[.seq tInt xs],false⟩
 | _=>none
theorem cloneIMOk:SpecSound Tryz.prog 147 cloneIM:=by
 refine soundP (envOf sigNil) Tryz.func147 (c:=body Tryz.f147) rfl (by kernel_rfl) rfl ?_
 intro args out hf hpre
 split at hf <;> try (cases hf;done)
 rename_i xs
 cases hf
 refine ⟨Nat.le_of_ble_eq_true rfl,initI (args:=[.ext (.nn tInt xs)]) rfl ?_⟩
 change xs.length * 8≤140737488355328 at hpre
 repeat' (first|refine zN ?_|refine zE ?_|refine zP ?_|refine pD ?_|refine zQ ?_|refine zR ?_|refine zW ?_)
 refine condF rfl ?_
 repeat' (first|refine zN ?_|refine zE ?_|refine zP ?_|refine pD ?_|refine pC (by first|exact hpre|(simp;omega)) ?_|refine zQ ?_|refine zR ?_|refine zW ?_)
 refine endR rfl ?_
 repeat' (first|exact trivial|exact rfl|refine ⟨rfl,?_⟩|refine And.intro ?_ ?_)
def cloneIS:Spec:=plain fun
 | [.sl (.int .i64) xs]=>some ⟨xs.length * 8≤140737488355328,.own 0,[.seq tInt xs],false⟩
 | _=>none
theorem cloneIOk:SpecSound Tryz.prog 147 cloneIS:=by
 intro args rows out hf hpre hr w0 g0 R0 vals h1 h2 h3 h4 h5
 unfold cloneIS plain at hf
 dsimp only at hf
 split at hf <;> try (cases hf;done)
 rename_i xs
 cases hf
 cases h5 with
 | cons h5 h6 =>
 cases h6
 cases h5 with
 | sl hrd =>
 obtain ⟨a,cap,rfl,hc1,hc2,hc3,hc4⟩:=hrd
 cases a with
 | none =>
   obtain rfl:xs=[]:=by
    cases xs with
    | nil=>rfl
    | cons x r=>obtain ⟨_,_,h,_⟩:=hc4 (by simp);cases h
   exact cloneINOk [.ext (.nl tInt)] rows _ rfl trivial (fun _=>hr rfl) w0 g0 R0 _ h1 h2 h3 h4 (.cons (.ext ⟨cap,rfl,hc2⟩) .nil)
 | some a =>
   exact cloneIMOk [.ext (.nn tInt xs)] rows _ rfl hpre (fun _=>hr rfl) w0 g0 R0 _ h1 h2 h3 h4 (.cons (.ext ⟨⟨some a,cap,rfl,hc1,hc2,hc3,hc4⟩,a,_,_,rfl⟩) .nil)
end Go.AM.YtbepaplaahcnkaaGreat.Re
end

section
namespace Go.AM.YtbepaplaahcnkaaGreat.Fl
open Go.Proofs
set_option maxRecDepth 100000
set_option maxHeartbeats 4000000
def waysS:Spec:=⟨true,fun args rows=>match args,rows with
 | [.agg [.int .i64 mn,.int .i64 mx,.sl (.pair (.int .i64) (.pair (.slice (.int .i64)) (.pair (.int .i64) (.pair (.int .i64) (.pair (.slice (.int .i64)) (.pair (.int .i64) (.int .i64))))))) ss,.sl (.pair (.int .i64) (.pair (.int .i64) (.int .i64))) ws],.int .i64 fr],[] =>
   some ⟨validF mn mx ss ws=true∧(0≤fr∧fr < ss.length),.own 0,[.seq (.opt tWay) (waysF mn ss fr)],true⟩
 | _,_=>none⟩
def sigWays:List (Nat × Spec):=[(180,add1S),(179,ordS),(147,Re.cloneIS)]
theorem sigWaysOk:SigOk Tryz.prog (look sigWays):=sigCons (sigCons (sigCons sigNil
 Tryz.func147 (by kernel_rfl) (c:=body Tryz.f147) rfl Re.cloneIOk)
 Tryz.func179 (by kernel_rfl) (c:=body Tryz.f179) rfl ordOk)
 Tryz.func180 (by kernel_rfl) (c:=body Tryz.f180) rfl add1Ok
theorem some_and {α:Type} {y:Option α} {b:Bool} (h:(!y.isNone&&b)=true):y.isSome=true:=by cases y <;> simp_all
theorem waysOk:SpecSound Tryz.prog 146 waysS:=by
 refine soundR (envOf sigWaysOk) Tryz.func146 (c:=body Tryz.f146) rfl (by kernel_rfl) rfl ?_
 intro args rows out hf hpre
 split at hf <;> try (cases hf;done)
 rename_i mn mx ss ws fr
 cases hf
 refine ⟨Nat.le_of_ble_eq_true rfl,initI (args:=[.agg [.int .i64 mn,.int .i64 mx,.sl tStep ss,.sl tWin ws],.int .i64 fr]) (rows:=[]) rfl ?_⟩
 obtain ⟨hv,hf0,hf1⟩:=hpre
 have F:=flow_sm hv
 have hn2:=F.n2
 have hstart:∀ n∈aftL (getI ss tStep.dflt fr.toNat).2.2.2.2.2.1 (getI ss tStep.dflt fr.toNat).2.2.2.2.1,0≤n∧n < ((List.replicate ss.length (none:Option WayT)).length:Nat):=fun n hn=>by
  have:=after_in (F.st _ (fl_mem (d:=tStep.dflt) (show fr.toNat < ss.length by omega))) n hn
  rw [List.length_replicate];exact this
 repeat' (first|refine zN ?_|refine zE ?_|refine zP ?_|refine pD ?_|refine pC (by first|exact hstart|omega) ?_|refine zQ ?_|refine zR ?_|refine zW ?_)
 obtain ⟨W,hW⟩:∃ W,W=waysF mn ss fr:=⟨_,rfl⟩
 rw [← hW]
 unfold waysF at hW
 obtain ⟨hs1,hs2⟩:=start_ok F fr
 refine loopI (σ:=Nat × List (Option WayT) × List Bool) (fun s=>[]) (fun s=>[(15,.seq (.opt tWay) s.2.1),(19,.seq .bool s.2.2)]) (fun s=>((s.2.1.length=ss.length∧s.2.2.length=ss.length)∧s.2.2.count true=s.1)∧wayOk s.1 s.2.1∧W=wLoop mn ss (ss.length+1 - s.1) s.2.1 s.2.2) (fun s=>ss.length+1 - s.1) (0,startW mn ss fr,List.replicate ss.length false) rfl (fun _=>rfl) rfl ?_ ?_ ?_
 ·exact ⟨⟨⟨hs1,List.length_replicate⟩,by simp [List.count_replicate]⟩,hs2,hW⟩
 ·repeat' (first|exact trivial|with_reducible exact rfl|refine And.intro ?_ ?_)
  all_goals rfl
 rintro ⟨k,out,done⟩ ⟨⟨⟨hol,hdl⟩,hcnt⟩,hok,hWk⟩
 dsimp only at hol hdl hcnt hok hWk ⊢
 have hk:k≤ss.length:=by rw [← hcnt,← hdl];exact List.count_le_length
 rw [show ss.length+1 - k=(ss.length - k)+1 by omega] at hWk
 unfold wLoop at hWk
 rw [hol] at hWk
 repeat' (first|refine zN ?_|refine zE ?_|refine zP ?_|refine pD ?_|refine zQ ?_|refine zR ?_|refine zW ?_)
 refine loopI (σ:=Nat) (fun i=>[(33,.int .i64 i),(9,.int .i64 (pickW out done i))]) (fun i=>[]) (fun i=>i≤ss.length) (fun i=>ss.length - i) 0 rfl (fun _=>rfl) rfl ?_ ?_ ?_
 ·exact Nat.zero_le _
 ·repeat' (first|exact trivial|exact rfl|refine ⟨rfl,?_⟩|refine And.intro ?_ ?_)
 intro i hi
 repeat' (first|refine zN ?_|refine zE ?_|refine zP ?_|refine pD ?_|refine zQ ?_|refine zR ?_|refine zW ?_)
 refine condI rfl (fun c1=>?_) (fun c1=>?_)
 ·simp only [decide_eq_true_eq] at c1
  have hil:i < ss.length:=by omega
  have hin:((i:Int)).toNat=i:=by omega
  have hpk:=pickW_spec (out:=out) (done:=done) i
  have hge:∀ h:decide (pickW out done i < 0)=false,0≤pickW out done i∧pickW out done i < out.length∧(getI out none (pickW out done i).toNat).isSome=true:=fun h=>by
   rcases hpk with h1|⟨a,h1,h2,h3,_⟩
   ·rw [h1] at h;cases h
   ·rw [h1];exact ⟨by omega,by omega,h3⟩
  repeat' (first|refine zN ?_|refine zE ?_|refine zP ?_|refine pD ?_|refine pC (by first|exact fun h _=>some_and h|exact fun _ h=>(hge h).1|exact fun _ h=>(hge h).2.1|exact fun _ h=>(hge h).2.2|(intro _ h;have:=hge h;omega)|(intros;exact True.intro)|omega) ?_|refine zQ ?_|refine zR ?_|refine zW ?_)
  have hsucc:pickW out done (i+1)=bif (!(getI out none i).isNone&&!getI done false i)&&(decide (pickW out done i < 0)||decide (ordF ((getI out none i).getD w0) ((getI out none (pickW out done i).toNat).getD w0) < 0)) then (i:Int) else pickW out done i:=rfl
  refine condI rfl (fun c2=>?_) (fun c2=>?_)
  ·simp only [hin] at c2
   have c2:((!(getI out none i).isNone&&!getI done false i)&&(decide (pickW out done i < 0)||decide (ordF ((getI out none i).getD w0) ((getI out none (pickW out done i).toNat).getD w0) < 0)))=true:=c2
   rw [c2] at hsucc
   repeat' (first|refine zN ?_|refine zE ?_|refine zP ?_|refine pD ?_|refine zQ ?_|refine zR ?_|refine zW ?_)
   refine roundI (i+1) rfl ?_ ?_ ?_
   ·show i+1≤ss.length
    omega
   ·show ss.length - (i+1) < ss.length - i
    omega
   ·repeat' (first|exact trivial|with_reducible exact rfl|refine And.intro ?_ ?_)
    all_goals (first|rfl|exact hsucc)
  ·simp only [hin] at c2
   have c2:((!(getI out none i).isNone&&!getI done false i)&&(decide (pickW out done i < 0)||decide (ordF ((getI out none i).getD w0) ((getI out none (pickW out done i).toNat).getD w0) < 0)))=false:=c2
   rw [c2] at hsucc
   repeat' (first|refine zN ?_|refine zE ?_|refine zP ?_|refine pD ?_|refine zQ ?_|refine zR ?_|refine zW ?_)
   refine roundI (i+1) rfl ?_ ?_ ?_
   ·show i+1≤ss.length
    omega
   ·show ss.length - (i+1) < ss.length - i
    omega
   ·repeat' (first|exact trivial|with_reducible exact rfl|refine And.intro ?_ ?_)
    all_goals (first|rfl|exact hsucc)
 ·simp only [decide_eq_false_iff_not] at c1
  obtain rfl:i=ss.length:=by omega
  obtain ⟨at',hat⟩:∃ a,a=pickW out done ss.length:=⟨_,rfl⟩
  have hpk:=pickW_spec (out:=out) (done:=done) ss.length
  rw [← hat] at hpk hWk ⊢
  repeat' (first|refine zN ?_|refine zE ?_|refine zP ?_|refine pD ?_|refine zQ ?_|refine zR ?_|refine zW ?_)
  refine condI rfl (fun c3=>?_) (fun c3=>?_)
  ·have c3:decide (at' < 0)=true:=c3
   rw [c3] at hWk
   repeat' (first|refine zN ?_|refine zE ?_|refine zP ?_|refine pD ?_|refine zQ ?_|refine zR ?_|refine zW ?_)
   refine endR rfl ?_
   repeat' (first|exact trivial|exact rfl|refine ⟨rfl,?_⟩|refine And.intro ?_ ?_)
   exact hWk
  ·have c3:decide (at' < 0)=false:=c3
   rw [c3] at hWk
   rcases hpk with h1|⟨a,h1,h2,h3,h4⟩
   ·rw [h1] at c3;cases c3
   subst h1
   have hta:((a:Int)).toNat=a:=by omega
   rw [hta] at hWk
   have hWk:W=wLoop mn ss (ss.length - k) (addW out (nextW mn ss out a) (afterL (getI ss tStep.dflt a))) (done.set a true):=hWk
   have hgo:=getD_ok hok a
   have hnx:=nextW_ok F hok h2
   have hst:=F.st _ (fl_mem (d:=tStep.dflt) h2)
   have haft:=after_in hst
   have hcs:=count_set (l:=done) (by omega) h4
   have hk2:k+1≤ss.length:=by
    have:(done.set a true).count true≤(done.set a true).length:=List.count_le_length
    rw [hcs,List.length_set] at this
    omega
   have hm0:=F.mn0
   have hm1:=F.mm
   have hm2:=F.mx1
   have hs0:=hst.mn
   have hs1:=hst.mm
   have hs2:=hst.mx
   have e1:In64 (((getI out none a).getD w0).1+stMn (getI ss tStep.dflt a)):=by unfold In64;omega
   have e2:In64 (((getI out none a).getD w0).1+stMn (getI ss tStep.dflt a)+mn):=by unfold In64;omega
   have e3:((getI out none a).getD w0).2.length * 8≤140737488355328:=by omega
   have e4:(((getI out none a).getD w0).2.length+[(a:Int)].length) * 8≤140737488355328:=by show (_+1) * 8≤_;omega
   have e5:∀ n∈aftL (stBk (getI ss tStep.dflt a)) (stNx (getI ss tStep.dflt a)),0≤n∧n < (out.length:Int):=fun n hn=>by have:=haft n hn;omega
   repeat' (first|refine zN ?_|refine zE ?_|refine zP ?_|refine pD ?_|refine pC (by first|omega|(simp only [hta];first|exact h3|exact e1|exact e2|exact e3|exact e4|exact e5)) ?_|refine zQ ?_|refine zR ?_|refine zW ?_)
   refine roundI (k+1,addW out (nextW mn ss out a) (afterL (getI ss tStep.dflt a)),done.set a true) rfl ?_ ?_ ?_
   ·refine ⟨⟨⟨by rw [addW_len];exact hol,by rw [List.length_set];exact hdl⟩,by rw [hcs,hcnt]⟩,addW_ok (wayOk_mono (by omega) hok) hnx,?_⟩
    show W=wLoop mn ss (ss.length+1 - (k+1)) _ _
    rw [show ss.length+1 - (k+1)=ss.length - k by omega]
    exact hWk
   ·show ss.length+1 - (k+1) < ss.length+1 - k
    omega
   ·repeat' (first|exact trivial|with_reducible exact rfl|refine And.intro ?_ ?_)
    all_goals (try simp only [hta])
    all_goals (first|done|rfl)
end Go.AM.YtbepaplaahcnkaaGreat.Fl
end

section
namespace Go.AM.YtbepaplaahcnkaaGreat.Fl
open Go.Proofs
set_option maxRecDepth 100000
set_option maxHeartbeats 4000000
def wayGet (mn mx:Int) (ss:List StepT) (ws:List WinT) (a b:Int):Option WayT:=bif givF mn mx ss ws [a,b] then getI (waysF mn ss a) none b.toNat else none
theorem giv_facts {mn mx:Int} {ss:List StepT} {ws:List WinT} {a b:Int} (h:givF mn mx ss ws [a,b]=true):validF mn mx ss ws=true∧(0≤a∧a < ss.length)∧(0≤b∧b < ss.length):=by
 unfold givF at h
 rw [Bool.and_eq_true,Bool.not_eq_true',List.any_eq_false] at h
 have h1:=h.2 a (by simp)
 have h2:=h.2 b (by simp)
 unfold badN at h1 h2
 simp only [Bool.or_eq_true,decide_eq_true_eq,not_or] at h1 h2
 exact ⟨h.1,by omega,by omega⟩
def wayS:Spec:=⟨true,fun args rows=>match args,rows with
 | [.agg [.int .i64 mn,.int .i64 mx,.sl (.pair (.int .i64) (.pair (.slice (.int .i64)) (.pair (.int .i64) (.pair (.int .i64) (.pair (.slice (.int .i64)) (.pair (.int .i64) (.int .i64))))))) ss,.sl (.pair (.int .i64) (.pair (.int .i64) (.int .i64))) ws],.int .i64 a,.int .i64 b],[] =>
   some ⟨True,.tup [.sl tInt ((wayGet mn mx ss ws a b).getD w0).2,.bool (wayGet mn mx ss ws a b).isSome],[],true⟩
 | _,_=>none⟩
def quickS:Spec:=⟨true,fun args rows=>match args,rows with
 | [.agg [.int .i64 mn,.int .i64 mx,.sl (.pair (.int .i64) (.pair (.slice (.int .i64)) (.pair (.int .i64) (.pair (.int .i64) (.pair (.slice (.int .i64)) (.pair (.int .i64) (.int .i64))))))) ss,.sl (.pair (.int .i64) (.pair (.int .i64) (.int .i64))) ws],.int .i64 a,.int .i64 b],[] =>
   some ⟨True,.tup [.int .i64 ((wayGet mn mx ss ws a b).getD w0).1,.bool (wayGet mn mx ss ws a b).isSome],[],true⟩
 | _,_=>none⟩
def sigWay:List (Nat × Spec):=[(145,givS),(146,waysS),(147,Re.cloneIS)]
theorem sigWayOk:SigOk Tryz.prog (look sigWay):=sigCons (sigCons (sigCons sigNil
 Tryz.func147 (by kernel_rfl) (c:=body Tryz.f147) rfl Re.cloneIOk)
 Tryz.func146 (by kernel_rfl) (c:=body Tryz.f146) rfl waysOk)
 Tryz.func145 (by kernel_rfl) (c:=body Tryz.f145) rfl givOk
theorem wayOk':SpecSound Tryz.prog 80 wayS:=by
 refine soundR (envOf sigWayOk) Tryz.func80 (c:=body Tryz.f80) rfl (by kernel_rfl) rfl ?_
 intro args rows out hf hpre
 split at hf <;> try (cases hf;done)
 rename_i mn mx ss ws a b
 cases hf
 refine ⟨Nat.le_of_ble_eq_true rfl,initI (args:=[.agg [.int .i64 mn,.int .i64 mx,.sl tStep ss,.sl tWin ws],.int .i64 a,.int .i64 b]) (rows:=[]) rfl ?_⟩
 obtain ⟨r,hr⟩:∃ r,r=wayGet mn mx ss ws a b:=⟨_,rfl⟩
 rw [← hr]
 repeat' (first|refine zN ?_|refine zE ?_|refine zP ?_|refine pD ?_|refine zQ ?_|refine zR ?_|refine zW ?_)
 refine condI rfl (fun c1=>?_) (fun c1=>?_)
 ·have c1:givF mn mx ss ws [a,b]=false:=by simpa using c1
  unfold wayGet at hr
  rw [c1] at hr
  rw [show r=none from hr]
  repeat' (first|refine zN ?_|refine zE ?_|refine zP ?_|refine pD ?_|refine zQ ?_|refine zR ?_|refine zW ?_)
  refine endR rfl ?_
  repeat' (first|exact trivial|exact rfl|refine ⟨rfl,?_⟩|refine And.intro ?_ ?_)
 ·have c1:givF mn mx ss ws [a,b]=true:=by simpa using c1
  unfold wayGet at hr
  rw [c1] at hr
  have hr:r=getI (waysF mn ss a) (Ty.opt tWay).dflt b.toNat:=hr
  obtain ⟨hv,ha,hb⟩:=giv_facts c1
  have F:=flow_sm hv
  obtain ⟨hwl,hwo⟩:=waysF_ok F a
  repeat' (first|refine zN ?_|refine zE ?_|refine zP ?_|refine pD ?_|refine pC (by first|exact ⟨hv,ha⟩|omega) ?_|refine zQ ?_|refine zR ?_|refine zW ?_)
  simp only [← hr]
  refine condI rfl (fun c2=>?_) (fun c2=>?_)
  ·cases r with
   | some w=>cases c2
   | none =>
     repeat' (first|refine zN ?_|refine zE ?_|refine zP ?_|refine pD ?_|refine zQ ?_|refine zR ?_|refine zW ?_)
     refine endR rfl ?_
     repeat' (first|exact trivial|exact rfl|refine ⟨rfl,?_⟩|refine And.intro ?_ ?_)
  ·cases r with
   | none=>cases c2
   | some w =>
     have hok:=(getD_ok hwo b.toNat).2
     rw [show getI (waysF mn ss a) none b.toNat=some w from hr.symm] at hok
     have hok:w.2.length≤41:=hok
     repeat' (first|refine zN ?_|refine zE ?_|refine zP ?_|refine zQ ?_|refine zW ?_)
     refine zR ?_
     repeat' (first|with_reducible refine pN ?_|refine pD ?_|refine pC (by first|exact rfl|(show List.length (α:=Int) w.2 * 8≤_;omega)) ?_)
     repeat with_reducible refine cN ?_
     refine freezeI 27 rfl ?_
     repeat' (first|refine zN ?_|refine zE ?_|refine zP ?_|refine pD ?_|refine zQ ?_|refine zR ?_|refine zW ?_)
     refine endR rfl ?_
     repeat' (first|exact trivial|exact rfl|refine ⟨rfl,?_⟩|refine And.intro ?_ ?_)
theorem quickOk:SpecSound Tryz.prog 81 quickS:=by
 refine soundR (envOf sigWayOk) Tryz.func81 (c:=body Tryz.f81) rfl (by kernel_rfl) rfl ?_
 intro args rows out hf hpre
 split at hf <;> try (cases hf;done)
 rename_i mn mx ss ws a b
 cases hf
 refine ⟨Nat.le_of_ble_eq_true rfl,initI (args:=[.agg [.int .i64 mn,.int .i64 mx,.sl tStep ss,.sl tWin ws],.int .i64 a,.int .i64 b]) (rows:=[]) rfl ?_⟩
 obtain ⟨r,hr⟩:∃ r,r=wayGet mn mx ss ws a b:=⟨_,rfl⟩
 rw [← hr]
 repeat' (first|refine zN ?_|refine zE ?_|refine zP ?_|refine pD ?_|refine zQ ?_|refine zR ?_|refine zW ?_)
 refine condI rfl (fun c1=>?_) (fun c1=>?_)
 ·have c1:givF mn mx ss ws [a,b]=false:=by simpa using c1
  unfold wayGet at hr
  rw [c1] at hr
  rw [show r=none from hr]
  repeat' (first|refine zN ?_|refine zE ?_|refine zP ?_|refine pD ?_|refine zQ ?_|refine zR ?_|refine zW ?_)
  refine endR rfl ?_
  repeat' (first|exact trivial|exact rfl|refine ⟨rfl,?_⟩|refine And.intro ?_ ?_)
 ·have c1:givF mn mx ss ws [a,b]=true:=by simpa using c1
  unfold wayGet at hr
  rw [c1] at hr
  have hr:r=getI (waysF mn ss a) (Ty.opt tWay).dflt b.toNat:=hr
  obtain ⟨hv,ha,hb⟩:=giv_facts c1
  have F:=flow_sm hv
  obtain ⟨hwl,hwo⟩:=waysF_ok F a
  repeat' (first|refine zN ?_|refine zE ?_|refine zP ?_|refine pD ?_|refine pC (by first|exact ⟨hv,ha⟩|omega) ?_|refine zQ ?_|refine zR ?_|refine zW ?_)
  simp only [← hr]
  refine condI rfl (fun c2=>?_) (fun c2=>?_)
  ·cases r with
   | some w=>cases c2
   | none =>
     repeat' (first|refine zN ?_|refine zE ?_|refine zP ?_|refine pD ?_|refine zQ ?_|refine zR ?_|refine zW ?_)
     refine endR rfl ?_
     repeat' (first|exact trivial|exact rfl|refine ⟨rfl,?_⟩|refine And.intro ?_ ?_)
  ·cases r with
   | none=>cases c2
   | some w =>
     repeat' (first|refine zN ?_|refine zE ?_|refine zP ?_|refine pD ?_|refine pC (by exact rfl) ?_|refine zQ ?_|refine zR ?_|refine zW ?_)
     refine endR rfl ?_
     repeat' (first|exact trivial|exact rfl|refine ⟨rfl,?_⟩|refine And.intro ?_ ?_)
end Go.AM.YtbepaplaahcnkaaGreat.Fl
end

section
namespace Go.AM.YtbepaplaahcnkaaGreat.Fl
open Go.Proofs
set_option maxRecDepth 100000
set_option maxHeartbeats 4000000
def growS:Spec:=⟨true,fun args rows=>match args,rows with
 | [.nilsl,.int .i64 n],[]=>some ⟨0 < n∧n≤1000,.own 0,[.seq tInt []],true⟩
 | _,_=>none⟩
theorem growOk:SpecSound Tryz.prog 148 growS:=by
 refine soundR (envOf sigNil) Tryz.func148 (c:=body Tryz.f148) rfl (by kernel_rfl) rfl ?_
 intro args rows out hf hpre
 split at hf <;> try (cases hf;done)
 rename_i n
 cases hf
 refine ⟨Nat.le_of_ble_eq_true rfl,initI (args:=[.nilsl,.int .i64 n]) (rows:=[]) rfl ?_⟩
 obtain ⟨h0,h1⟩:=hpre
 repeat' (first|refine zN ?_|refine zE ?_|refine zP ?_|refine pD ?_|refine pC (by (unfold In64;omega)) ?_|refine zQ ?_|refine zR ?_|refine zW ?_)
 refine condI rfl (fun c1=>?_) (fun c1=>?_)
 ·simp only [decide_eq_true_eq] at c1
  exfalso
  omega
 repeat' (first|refine zN ?_|refine zE ?_|refine zP ?_|refine pD ?_|refine pC (by (unfold In64;omega)) ?_|refine zQ ?_|refine zR ?_|refine zW ?_)
 refine condI rfl (fun c2=>?_) (fun c2=>?_)
 ·repeat' (first|refine zN ?_|refine zE ?_|refine zP ?_|refine pD ?_|refine pC (by (show Int.toNat _ * 8≤_;omega)) ?_|refine zQ ?_|refine zR ?_|refine zW ?_)
  refine endR rfl ?_
  repeat' (first|exact trivial|exact rfl|refine ⟨rfl,?_⟩|refine And.intro ?_ ?_)
 ·simp only [decide_eq_false_iff_not] at c2
  exfalso
  omega
def catS:Spec:=plain fun
 | [.sl (.slice (.int .i64)) xss]=>some ⟨1≤xss.flatten.length∧xss.flatten.length≤1000,.own 0,[.seq tInt xss.flatten],false⟩
 | _=>none
def sigCat:List (Nat × Spec):=[(148,growS)]
theorem sigCatOk:SigOk Tryz.prog (look sigCat):=sigCons sigNil Tryz.func148 (by kernel_rfl) (c:=body Tryz.f148) rfl growOk
theorem flat_succ {xss:List (List Int)} {i:Nat} (hi:i < xss.length):(xss.take (i+1)).flatten=(xss.take i).flatten++getI xss [] i:=by
 rw [List.take_succ,List.flatten_append]
 congr 1
 simp [getI,List.getD,List.getElem?_eq_getElem hi]
theorem flat_le {xss:List (List Int)} (i:Nat):(xss.take i).flatten.length≤xss.flatten.length:=by
 conv=>rhs;rw [← List.take_append_drop i xss,List.flatten_append,List.length_append]
 omega
theorem catOk:SpecSound Tryz.prog 82 catS:=by
 refine soundP (envOf sigCatOk) Tryz.func82 (c:=body Tryz.f82) rfl (by kernel_rfl) rfl ?_
 intro args out hf hpre
 split at hf <;> try (cases hf;done)
 rename_i xss
 cases hf
 refine ⟨Nat.le_of_ble_eq_true rfl,initI (args:=[.sl (.slice tInt) xss]) rfl ?_⟩
 obtain ⟨h1,h2⟩:1≤(List.flatten (α:=Int) xss).length∧(List.flatten (α:=Int) xss).length≤1000:=hpre
 refine factSl (t:=0) (ty:=.slice tInt) rfl (fun hxs=>?_)
 have hmx:List.length (α:=List Int) xss≤9223372036854775807:=by have:=hxs.1;unfold maxLen at this;exact this
 repeat' (first|refine zN ?_|refine zE ?_|refine zP ?_|refine pD ?_|refine zQ ?_|refine zR ?_|refine zW ?_)
 refine loopI (σ:=Nat) (fun i=>[(11,.int .i64 i),(3,.int .i64 (List.length (α:=Int) (List.flatten (List.take (α:=List Int) i xss)):Nat))]) (fun i=>[]) (fun i=>i≤List.length (α:=List Int) xss) (fun i=>List.length (α:=List Int) xss - i) 0 rfl (fun _=>rfl) rfl ?_ ?_ ?_
 ·exact Nat.zero_le _
 ·repeat' (first|exact trivial|exact rfl|refine ⟨rfl,?_⟩|refine And.intro ?_ ?_)
 intro i hi
 repeat' (first|refine zN ?_|refine zE ?_|refine zP ?_|refine pD ?_|refine zQ ?_|refine zR ?_|refine zW ?_)
 refine condI rfl (fun c1=>?_) (fun c1=>?_)
 ·simp only [decide_eq_true_eq] at c1
  have hil:i < List.length (α:=List Int) xss:=by omega
  have hin:((i:Int)).toNat=i:=by omega
  have hs:=flat_succ hil
  have hle:=flat_le (xss:=xss) (i+1)
  rw [hs,List.length_append] at hle
  have hlen:List.length (α:=Int) (getI xss ((Ty.slice tInt).dflt) i)=(getI xss [] i).length:=rfl
  repeat' (first|refine zN ?_|refine zE ?_|refine zP ?_|refine pD ?_|refine pC (by (simp only [hin,hlen];unfold In64;omega)) ?_|refine zQ ?_|refine zR ?_|refine zW ?_)
  refine condI rfl (fun c2=>?_) (fun c2=>?_)
  ·simp only [decide_eq_true_eq,hin,hlen] at c2
   exfalso
   omega
  repeat' (first|refine zN ?_|refine zE ?_|refine zP ?_|refine pD ?_|refine zQ ?_|refine zR ?_|refine zW ?_)
  refine roundI (i+1) rfl ?_ ?_ ?_
  ·show i+1≤List.length (α:=List Int) xss
   omega
  ·show List.length (α:=List Int) xss - (i+1) < List.length (α:=List Int) xss - i
   omega
  ·repeat' (first|exact trivial|with_reducible exact rfl|refine And.intro ?_ ?_)
   all_goals (try rfl)
   simp only [hin,hlen]
   rw [hs,List.length_append]
   omega
 ·simp only [decide_eq_false_iff_not] at c1
  obtain rfl:i=List.length (α:=List Int) xss:=by omega
  have htk:List.take (α:=List Int) (List.length (α:=List Int) xss) xss=xss:=List.take_length
  rw [htk]
  repeat' (first|refine zN ?_|refine zE ?_|refine zP ?_|refine pD ?_|refine pC (by (show (0:Int) < _∧_≤_;omega)) ?_|refine zQ ?_|refine zR ?_|refine zW ?_)
  refine loopI (σ:=Nat) (fun i=>[(27,.int .i64 i),(6,.own 24000)]) (fun i=>[(24000,.seq tInt (List.flatten (List.take (α:=List Int) i xss)))]) (fun i=>i≤List.length (α:=List Int) xss) (fun i=>List.length (α:=List Int) xss - i) 0 rfl (fun _=>rfl) rfl ?_ ?_ ?_
  ·exact Nat.zero_le _
  ·repeat' (first|exact trivial|exact rfl|refine ⟨rfl,?_⟩|refine And.intro ?_ ?_)
  intro i hi
  repeat' (first|refine zN ?_|refine zE ?_|refine zP ?_|refine pD ?_|refine zQ ?_|refine zR ?_|refine zW ?_)
  refine condI rfl (fun c1=>?_) (fun c1=>?_)
  ·simp only [decide_eq_true_eq] at c1
   have hil:i < List.length (α:=List Int) xss:=by omega
   have hin:((i:Int)).toNat=i:=by omega
   have hs:=flat_succ hil
   have hle:=flat_le (xss:=xss) (i+1)
   rw [hs,List.length_append] at hle
   have hlen:List.length (α:=Int) (getI xss ((Ty.slice tInt).dflt) i)=(getI xss [] i).length:=rfl
   repeat' (first|refine zN ?_|refine zE ?_|refine zP ?_|refine pD ?_|refine pC (by first|(simp only [hin,hlen];first|omega|(unfold In64;omega))) ?_|refine zQ ?_|refine zR ?_|refine zW ?_)
   refine roundI (i+1) rfl ?_ ?_ ?_
   ·show i+1≤List.length (α:=List Int) xss
    omega
   ·show List.length (α:=List Int) xss - (i+1) < List.length (α:=List Int) xss - i
    omega
   ·repeat' (first|exact trivial|with_reducible exact rfl|refine And.intro ?_ ?_)
    all_goals (try rfl)
    all_goals (simp only [hin];rw [hs];rfl)
  ·simp only [decide_eq_false_iff_not] at c1
   obtain rfl:i=List.length (α:=List Int) xss:=by omega
   rw [htk]
   repeat' (first|refine zN ?_|refine zE ?_|refine zP ?_|refine pD ?_|refine zQ ?_|refine zR ?_|refine zW ?_)
   refine endR rfl ?_
   repeat' (first|exact trivial|exact rfl|refine ⟨rfl,?_⟩|refine And.intro ?_ ?_)
def probF (mn mx:Int) (ss:List StepT) (ws:List WinT) (w:WinT):(Int × List Int) × Bool :=
 match wayGet mn mx ss ws w.1 w.2.1 with
 | none=>((4,[w.1,w.2.1]),true)
 | some v=>bif decide (w.2.2 < v.1) then ((3,w.1::(v.2++[w.2.1])),true) else ((0,[]),false)
theorem get_len {mn mx:Int} {ss:List StepT} {ws:List WinT} {a b:Int} {v:WayT} (h:wayGet mn mx ss ws a b=some v):v.2.length≤41:=by
 unfold wayGet at h
 cases hg:givF mn mx ss ws [a,b]
 ·rw [hg] at h;cases h
 ·rw [hg] at h
  have h:getI (waysF mn ss a) none b.toNat=some v:=h
  have:=(getD_ok (waysF_ok (flow_sm (giv_facts hg).1) a).2 b.toNat).2
  rw [h] at this
  exact this
def probS:Spec:=⟨true,fun args rows=>match args,rows with
 | [.agg [.int .i64 mn,.int .i64 mx,.sl (.pair (.int .i64) (.pair (.slice (.int .i64)) (.pair (.int .i64) (.pair (.int .i64) (.pair (.slice (.int .i64)) (.pair (.int .i64) (.int .i64))))))) ss,.sl (.pair (.int .i64) (.pair (.int .i64) (.int .i64))) ws],.agg [.int .i64 a,.int .i64 b,.int .i64 l]],[] =>
   some ⟨True,.tup [.agg [.int .i64 (probF mn mx ss ws (a,b,l)).1.1,.sl tInt (probF mn mx ss ws (a,b,l)).1.2],.bool (probF mn mx ss ws (a,b,l)).2],[],true⟩
 | _,_=>none⟩
def sigProb:List (Nat × Spec):=[(80,wayS),(81,quickS),(82,catS)]
theorem sigProbOk:SigOk Tryz.prog (look sigProb):=sigCons (sigCons (sigCons sigNil
 Tryz.func82 (by kernel_rfl) (c:=body Tryz.f82) rfl catOk)
 Tryz.func81 (by kernel_rfl) (c:=body Tryz.f81) rfl quickOk)
 Tryz.func80 (by kernel_rfl) (c:=body Tryz.f80) rfl wayOk'
theorem probOk:SpecSound Tryz.prog 26 probS:=by
 refine soundR (envOf sigProbOk) Tryz.func26 (c:=body Tryz.f26) rfl (by kernel_rfl) rfl ?_
 intro args rows out hf hpre
 split at hf <;> try (cases hf;done)
 rename_i mn mx ss ws a b l
 cases hf
 refine ⟨Nat.le_of_ble_eq_true rfl,initI (args:=[.agg [.int .i64 mn,.int .i64 mx,.sl tStep ss,.sl tWin ws],.agg [.int .i64 a,.int .i64 b,.int .i64 l]]) (rows:=[]) rfl ?_⟩
 obtain ⟨r,hr⟩:∃ r,r=probF mn mx ss ws (a,b,l):=⟨_,rfl⟩
 rw [← hr]
 unfold probF at hr
 dsimp only at hr
 repeat' (first|refine zN ?_|refine zE ?_|refine zP ?_|refine pD ?_|refine zQ ?_|refine zR ?_|refine zW ?_)
 refine condI rfl (fun c1=>?_) (fun c1=>?_)
 ·cases hg:wayGet mn mx ss ws a b with
  | some v=>rw [hg] at c1;cases c1
  | none =>
    rw [hg] at hr
    rw [hr]
    repeat' (first|refine zN ?_|refine zE ?_|refine zP ?_|refine zQ ?_|refine zW ?_)
    refine zR ?_
    repeat' (first|with_reducible refine pN ?_|refine pD ?_|fail)
    repeat with_reducible refine cN ?_
    refine freezeI 25 rfl ?_
    repeat' (first|refine zN ?_|refine zE ?_|refine zP ?_|refine pD ?_|refine zQ ?_|refine zR ?_|refine zW ?_)
    refine endR rfl ?_
    repeat' (first|exact trivial|exact rfl|refine ⟨rfl,?_⟩|refine And.intro ?_ ?_)
 ·cases hg:wayGet mn mx ss ws a b with
  | none=>rw [hg] at c1;cases c1
  | some v =>
    rw [hg] at hr
    have hl:=get_len hg
    repeat' (first|refine zN ?_|refine zE ?_|refine zP ?_|refine pD ?_|refine zQ ?_|refine zR ?_|refine zW ?_)
    simp only [hg]
    refine condI rfl (fun c2=>?_) (fun c2=>?_)
    ·have c2:decide (l < v.1)=true:=c2
     have hr:r=bif decide (l < v.1) then ((3,a::(v.2++[b])),true) else ((0,[]),false):=hr
     rw [c2] at hr
     rw [hr]
     repeat' (first|refine zN ?_|refine zE ?_|refine zP ?_|refine zQ ?_|refine zW ?_)
     refine zR ?_
     repeat' (first|with_reducible refine pN ?_|refine pD ?_|refine pC (by (show 1≤List.length _∧List.length _≤_;simp;omega)) ?_)
     repeat with_reducible refine cN ?_
     refine freezeI 48 rfl ?_
     repeat' (first|refine zN ?_|refine zE ?_|refine zP ?_|refine pD ?_|refine zQ ?_|refine zR ?_|refine zW ?_)
     refine endR rfl ?_
     repeat' (first|exact trivial|exact rfl|refine ⟨rfl,?_⟩|refine And.intro ?_ ?_)
    ·have c2:decide (l < v.1)=false:=c2
     have hr:r=bif decide (l < v.1) then ((3,a::(v.2++[b])),true) else ((0,[]),false):=hr
     rw [c2] at hr
     rw [hr]
     repeat' (first|refine zN ?_|refine zE ?_|refine zP ?_|refine pD ?_|refine zQ ?_|refine zR ?_|refine zW ?_)
     refine endR rfl ?_
     repeat' (first|exact trivial|exact rfl|refine ⟨rfl,?_⟩|refine And.intro ?_ ?_)
def checkW (mn mx:Int) (ss:List StepT) (ws:List WinT):List WinT→Int × List Int
 | []=>(0,[])
 | w::r=>bif (probF mn mx ss ws w).2 then (probF mn mx ss ws w).1 else checkW mn mx ss ws r
def checkF (mn mx:Int) (ss:List StepT) (ws:List WinT):Int × List Int:=bif validF mn mx ss ws then checkW mn mx ss ws ws else (0,[])
def wcheckS:Spec:=⟨true,fun args rows=>match args,rows with
 | [.agg [.int .i64 mn,.int .i64 mx,.sl (.pair (.int .i64) (.pair (.slice (.int .i64)) (.pair (.int .i64) (.pair (.int .i64) (.pair (.slice (.int .i64)) (.pair (.int .i64) (.int .i64))))))) ss,.sl (.pair (.int .i64) (.pair (.int .i64) (.int .i64))) ws]],[] =>
   some ⟨True,.agg [.int .i64 (checkF mn mx ss ws).1,.sl tInt (checkF mn mx ss ws).2],[],true⟩
 | _,_=>none⟩
def sigWc:List (Nat × Spec):=[(25,fvalidS),(26,probS)]
theorem sigWcOk:SigOk Tryz.prog (look sigWc):=sigCons (sigCons sigNil
 Tryz.func26 (by kernel_rfl) (c:=body Tryz.f26) rfl probOk)
 Tryz.func25 (by kernel_rfl) (c:=body Tryz.f25) rfl fvalidOk
theorem wcheckOk:SpecSound Tryz.prog 12 wcheckS:=by
 refine soundR (envOf sigWcOk) Tryz.func12 (c:=body Tryz.f12) rfl (by kernel_rfl) rfl ?_
 intro args rows out hf hpre
 split at hf <;> try (cases hf;done)
 rename_i mn mx ss ws
 cases hf
 refine ⟨Nat.le_of_ble_eq_true rfl,initI (args:=[.agg [.int .i64 mn,.int .i64 mx,.sl tStep ss,.sl tWin ws]]) (rows:=[]) rfl ?_⟩
 obtain ⟨r,hr⟩:∃ r,r=checkF mn mx ss ws:=⟨_,rfl⟩
 rw [← hr]
 unfold checkF at hr
 repeat' (first|refine zN ?_|refine zE ?_|refine zP ?_|refine pD ?_|refine zQ ?_|refine zR ?_|refine zW ?_)
 refine condI rfl (fun c1=>?_) (fun c1=>?_)
 ·have c1:validF mn mx ss ws=false:=by simpa using c1
  rw [c1] at hr
  rw [show r=(0,[]) from hr]
  repeat' (first|refine zN ?_|refine zE ?_|refine zP ?_|refine pD ?_|refine zQ ?_|refine zR ?_|refine zW ?_)
  refine endR rfl ?_
  repeat' (first|exact trivial|exact rfl|refine ⟨rfl,?_⟩|refine And.intro ?_ ?_)
 have c1:validF mn mx ss ws=true:=by simpa using c1
 rw [c1] at hr
 have hr:r=checkW mn mx ss ws ws:=hr
 have hwl:=(flow_sm c1).wl
 repeat' (first|refine zN ?_|refine zE ?_|refine zP ?_|refine pD ?_|refine zQ ?_|refine zR ?_|refine zW ?_)
 refine loopI (σ:=Nat) (fun i=>[(14,.int .i64 i)]) (fun i=>[]) (fun i=>i≤ws.length∧r=checkW mn mx ss ws (ws.drop i)) (fun i=>ws.length - i) 0 rfl (fun _=>rfl) rfl ?_ ?_ ?_
 ·exact ⟨Nat.zero_le _,hr⟩
 ·repeat' (first|exact trivial|exact rfl|refine ⟨rfl,?_⟩|refine And.intro ?_ ?_)
 rintro i ⟨hi,hq⟩
 repeat' (first|refine zN ?_|refine zE ?_|refine zP ?_|refine pD ?_|refine zQ ?_|refine zR ?_|refine zW ?_)
 refine condI rfl (fun c3=>?_) (fun c3=>?_)
 ·simp only [decide_eq_true_eq] at c3
  have hil:i < ws.length:=by omega
  have hin:((i:Int)).toNat=i:=by omega
  rw [show ws.drop i=getI ws tWin.dflt i::ws.drop (i+1) by rw [List.drop_eq_getElem_cons hil];simp [getI,List.getD,List.getElem?_eq_getElem hil]] at hq
  unfold checkW at hq
  repeat' (first|refine zN ?_|refine zE ?_|refine zP ?_|refine pD ?_|refine zQ ?_|refine zR ?_|refine zW ?_)
  refine condI rfl (fun c4=>?_) (fun c4=>?_)
  ·have h9:(probF mn mx ss ws (getI ws tWin.dflt i)).2=true:=by simp only [hin] at c4;exact c4
   rw [h9] at hq
   have hq:r=(probF mn mx ss ws (getI ws tWin.dflt i)).1:=hq
   rw [hq]
   repeat' (first|refine zN ?_|refine zE ?_|refine zP ?_|refine pD ?_|refine zQ ?_|refine zR ?_|refine zW ?_)
   refine endR rfl ?_
   repeat' (first|exact trivial|exact rfl|refine ⟨rfl,?_⟩|refine And.intro ?_ ?_)
   all_goals (simp only [hin];rfl)
  ·have h9:(probF mn mx ss ws (getI ws tWin.dflt i)).2=false:=by simp only [hin] at c4;exact c4
   rw [h9] at hq
   repeat' (first|refine zN ?_|refine zE ?_|refine zP ?_|refine pD ?_|refine zQ ?_|refine zR ?_|refine zW ?_)
   refine roundI (i+1) rfl ?_ ?_ ?_
   ·exact ⟨by show i+1≤ws.length;omega,hq⟩
   ·show ws.length - (i+1) < ws.length - i
    omega
   ·repeat' (first|exact trivial|with_reducible exact rfl|refine And.intro ?_ ?_)
    all_goals rfl
 ·simp only [decide_eq_false_iff_not] at c3
  rw [List.drop_eq_nil_of_le (show ws.length≤i by omega)] at hq
  rw [show r=(0,[]) from hq]
  repeat' (first|refine zN ?_|refine zE ?_|refine zP ?_|refine pD ?_|refine zQ ?_|refine zR ?_|refine zW ?_)
  refine endR rfl ?_
  repeat' (first|exact trivial|exact rfl|refine ⟨rfl,?_⟩|refine And.intro ?_ ?_)
end Go.AM.YtbepaplaahcnkaaGreat.Fl
end
