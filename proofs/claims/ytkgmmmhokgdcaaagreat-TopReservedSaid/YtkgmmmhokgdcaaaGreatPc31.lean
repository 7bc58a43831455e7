/- GrF, GrG, GrH. -/
import Derived.Test.YtkgmmmhokgdcaaaGreatPc30
import Derived.Test.YtkgmmmhokgdcaaaGreatPc23

section
set_option linter.all false
namespace Go.AM.YtkgmmmhokgdcaaaGreat.Fl
open Go.Proofs
set_option maxRecDepth 100000
set_option maxHeartbeats 4000000
def waysS:Spec:=⟨true,fun args rows=>match args,rows with
 | [.agg [.int .i64 mn,.int .i64 mx,.sl (.pair (.int .i64) (.pair (.slice (.int .i64)) (.pair (.int .i64) (.pair (.int .i64) (.pair (.slice (.int .i64)) (.pair (.int .i64) (.int .i64))))))) ss,.sl (.pair (.int .i64) (.pair (.int .i64) (.int .i64))) ws],.int .i64 fr],[] =>
   some ⟨validF mn mx ss ws=true∧(0≤fr∧fr < ss.length),.own 0,[.seq (.opt tWay) (waysF mn ss fr)],true⟩
 | _,_=>none⟩
def sigWays:List (Nat × Spec):=[(162,add1S),(161,ordS),(50,Re.cloneIS)]
theorem sigWaysOk:SigOk Tryz.prog (look sigWays):=sigCons (sigCons (sigCons sigNil
 Tryz.func50 (by kernel_rfl) (c:=body Tryz.f50) rfl Re.cloneIOk)
 Tryz.func161 (by kernel_rfl) (c:=body Tryz.f161) rfl ordOk)
 Tryz.func162 (by kernel_rfl) (c:=body Tryz.f162) rfl add1Ok
theorem some_and {α:Type} {y:Option α} {b:Bool} (h:(!y.isNone&&b)=true):y.isSome=true:=by cases y <;> simp_all
theorem waysOk:SpecSound Tryz.prog 152 waysS:=by
 refine soundR (envOf sigWaysOk) Tryz.func152 (c:=body Tryz.f152) rfl (by kernel_rfl) rfl ?_
 intro args rows out hf hpre
 split at hf <;> try (cases hf;done)
 rename_i mn mx ss ws fr
 cases hf
 refine ⟨Nat.le_of_ble_eq_true rfl,initI (args:=[.agg [.int .i64 mn,.int .i64 mx,.sl tStep ss,.sl tWin ws],.int .i64 fr]) (rows:=[]) rfl ?_⟩
 obtain ⟨hv,hf0,hf1⟩:=hpre
 have F:=flow_sm hv
 have hn2:=F.n2
 have hstart:∀ n∈aftL (getI ss tStep.dflt fr.toNat).2.2.2.2.2.1 (getI ss tStep.dflt fr.toNat).2.2.2.2.1,0≤n∧n < ((List.replicate ss.length (none:Option WayT)).length:Nat):=fun n hn=>by
  have:=after_in (F.st _ (fl_mem (d:=tStep.dflt) (show fr.toNat < ss.length by omega))) n hn
  rw [List.length_replicate];exact this
 repeat' (first|refine zN ?_|refine zE ?_|refine zP ?_|refine pD ?_|refine pC (by first|exact hstart|omega) ?_|refine zS ?_|refine zR ?_|refine zO ?_|refine zB ?_|refine zX ?_|refine zT ?_|refine skipI rfl ?_)
 obtain ⟨W,hW⟩:∃ W,W=waysF mn ss fr:=⟨_,rfl⟩
 rw [← hW]
 unfold waysF at hW
 obtain ⟨hs1,hs2⟩:=start_ok F fr
 refine loopI (σ:=Nat × List (Option WayT) × List Bool) (fun s=>[]) (fun s=>[(15,.seq (.opt tWay) s.2.1),(19,.seq .bool s.2.2)]) (fun s=>((s.2.1.length=ss.length∧s.2.2.length=ss.length)∧s.2.2.count true=s.1)∧wayOk s.1 s.2.1∧W=wLoop mn ss (ss.length+1 - s.1) s.2.1 s.2.2) (fun s=>ss.length+1 - s.1) (0,startW mn ss fr,List.replicate ss.length false) rfl (fun _=>rfl) rfl ?_ ?_ ?_
 ·exact ⟨⟨⟨hs1,List.length_replicate⟩,by simp [List.count_replicate]⟩,hs2,hW⟩
 ·repeat' (first|exact trivial|with_reducible exact rfl|refine And.intro ?_ ?_)
  all_goals rfl
 rintro ⟨k,out,done⟩ ⟨⟨⟨hol,hdl⟩,hcnt⟩,hok,hWk⟩
 dsimp only at hol hdl hcnt hok hWk ⊢
 have hk:k≤ss.length:=by rw [← hcnt,← hdl];exact List.count_le_length
 rw [show ss.length+1 - k=(ss.length - k)+1 by omega] at hWk
 unfold wLoop at hWk
 rw [hol] at hWk
 repeat' (first|refine zN ?_|refine zE ?_|refine zP ?_|refine pD ?_|refine zS ?_|refine zR ?_|refine zO ?_|refine zB ?_|refine zX ?_|refine zT ?_|refine skipI rfl ?_)
 refine loopI (σ:=Nat) (fun i=>[(33,.int .i64 i),(9,.int .i64 (pickW out done i))]) (fun i=>[]) (fun i=>i≤ss.length) (fun i=>ss.length - i) 0 rfl (fun _=>rfl) rfl ?_ ?_ ?_
 ·exact Nat.zero_le _
 ·repeat' (first|exact trivial|exact rfl|refine ⟨rfl,?_⟩|refine And.intro ?_ ?_)
 intro i hi
 repeat' (first|refine zN ?_|refine zE ?_|refine zP ?_|refine pD ?_|refine zS ?_|refine zR ?_|refine zO ?_|refine zB ?_|refine zX ?_|refine zT ?_|refine skipI rfl ?_)
 refine condI rfl (fun c1=>?_) (fun c1=>?_)
 ·simp only [decide_eq_true_eq] at c1
  have hil:i < ss.length:=by omega
  have hin:((i:Int)).toNat=i:=by omega
  have hpk:=pickW_spec (out:=out) (done:=done) i
  have hge:∀ h:decide (pickW out done i < 0)=false,0≤pickW out done i∧pickW out done i < out.length∧(getI out none (pickW out done i).toNat).isSome=true:=fun h=>by
   rcases hpk with h1|⟨a,h1,h2,h3,_⟩
   ·rw [h1] at h;cases h
   ·rw [h1];exact ⟨by omega,by omega,h3⟩
  repeat' (first|refine zN ?_|refine zE ?_|refine zP ?_|refine pD ?_|refine pC (by first|exact fun h _=>some_and h|exact fun _ h=>(hge h).1|exact fun _ h=>(hge h).2.1|exact fun _ h=>(hge h).2.2|(intro _ h;have:=hge h;omega)|(intros;exact True.intro)|omega) ?_|refine zS ?_|refine zR ?_|refine zO ?_|refine zB ?_|refine zX ?_|refine zT ?_|refine skipI rfl ?_)
  have hsucc:pickW out done (i+1)=bif (!(getI out none i).isNone&&!getI done false i)&&(decide (pickW out done i < 0)||decide (ordF ((getI out none i).getD w0) ((getI out none (pickW out done i).toNat).getD w0) < 0)) then (i:Int) else pickW out done i:=rfl
  refine condI rfl (fun c2=>?_) (fun c2=>?_)
  ·simp only [hin] at c2
   have c2:((!(getI out none i).isNone&&!getI done false i)&&(decide (pickW out done i < 0)||decide (ordF ((getI out none i).getD w0) ((getI out none (pickW out done i).toNat).getD w0) < 0)))=true:=c2
   rw [c2] at hsucc
   repeat' (first|refine zN ?_|refine zE ?_|refine zP ?_|refine pD ?_|refine zS ?_|refine zR ?_|refine zO ?_|refine zB ?_|refine zX ?_|refine zT ?_|refine skipI rfl ?_)
   refine roundI (i+1) rfl ?_ ?_ ?_
   ·show i+1≤ss.length
    omega
   ·show ss.length - (i+1) < ss.length - i
    omega
   ·repeat' (first|exact trivial|with_reducible exact rfl|refine And.intro ?_ ?_)
    all_goals (first|rfl|exact hsucc)
  ·simp only [hin] at c2
   have c2:((!(getI out none i).isNone&&!getI done false i)&&(decide (pickW out done i < 0)||decide (ordF ((getI out none i).getD w0) ((getI out none (pickW out done i).toNat).getD w0) < 0)))=false:=c2
   rw [c2] at hsucc
   repeat' (first|refine zN ?_|refine zE ?_|refine zP ?_|refine pD ?_|refine zS ?_|refine zR ?_|refine zO ?_|refine zB ?_|refine zX ?_|refine zT ?_|refine skipI rfl ?_)
   refine roundI (i+1) rfl ?_ ?_ ?_
   ·show i+1≤ss.length
    omega
   ·show ss.length - (i+1) < ss.length - i
    omega
   ·repeat' (first|exact trivial|with_reducible exact rfl|refine And.intro ?_ ?_)
    all_goals (first|rfl|exact hsucc)
 ·simp only [decide_eq_false_iff_not] at c1
  obtain rfl:i=ss.length:=by omega
  obtain ⟨at',hat⟩:∃ a,a=pickW out done ss.length:=⟨_,rfl⟩
  have hpk:=pickW_spec (out:=out) (done:=done) ss.length
  rw [← hat] at hpk hWk ⊢
  repeat' (first|refine zN ?_|refine zE ?_|refine zP ?_|refine pD ?_|refine zS ?_|refine zR ?_|refine zO ?_|refine zB ?_|refine zX ?_|refine zT ?_|refine skipI rfl ?_)
  refine condI rfl (fun c3=>?_) (fun c3=>?_)
  ·have c3:decide (at' < 0)=true:=c3
   rw [c3] at hWk
   repeat' (first|refine zN ?_|refine zE ?_|refine zP ?_|refine pD ?_|refine zS ?_|refine zR ?_|refine zO ?_|refine zB ?_|refine zX ?_|refine zT ?_|refine skipI rfl ?_)
   refine endR rfl ?_
   repeat' (first|exact trivial|exact rfl|refine ⟨rfl,?_⟩|refine And.intro ?_ ?_)
   exact hWk
  ·have c3:decide (at' < 0)=false:=c3
   rw [c3] at hWk
   rcases hpk with h1|⟨a,h1,h2,h3,h4⟩
   ·rw [h1] at c3;cases c3
   subst h1
   have hta:((a:Int)).toNat=a:=by omega
   rw [hta] at hWk
   have hWk:W=wLoop mn ss (ss.length - k) (addW out (nextW mn ss out a) (afterL (getI ss tStep.dflt a))) (done.set a true):=hWk
   have hgo:=getD_ok hok a
   have hnx:=nextW_ok F hok h2
   have hst:=F.st _ (fl_mem (d:=tStep.dflt) h2)
   have haft:=after_in hst
   have hcs:=count_set (l:=done) (by omega) h4
   have hk2:k+1≤ss.length:=by
    have:(done.set a true).count true≤(done.set a true).length:=List.count_le_length
    rw [hcs,List.length_set] at this
    omega
   have hm0:=F.mn0
   have hm1:=F.mm
   have hm2:=F.mx1
   have hs0:=hst.mn
   have hs1:=hst.mm
   have hs2:=hst.mx
   have e1:In64 (((getI out none a).getD w0).1+stMn (getI ss tStep.dflt a)):=by unfold In64;omega
   have e2:In64 (((getI out none a).getD w0).1+stMn (getI ss tStep.dflt a)+mn):=by unfold In64;omega
   have e3:((getI out none a).getD w0).2.length * 8≤140737488355328:=by omega
   have e4:(((getI out none a).getD w0).2.length+[(a:Int)].length) * 8≤140737488355328:=by show (_+1) * 8≤_;omega
   have e5:∀ n∈aftL (stBk (getI ss tStep.dflt a)) (stNx (getI ss tStep.dflt a)),0≤n∧n < (out.length:Int):=fun n hn=>by have:=haft n hn;omega
   repeat' (first|refine zN ?_|refine zE ?_|refine zP ?_|refine pD ?_|refine pC (by first|omega|(simp only [hta];first|exact h3|exact e1|exact e2|exact e3|exact e4|exact e5)) ?_|refine zS ?_|refine zR ?_|refine zO ?_|refine zB ?_|refine zX ?_|refine zT ?_|refine skipI rfl ?_)
   refine roundI (k+1,addW out (nextW mn ss out a) (afterL (getI ss tStep.dflt a)),done.set a true) rfl ?_ ?_ ?_
   ·refine ⟨⟨⟨by rw [addW_len];exact hol,by rw [List.length_set];exact hdl⟩,by rw [hcs,hcnt]⟩,addW_ok (wayOk_mono (by omega) hok) hnx,?_⟩
    show W=wLoop mn ss (ss.length+1 - (k+1)) _ _
    rw [show ss.length+1 - (k+1)=ss.length - k by omega]
    exact hWk
   ·show ss.length+1 - (k+1) < ss.length+1 - k
    omega
   ·repeat' (first|exact trivial|with_reducible exact rfl|refine And.intro ?_ ?_)
    all_goals (try simp only [hta])
    all_goals (first|done|rfl)
end Go.AM.YtkgmmmhokgdcaaaGreat.Fl
end

section
set_option linter.all false
namespace Go.AM.YtkgmmmhokgdcaaaGreat.Fl
open Go.Proofs
set_option maxRecDepth 100000
set_option maxHeartbeats 4000000
def wayGet (mn mx:Int) (ss:List StepT) (ws:List WinT) (a b:Int):Option WayT:=bif givF mn mx ss ws [a,b] then getI (waysF mn ss a) none b.toNat else none
theorem giv_facts {mn mx:Int} {ss:List StepT} {ws:List WinT} {a b:Int} (h:givF mn mx ss ws [a,b]=true):validF mn mx ss ws=true∧(0≤a∧a < ss.length)∧(0≤b∧b < ss.length):=by
 unfold givF at h
 rw [Bool.and_eq_true,Bool.not_eq_true',List.any_eq_false] at h
 have h1:=h.2 a (by simp)
 have h2:=h.2 b (by simp)
 unfold badN at h1 h2
 simp only [Bool.or_eq_true,decide_eq_true_eq,not_or] at h1 h2
 exact ⟨h.1,by omega,by omega⟩
def wayS:Spec:=⟨true,fun args rows=>match args,rows with
 | [.agg [.int .i64 mn,.int .i64 mx,.sl (.pair (.int .i64) (.pair (.slice (.int .i64)) (.pair (.int .i64) (.pair (.int .i64) (.pair (.slice (.int .i64)) (.pair (.int .i64) (.int .i64))))))) ss,.sl (.pair (.int .i64) (.pair (.int .i64) (.int .i64))) ws],.int .i64 a,.int .i64 b],[] =>
   some ⟨True,.tup [.sl tInt ((wayGet mn mx ss ws a b).getD w0).2,.bool (wayGet mn mx ss ws a b).isSome],[],true⟩
 | _,_=>none⟩
def quickS:Spec:=⟨true,fun args rows=>match args,rows with
 | [.agg [.int .i64 mn,.int .i64 mx,.sl (.pair (.int .i64) (.pair (.slice (.int .i64)) (.pair (.int .i64) (.pair (.int .i64) (.pair (.slice (.int .i64)) (.pair (.int .i64) (.int .i64))))))) ss,.sl (.pair (.int .i64) (.pair (.int .i64) (.int .i64))) ws],.int .i64 a,.int .i64 b],[] =>
   some ⟨True,.tup [.int .i64 ((wayGet mn mx ss ws a b).getD w0).1,.bool (wayGet mn mx ss ws a b).isSome],[],true⟩
 | _,_=>none⟩
def sigWay:List (Nat × Spec):=[(151,givS),(152,waysS),(50,Re.cloneIS)]
theorem sigWayOk:SigOk Tryz.prog (look sigWay):=sigCons (sigCons (sigCons sigNil
 Tryz.func50 (by kernel_rfl) (c:=body Tryz.f50) rfl Re.cloneIOk)
 Tryz.func152 (by kernel_rfl) (c:=body Tryz.f152) rfl waysOk)
 Tryz.func151 (by kernel_rfl) (c:=body Tryz.f151) rfl givOk
theorem wayOk':SpecSound Tryz.prog 117 wayS:=by
 refine soundR (envOf sigWayOk) Tryz.func117 (c:=body Tryz.f117) rfl (by kernel_rfl) rfl ?_
 intro args rows out hf hpre
 split at hf <;> try (cases hf;done)
 rename_i mn mx ss ws a b
 cases hf
 refine ⟨Nat.le_of_ble_eq_true rfl,initI (args:=[.agg [.int .i64 mn,.int .i64 mx,.sl tStep ss,.sl tWin ws],.int .i64 a,.int .i64 b]) (rows:=[]) rfl ?_⟩
 obtain ⟨r,hr⟩:∃ r,r=wayGet mn mx ss ws a b:=⟨_,rfl⟩
 rw [← hr]
 repeat' (first|refine zN ?_|refine zE ?_|refine zP ?_|refine pD ?_|refine zS ?_|refine zR ?_|refine zO ?_|refine zB ?_|refine zX ?_|refine zT ?_|refine skipI rfl ?_)
 refine condI rfl (fun c1=>?_) (fun c1=>?_)
 ·have c1:givF mn mx ss ws [a,b]=false:=by simpa using c1
  unfold wayGet at hr
  rw [c1] at hr
  rw [show r=none from hr]
  repeat' (first|refine zN ?_|refine zE ?_|refine zP ?_|refine pD ?_|refine zS ?_|refine zR ?_|refine zO ?_|refine zB ?_|refine zX ?_|refine zT ?_|refine skipI rfl ?_)
  refine endR rfl ?_
  repeat' (first|exact trivial|exact rfl|refine ⟨rfl,?_⟩|refine And.intro ?_ ?_)
 ·have c1:givF mn mx ss ws [a,b]=true:=by simpa using c1
  unfold wayGet at hr
  rw [c1] at hr
  have hr:r=getI (waysF mn ss a) (Ty.opt tWay).dflt b.toNat:=hr
  obtain ⟨hv,ha,hb⟩:=giv_facts c1
  have F:=flow_sm hv
  obtain ⟨hwl,hwo⟩:=waysF_ok F a
  repeat' (first|refine zN ?_|refine zE ?_|refine zP ?_|refine pD ?_|refine pC (by first|exact ⟨hv,ha⟩|omega) ?_|refine zS ?_|refine zR ?_|refine zO ?_|refine zB ?_|refine zX ?_|refine zT ?_|refine skipI rfl ?_)
  simp only [← hr]
  refine condI rfl (fun c2=>?_) (fun c2=>?_)
  ·cases r with
   | some w=>cases c2
   | none =>
     repeat' (first|refine zN ?_|refine zE ?_|refine zP ?_|refine pD ?_|refine zS ?_|refine zR ?_|refine zO ?_|refine zB ?_|refine zX ?_|refine zT ?_|refine skipI rfl ?_)
     refine endR rfl ?_
     repeat' (first|exact trivial|exact rfl|refine ⟨rfl,?_⟩|refine And.intro ?_ ?_)
  ·cases r with
   | none=>cases c2
   | some w =>
     have hok:=(getD_ok hwo b.toNat).2
     rw [show getI (waysF mn ss a) none b.toNat=some w from hr.symm] at hok
     have hok:w.2.length≤41:=hok
     repeat' (first|refine zN ?_|refine zE ?_|refine zP ?_|refine zS ?_|refine zO ?_|refine zB ?_|refine zX ?_|refine zT ?_|refine skipI rfl ?_)
     refine zR ?_
     repeat' (first|with_reducible refine pN ?_|refine pD ?_|refine pC (by first|exact rfl|(show List.length (α:=Int) w.2 * 8≤_;omega)) ?_)
     repeat with_reducible refine cN ?_
     refine freezeI 27 rfl ?_
     repeat' (first|refine zN ?_|refine zE ?_|refine zP ?_|refine pD ?_|refine zS ?_|refine zR ?_|refine zO ?_|refine zB ?_|refine zX ?_|refine zT ?_|refine skipI rfl ?_)
     refine endR rfl ?_
     repeat' (first|exact trivial|exact rfl|refine ⟨rfl,?_⟩|refine And.intro ?_ ?_)
theorem quickOk:SpecSound Tryz.prog 118 quickS:=by
 refine soundR (envOf sigWayOk) Tryz.func118 (c:=body Tryz.f118) rfl (by kernel_rfl) rfl ?_
 intro args rows out hf hpre
 split at hf <;> try (cases hf;done)
 rename_i mn mx ss ws a b
 cases hf
 refine ⟨Nat.le_of_ble_eq_true rfl,initI (args:=[.agg [.int .i64 mn,.int .i64 mx,.sl tStep ss,.sl tWin ws],.int .i64 a,.int .i64 b]) (rows:=[]) rfl ?_⟩
 obtain ⟨r,hr⟩:∃ r,r=wayGet mn mx ss ws a b:=⟨_,rfl⟩
 rw [← hr]
 repeat' (first|refine zN ?_|refine zE ?_|refine zP ?_|refine pD ?_|refine zS ?_|refine zR ?_|refine zO ?_|refine zB ?_|refine zX ?_|refine zT ?_|refine skipI rfl ?_)
 refine condI rfl (fun c1=>?_) (fun c1=>?_)
 ·have c1:givF mn mx ss ws [a,b]=false:=by simpa using c1
  unfold wayGet at hr
  rw [c1] at hr
  rw [show r=none from hr]
  repeat' (first|refine zN ?_|refine zE ?_|refine zP ?_|refine pD ?_|refine zS ?_|refine zR ?_|refine zO ?_|refine zB ?_|refine zX ?_|refine zT ?_|refine skipI rfl ?_)
  refine endR rfl ?_
  repeat' (first|exact trivial|exact rfl|refine ⟨rfl,?_⟩|refine And.intro ?_ ?_)
 ·have c1:givF mn mx ss ws [a,b]=true:=by simpa using c1
  unfold wayGet at hr
  rw [c1] at hr
  have hr:r=getI (waysF mn ss a) (Ty.opt tWay).dflt b.toNat:=hr
  obtain ⟨hv,ha,hb⟩:=giv_facts c1
  have F:=flow_sm hv
  obtain ⟨hwl,hwo⟩:=waysF_ok F a
  repeat' (first|refine zN ?_|refine zE ?_|refine zP ?_|refine pD ?_|refine pC (by first|exact ⟨hv,ha⟩|omega) ?_|refine zS ?_|refine zR ?_|refine zO ?_|refine zB ?_|refine zX ?_|refine zT ?_|refine skipI rfl ?_)
  simp only [← hr]
  refine condI rfl (fun c2=>?_) (fun c2=>?_)
  ·cases r with
   | some w=>cases c2
   | none =>
     repeat' (first|refine zN ?_|refine zE ?_|refine zP ?_|refine pD ?_|refine zS ?_|refine zR ?_|refine zO ?_|refine zB ?_|refine zX ?_|refine zT ?_|refine skipI rfl ?_)
     refine endR rfl ?_
     repeat' (first|exact trivial|exact rfl|refine ⟨rfl,?_⟩|refine And.intro ?_ ?_)
  ·cases r with
   | none=>cases c2
   | some w =>
     repeat' (first|refine zN ?_|refine zE ?_|refine zP ?_|refine pD ?_|refine pC (by exact rfl) ?_|refine zS ?_|refine zR ?_|refine zO ?_|refine zB ?_|refine zX ?_|refine zT ?_|refine skipI rfl ?_)
     refine endR rfl ?_
     repeat' (first|exact trivial|exact rfl|refine ⟨rfl,?_⟩|refine And.intro ?_ ?_)
end Go.AM.YtkgmmmhokgdcaaaGreat.Fl
end

section
set_option linter.all false
namespace Go.AM.YtkgmmmhokgdcaaaGreat.Fl
open Go.Proofs
set_option maxRecDepth 100000
set_option maxHeartbeats 4000000
def growS:Spec:=⟨true,fun args rows=>match args,rows with
 | [.nilsl,.int .i64 n],[]=>some ⟨0 < n∧n≤1000,.own 0,[.seq tInt []],true⟩
 | _,_=>none⟩
theorem growOk:SpecSound Tryz.prog 153 growS:=by
 refine soundR (envOf sigNil) Tryz.func153 (c:=body Tryz.f153) rfl (by kernel_rfl) rfl ?_
 intro args rows out hf hpre
 split at hf <;> try (cases hf;done)
 rename_i n
 cases hf
 refine ⟨Nat.le_of_ble_eq_true rfl,initI (args:=[.nilsl,.int .i64 n]) (rows:=[]) rfl ?_⟩
 obtain ⟨h0,h1⟩:=hpre
 repeat' (first|refine zN ?_|refine zE ?_|refine zP ?_|refine pD ?_|refine pC (by (unfold In64;omega)) ?_|refine zS ?_|refine zR ?_|refine zO ?_|refine zB ?_|refine zX ?_|refine zT ?_|refine skipI rfl ?_)
 refine condI rfl (fun c1=>?_) (fun c1=>?_)
 ·simp only [decide_eq_true_eq] at c1
  exfalso
  omega
 repeat' (first|refine zN ?_|refine zE ?_|refine zP ?_|refine pD ?_|refine pC (by (unfold In64;omega)) ?_|refine zS ?_|refine zR ?_|refine zO ?_|refine zB ?_|refine zX ?_|refine zT ?_|refine skipI rfl ?_)
 refine condI rfl (fun c2=>?_) (fun c2=>?_)
 ·repeat' (first|refine zN ?_|refine zE ?_|refine zP ?_|refine pD ?_|refine pC (by (show Int.toNat _ * 8≤_;omega)) ?_|refine zS ?_|refine zR ?_|refine zO ?_|refine zB ?_|refine zX ?_|refine zT ?_|refine skipI rfl ?_)
  refine endR rfl ?_
  repeat' (first|exact trivial|exact rfl|refine ⟨rfl,?_⟩|refine And.intro ?_ ?_)
 ·simp only [decide_eq_false_iff_not] at c2
  exfalso
  omega
def catS:Spec:=plain fun
 | [.sl (.slice (.int .i64)) xss]=>some ⟨1≤xss.flatten.length∧xss.flatten.length≤1000,.own 0,[.seq tInt xss.flatten],false⟩
 | _=>none
def sigCat:List (Nat × Spec):=[(153,growS)]
theorem sigCatOk:SigOk Tryz.prog (look sigCat):=sigCons sigNil Tryz.func153 (by kernel_rfl) (c:=body Tryz.f153) rfl growOk
theorem flat_succ {xss:List (List Int)} {i:Nat} (hi:i < xss.length):(xss.take (i+1)).flatten=(xss.take i).flatten++getI xss [] i:=by
 rw [List.take_succ,List.flatten_append]
 congr 1
 simp [getI,List.getD,List.getElem?_eq_getElem hi]
theorem flat_le {xss:List (List Int)} (i:Nat):(xss.take i).flatten.length≤xss.flatten.length:=by
 conv=>rhs;rw [← List.take_append_drop i xss,List.flatten_append,List.length_append]
 omega
theorem catOk:SpecSound Tryz.prog 119 catS:=by
 refine soundP (envOf sigCatOk) Tryz.func119 (c:=body Tryz.f119) rfl (by kernel_rfl) rfl ?_
 intro args out hf hpre
 split at hf <;> try (cases hf;done)
 rename_i xss
 cases hf
 refine ⟨Nat.le_of_ble_eq_true rfl,initI (args:=[.sl (.slice tInt) xss]) rfl ?_⟩
 obtain ⟨h1,h2⟩:1≤(List.flatten (α:=Int) xss).length∧(List.flatten (α:=Int) xss).length≤1000:=hpre
 refine factSl (t:=0) (ty:=.slice tInt) rfl (fun hxs=>?_)
 have hmx:List.length (α:=List Int) xss≤9223372036854775807:=by have:=hxs.1;unfold maxLen at this;exact this
 repeat' (first|refine zN ?_|refine zE ?_|refine zP ?_|refine pD ?_|refine zS ?_|refine zR ?_|refine zO ?_|refine zB ?_|refine zX ?_|refine zT ?_|refine skipI rfl ?_)
 refine loopI (σ:=Nat) (fun i=>[(11,.int .i64 i),(3,.int .i64 (List.length (α:=Int) (List.flatten (List.take (α:=List Int) i xss)):Nat))]) (fun i=>[]) (fun i=>i≤List.length (α:=List Int) xss) (fun i=>List.length (α:=List Int) xss - i) 0 rfl (fun _=>rfl) rfl ?_ ?_ ?_
 ·exact Nat.zero_le _
 ·repeat' (first|exact trivial|exact rfl|refine ⟨rfl,?_⟩|refine And.intro ?_ ?_)
 intro i hi
 repeat' (first|refine zN ?_|refine zE ?_|refine zP ?_|refine pD ?_|refine zS ?_|refine zR ?_|refine zO ?_|refine zB ?_|refine zX ?_|refine zT ?_|refine skipI rfl ?_)
 refine condI rfl (fun c1=>?_) (fun c1=>?_)
 ·simp only [decide_eq_true_eq] at c1
  have hil:i < List.length (α:=List Int) xss:=by omega
  have hin:((i:Int)).toNat=i:=by omega
  have hs:=flat_succ hil
  have hle:=flat_le (xss:=xss) (i+1)
  rw [hs,List.length_append] at hle
  have hlen:List.length (α:=Int) (getI xss ((Ty.slice tInt).dflt) i)=(getI xss [] i).length:=rfl
  repeat' (first|refine zN ?_|refine zE ?_|refine zP ?_|refine pD ?_|refine pC (by (simp only [hin,hlen];unfold In64;omega)) ?_|refine zS ?_|refine zR ?_|refine zO ?_|refine zB ?_|refine zX ?_|refine zT ?_|refine skipI rfl ?_)
  refine condI rfl (fun c2=>?_) (fun c2=>?_)
  ·simp only [decide_eq_true_eq,hin,hlen] at c2
   exfalso
   omega
  repeat' (first|refine zN ?_|refine zE ?_|refine zP ?_|refine pD ?_|refine zS ?_|refine zR ?_|refine zO ?_|refine zB ?_|refine zX ?_|refine zT ?_|refine skipI rfl ?_)
  refine roundI (i+1) rfl ?_ ?_ ?_
  ·show i+1≤List.length (α:=List Int) xss
   omega
  ·show List.length (α:=List Int) xss - (i+1) < List.length (α:=List Int) xss - i
   omega
  ·repeat' (first|exact trivial|with_reducible exact rfl|refine And.intro ?_ ?_)
   all_goals (try rfl)
   simp only [hin,hlen]
   rw [hs,List.length_append]
   omega
 ·simp only [decide_eq_false_iff_not] at c1
  obtain rfl:i=List.length (α:=List Int) xss:=by omega
  have htk:List.take (α:=List Int) (List.length (α:=List Int) xss) xss=xss:=List.take_length
  rw [htk]
  repeat' (first|refine zN ?_|refine zE ?_|refine zP ?_|refine pD ?_|refine pC (by (show (0:Int) < _∧_≤_;omega)) ?_|refine zS ?_|refine zR ?_|refine zO ?_|refine zB ?_|refine zX ?_|refine zT ?_|refine skipI rfl ?_)
  refine loopI (σ:=Nat) (fun i=>[(27,.int .i64 i),(6,.own 24000)]) (fun i=>[(24000,.seq tInt (List.flatten (List.take (α:=List Int) i xss)))]) (fun i=>i≤List.length (α:=List Int) xss) (fun i=>List.length (α:=List Int) xss - i) 0 rfl (fun _=>rfl) rfl ?_ ?_ ?_
  ·exact Nat.zero_le _
  ·repeat' (first|exact trivial|exact rfl|refine ⟨rfl,?_⟩|refine And.intro ?_ ?_)
  intro i hi
  repeat' (first|refine zN ?_|refine zE ?_|refine zP ?_|refine pD ?_|refine zS ?_|refine zR ?_|refine zO ?_|refine zB ?_|refine zX ?_|refine zT ?_|refine skipI rfl ?_)
  refine condI rfl (fun c1=>?_) (fun c1=>?_)
  ·simp only [decide_eq_true_eq] at c1
   have hil:i < List.length (α:=List Int) xss:=by omega
   have hin:((i:Int)).toNat=i:=by omega
   have hs:=flat_succ hil
   have hle:=flat_le (xss:=xss) (i+1)
   rw [hs,List.length_append] at hle
   have hlen:List.length (α:=Int) (getI xss ((Ty.slice tInt).dflt) i)=(getI xss [] i).length:=rfl
   repeat' (first|refine zN ?_|refine zE ?_|refine zP ?_|refine pD ?_|refine pC (by first|(simp only [hin,hlen];first|omega|(unfold In64;omega))) ?_|refine zS ?_|refine zR ?_|refine zO ?_|refine zB ?_|refine zX ?_|refine zT ?_|refine skipI rfl ?_)
   refine roundI (i+1) rfl ?_ ?_ ?_
   ·show i+1≤List.length (α:=List Int) xss
    omega
   ·show List.length (α:=List Int) xss - (i+1) < List.length (α:=List Int) xss - i
    omega
   ·repeat' (first|exact trivial|with_reducible exact rfl|refine And.intro ?_ ?_)
    all_goals (try rfl)
    all_goals (simp only [hin];rw [hs];rfl)
  ·simp only [decide_eq_false_iff_not] at c1
   obtain rfl:i=List.length (α:=List Int) xss:=by omega
   rw [htk]
   repeat' (first|refine zN ?_|refine zE ?_|refine zP ?_|refine pD ?_|refine zS ?_|refine zR ?_|refine zO ?_|refine zB ?_|refine zX ?_|refine zT ?_|refine skipI rfl ?_)
   refine endR rfl ?_
   repeat' (first|exact trivial|exact rfl|refine ⟨rfl,?_⟩|refine And.intro ?_ ?_)
def probF (mn mx:Int) (ss:List StepT) (ws:List WinT) (w:WinT):(Int × List Int) × Bool :=
 match wayGet mn mx ss ws w.1 w.2.1 with
 | none=>((4,[w.1,w.2.1]),true)
 | some v=>bif decide (w.2.2 < v.1) then ((3,w.1::(v.2++[w.2.1])),true) else ((0,[]),false)
theorem get_len {mn mx:Int} {ss:List StepT} {ws:List WinT} {a b:Int} {v:WayT} (h:wayGet mn mx ss ws a b=some v):v.2.length≤41:=by
 unfold wayGet at h
 cases hg:givF mn mx ss ws [a,b]
 ·rw [hg] at h;cases h
 ·rw [hg] at h
  have h:getI (waysF mn ss a) none b.toNat=some v:=h
  have:=(getD_ok (waysF_ok (flow_sm (giv_facts hg).1) a).2 b.toNat).2
  rw [h] at this
  exact this
def probS:Spec:=⟨true,fun args rows=>match args,rows with
 | [.agg [.int .i64 mn,.int .i64 mx,.sl (.pair (.int .i64) (.pair (.slice (.int .i64)) (.pair (.int .i64) (.pair (.int .i64) (.pair (.slice (.int .i64)) (.pair (.int .i64) (.int .i64))))))) ss,.sl (.pair (.int .i64) (.pair (.int .i64) (.int .i64))) ws],.agg [.int .i64 a,.int .i64 b,.int .i64 l]],[] =>
   some ⟨True,.tup [.agg [.int .i64 (probF mn mx ss ws (a,b,l)).1.1,.sl tInt (probF mn mx ss ws (a,b,l)).1.2],.bool (probF mn mx ss ws (a,b,l)).2],[],true⟩
 | _,_=>none⟩
def sigProb:List (Nat × Spec):=[(117,wayS),(118,quickS),(119,catS)]
theorem sigProbOk:SigOk Tryz.prog (look sigProb):=sigCons (sigCons (sigCons sigNil
 Tryz.func119 (by kernel_rfl) (c:=body Tryz.f119) rfl catOk)
 Tryz.func118 (by kernel_rfl) (c:=body Tryz.f118) rfl quickOk)
 Tryz.func117 (by kernel_rfl) (c:=body Tryz.f117) rfl wayOk'
theorem probOk:SpecSound Tryz.prog 63 probS:=by
 refine soundR (envOf sigProbOk) Tryz.func63 (c:=body Tryz.f63) rfl (by kernel_rfl) rfl ?_
 intro args rows out hf hpre
 split at hf <;> try (cases hf;done)
 rename_i mn mx ss ws a b l
 cases hf
 refine ⟨Nat.le_of_ble_eq_true rfl,initI (args:=[.agg [.int .i64 mn,.int .i64 mx,.sl tStep ss,.sl tWin ws],.agg [.int .i64 a,.int .i64 b,.int .i64 l]]) (rows:=[]) rfl ?_⟩
 obtain ⟨r,hr⟩:∃ r,r=probF mn mx ss ws (a,b,l):=⟨_,rfl⟩
 rw [← hr]
 unfold probF at hr
 dsimp only at hr
 repeat' (first|refine zN ?_|refine zE ?_|refine zP ?_|refine pD ?_|refine zS ?_|refine zR ?_|refine zO ?_|refine zB ?_|refine zX ?_|refine zT ?_|refine skipI rfl ?_)
 refine condI rfl (fun c1=>?_) (fun c1=>?_)
 ·cases hg:wayGet mn mx ss ws a b with
  | some v=>rw [hg] at c1;cases c1
  | none =>
    rw [hg] at hr
    rw [hr]
    repeat' (first|refine zN ?_|refine zE ?_|refine zP ?_|refine zS ?_|refine zO ?_|refine zB ?_|refine zX ?_|refine zT ?_|refine skipI rfl ?_)
    refine zR ?_
    repeat' (first|with_reducible refine pN ?_|refine pD ?_|fail)
    repeat with_reducible refine cN ?_
    refine freezeI 25 rfl ?_
    repeat' (first|refine zN ?_|refine zE ?_|refine zP ?_|refine pD ?_|refine zS ?_|refine zR ?_|refine zO ?_|refine zB ?_|refine zX ?_|refine zT ?_|refine skipI rfl ?_)
    refine endR rfl ?_
    repeat' (first|exact trivial|exact rfl|refine ⟨rfl,?_⟩|refine And.intro ?_ ?_)
 ·cases hg:wayGet mn mx ss ws a b with
  | none=>rw [hg] at c1;cases c1
  | some v =>
    rw [hg] at hr
    have hl:=get_len hg
    repeat' (first|refine zN ?_|refine zE ?_|refine zP ?_|refine pD ?_|refine zS ?_|refine zR ?_|refine zO ?_|refine zB ?_|refine zX ?_|refine zT ?_|refine skipI rfl ?_)
    simp only [hg]
    refine condI rfl (fun c2=>?_) (fun c2=>?_)
    ·have c2:decide (l < v.1)=true:=c2
     have hr:r=bif decide (l < v.1) then ((3,a::(v.2++[b])),true) else ((0,[]),false):=hr
     rw [c2] at hr
     rw [hr]
     repeat' (first|refine zN ?_|refine zE ?_|refine zP ?_|refine zS ?_|refine zO ?_|refine zB ?_|refine zX ?_|refine zT ?_|refine skipI rfl ?_)
     refine zR ?_
     repeat' (first|with_reducible refine pN ?_|refine pD ?_|refine pC (by (show 1≤List.length _∧List.length _≤_;simp;omega)) ?_)
     repeat with_reducible refine cN ?_
     refine freezeI 48 rfl ?_
     repeat' (first|refine zN ?_|refine zE ?_|refine zP ?_|refine pD ?_|refine zS ?_|refine zR ?_|refine zO ?_|refine zB ?_|refine zX ?_|refine zT ?_|refine skipI rfl ?_)
     refine endR rfl ?_
     repeat' (first|exact trivial|exact rfl|refine ⟨rfl,?_⟩|refine And.intro ?_ ?_)
    ·have c2:decide (l < v.1)=false:=c2
     have hr:r=bif decide (l < v.1) then ((3,a::(v.2++[b])),true) else ((0,[]),false):=hr
     rw [c2] at hr
     rw [hr]
     repeat' (first|refine zN ?_|refine zE ?_|refine zP ?_|refine pD ?_|refine zS ?_|refine zR ?_|refine zO ?_|refine zB ?_|refine zX ?_|refine zT ?_|refine skipI rfl ?_)
     refine endR rfl ?_
     repeat' (first|exact trivial|exact rfl|refine ⟨rfl,?_⟩|refine And.intro ?_ ?_)
def checkW (mn mx:Int) (ss:List StepT) (ws:List WinT):List WinT→Int × List Int
 | []=>(0,[])
 | w::r=>bif (probF mn mx ss ws w).2 then (probF mn mx ss ws w).1 else checkW mn mx ss ws r
def checkF (mn mx:Int) (ss:List StepT) (ws:List WinT):Int × List Int:=bif validF mn mx ss ws then checkW mn mx ss ws ws else (0,[])
def wcheckS:Spec:=⟨true,fun args rows=>match args,rows with
 | [.agg [.int .i64 mn,.int .i64 mx,.sl (.pair (.int .i64) (.pair (.slice (.int .i64)) (.pair (.int .i64) (.pair (.int .i64) (.pair (.slice (.int .i64)) (.pair (.int .i64) (.int .i64))))))) ss,.sl (.pair (.int .i64) (.pair (.int .i64) (.int .i64))) ws]],[] =>
   some ⟨True,.agg [.int .i64 (checkF mn mx ss ws).1,.sl tInt (checkF mn mx ss ws).2],[],true⟩
 | _,_=>none⟩
def sigWc:List (Nat × Spec):=[(62,fvalidS),(63,probS)]
theorem sigWcOk:SigOk Tryz.prog (look sigWc):=sigCons (sigCons sigNil
 Tryz.func63 (by kernel_rfl) (c:=body Tryz.f63) rfl probOk)
 Tryz.func62 (by kernel_rfl) (c:=body Tryz.f62) rfl fvalidOk
theorem wcheckOk:SpecSound Tryz.prog 30 wcheckS:=by
 refine soundR (envOf sigWcOk) Tryz.func30 (c:=body Tryz.f30) rfl (by kernel_rfl) rfl ?_
 intro args rows out hf hpre
 split at hf <;> try (cases hf;done)
 rename_i mn mx ss ws
 cases hf
 refine ⟨Nat.le_of_ble_eq_true rfl,initI (args:=[.agg [.int .i64 mn,.int .i64 mx,.sl tStep ss,.sl tWin ws]]) (rows:=[]) rfl ?_⟩
 obtain ⟨r,hr⟩:∃ r,r=checkF mn mx ss ws:=⟨_,rfl⟩
 rw [← hr]
 unfold checkF at hr
 repeat' (first|refine zN ?_|refine zE ?_|refine zP ?_|refine pD ?_|refine zS ?_|refine zR ?_|refine zO ?_|refine zB ?_|refine zX ?_|refine zT ?_|refine skipI rfl ?_)
 refine condI rfl (fun c1=>?_) (fun c1=>?_)
 ·have c1:validF mn mx ss ws=false:=by simpa using c1
  rw [c1] at hr
  rw [show r=(0,[]) from hr]
  repeat' (first|refine zN ?_|refine zE ?_|refine zP ?_|refine pD ?_|refine zS ?_|refine zR ?_|refine zO ?_|refine zB ?_|refine zX ?_|refine zT ?_|refine skipI rfl ?_)
  refine endR rfl ?_
  repeat' (first|exact trivial|exact rfl|refine ⟨rfl,?_⟩|refine And.intro ?_ ?_)
 have c1:validF mn mx ss ws=true:=by simpa using c1
 rw [c1] at hr
 have hr:r=checkW mn mx ss ws ws:=hr
 have hwl:=(flow_sm c1).wl
 repeat' (first|refine zN ?_|refine zE ?_|refine zP ?_|refine pD ?_|refine zS ?_|refine zR ?_|refine zO ?_|refine zB ?_|refine zX ?_|refine zT ?_|refine skipI rfl ?_)
 refine loopI (σ:=Nat) (fun i=>[(14,.int .i64 i)]) (fun i=>[]) (fun i=>i≤ws.length∧r=checkW mn mx ss ws (ws.drop i)) (fun i=>ws.length - i) 0 rfl (fun _=>rfl) rfl ?_ ?_ ?_
 ·exact ⟨Nat.zero_le _,hr⟩
 ·repeat' (first|exact trivial|exact rfl|refine ⟨rfl,?_⟩|refine And.intro ?_ ?_)
 rintro i ⟨hi,hq⟩
 repeat' (first|refine zN ?_|refine zE ?_|refine zP ?_|refine pD ?_|refine zS ?_|refine zR ?_|refine zO ?_|refine zB ?_|refine zX ?_|refine zT ?_|refine skipI rfl ?_)
 refine condI rfl (fun c3=>?_) (fun c3=>?_)
 ·simp only [decide_eq_true_eq] at c3
  have hil:i < ws.length:=by omega
  have hin:((i:Int)).toNat=i:=by omega
  rw [show ws.drop i=getI ws tWin.dflt i::ws.drop (i+1) by rw [List.drop_eq_getElem_cons hil];simp [getI,List.getD,List.getElem?_eq_getElem hil]] at hq
  unfold checkW at hq
  repeat' (first|refine zN ?_|refine zE ?_|refine zP ?_|refine pD ?_|refine zS ?_|refine zR ?_|refine zO ?_|refine zB ?_|refine zX ?_|refine zT ?_|refine skipI rfl ?_)
  refine condI rfl (fun c4=>?_) (fun c4=>?_)
  ·have h9:(probF mn mx ss ws (getI ws tWin.dflt i)).2=true:=by simp only [hin] at c4;exact c4
   rw [h9] at hq
   have hq:r=(probF mn mx ss ws (getI ws tWin.dflt i)).1:=hq
   rw [hq]
   repeat' (first|refine zN ?_|refine zE ?_|refine zP ?_|refine pD ?_|refine zS ?_|refine zR ?_|refine zO ?_|refine zB ?_|refine zX ?_|refine zT ?_|refine skipI rfl ?_)
   refine endR rfl ?_
   repeat' (first|exact trivial|exact rfl|refine ⟨rfl,?_⟩|refine And.intro ?_ ?_)
   all_goals (simp only [hin];rfl)
  ·have h9:(probF mn mx ss ws (getI ws tWin.dflt i)).2=false:=by simp only [hin] at c4;exact c4
   rw [h9] at hq
   repeat' (first|refine zN ?_|refine zE ?_|refine zP ?_|refine pD ?_|refine zS ?_|refine zR ?_|refine zO ?_|refine zB ?_|refine zX ?_|refine zT ?_|refine skipI rfl ?_)
   refine roundI (i+1) rfl ?_ ?_ ?_
   ·exact ⟨by show i+1≤ws.length;omega,hq⟩
   ·show ws.length - (i+1) < ws.length - i
    omega
   ·repeat' (first|exact trivial|with_reducible exact rfl|refine And.intro ?_ ?_)
    all_goals rfl
 ·simp only [decide_eq_false_iff_not] at c3
  rw [List.drop_eq_nil_of_le (show ws.length≤i by omega)] at hq
  rw [show r=(0,[]) from hq]
  repeat' (first|refine zN ?_|refine zE ?_|refine zP ?_|refine pD ?_|refine zS ?_|refine zR ?_|refine zO ?_|refine zB ?_|refine zX ?_|refine zT ?_|refine skipI rfl ?_)
  refine endR rfl ?_
  repeat' (first|exact trivial|exact rfl|refine ⟨rfl,?_⟩|refine And.intro ?_ ?_)
end Go.AM.YtkgmmmhokgdcaaaGreat.Fl
end
