/- Package graph: the loop that finds the quickest ways. -/
import Derived.Test.YtkgmmmhokgdcaaaGreatGrEK
import Derived.Test.YtkgmmmhokgdcaaaGreatPa24
set_option linter.all false
namespace Go.AM.YtkgmmmhokgdcaaaGreat.Fl
open Go.Proofs
set_option maxRecDepth 100000
set_option maxHeartbeats 4000000
def waysS:Spec:=⟨true,fun args rows=>match args,rows with
  | [.agg [.int .i64 mn,.int .i64 mx,.sl (.pair (.int .i64) (.pair (.slice (.int .i64)) (.pair (.int .i64) (.pair (.int .i64) (.pair (.slice (.int .i64)) (.pair (.int .i64) (.int .i64))))))) ss,.sl (.pair (.int .i64) (.pair (.int .i64) (.int .i64))) ws],.int .i64 fr],[] =>
    some ⟨validF mn mx ss ws=true∧(0≤fr∧fr < ss.length),.own 0,[.seq (.opt tWay) (waysF mn ss fr)],true⟩
  | _,_=>none⟩
def sigWays:List (Nat × Spec):=[(162,add1S),(161,ordS),(50,Re.cloneIS)]
theorem sigWaysOk:SigOk Tryz.prog (look sigWays):=sigCons (sigCons (sigCons sigNil
  Tryz.func50 (by kernel_rfl) (c:=body Tryz.f50) rfl Re.cloneIOk)
  Tryz.func161 (by kernel_rfl) (c:=body Tryz.f161) rfl ordOk)
  Tryz.func162 (by kernel_rfl) (c:=body Tryz.f162) rfl add1Ok
theorem some_and {α:Type} {y:Option α} {b:Bool} (h:(!y.isNone&&b)=true):y.isSome=true:=by cases y <;> simp_all
theorem waysOk:SpecSound Tryz.prog 152 waysS:=by
  refine soundR (envOf sigWaysOk) Tryz.func152 (c:=body Tryz.f152) rfl (by kernel_rfl) rfl ?_
  intro args rows out hf hpre
  split at hf <;> try (cases hf;done)
  rename_i mn mx ss ws fr
  cases hf
  refine ⟨Nat.le_of_ble_eq_true rfl,initI (args:=[.agg [.int .i64 mn,.int .i64 mx,.sl tStep ss,.sl tWin ws],.int .i64 fr]) (rows:=[]) rfl ?_⟩
  obtain ⟨hv,hf0,hf1⟩:=hpre
  have F:=flow_sm hv
  have hn2:=F.n2
  have hstart:∀ n∈aftL (getI ss tStep.dflt fr.toNat).2.2.2.2.2.1 (getI ss tStep.dflt fr.toNat).2.2.2.2.1,0≤n∧n < ((List.replicate ss.length (none:Option WayT)).length:Nat):=fun n hn=>by
    have:=after_in (F.st _ (fl_mem (d:=tStep.dflt) (show fr.toNat < ss.length by omega))) n hn
    rw [List.length_replicate];exact this
  repeat' (first|with_reducible (first|apply pN|apply cN|apply bN|apply cE|apply cR|apply bR|apply lE|apply lR|apply jE|apply jR)|refine bE rfl ?_|refine bP rfl ?_|refine pD ?_|refine pC (by first|exact hstart|omega) ?_|refine seqI rfl ?_|refine regI rfl ?_|refine scopeI rfl ?_|refine blockI rfl ?_|refine exitI rfl ?_|refine retI rfl ?_|refine skipI rfl ?_)
  obtain ⟨W,hW⟩:∃ W,W=waysF mn ss fr:=⟨_,rfl⟩
  rw [← hW]
  unfold waysF at hW
  obtain ⟨hs1,hs2⟩:=start_ok F fr
  refine loopI (σ:=Nat × List (Option WayT) × List Bool) (fun s=>[]) (fun s=>[(15,.seq (.opt tWay) s.2.1),(19,.seq .bool s.2.2)]) (fun s=>((s.2.1.length=ss.length∧s.2.2.length=ss.length)∧s.2.2.count true=s.1)∧wayOk s.1 s.2.1∧W=wLoop mn ss (ss.length+1 - s.1) s.2.1 s.2.2) (fun s=>ss.length+1 - s.1) (0,startW mn ss fr,List.replicate ss.length false) rfl (fun _=>rfl) rfl ?_ ?_ ?_
  · exact ⟨⟨⟨hs1,List.length_replicate⟩,by simp [List.count_replicate]⟩,hs2,hW⟩
  · repeat' (first|exact trivial|with_reducible exact rfl|refine And.intro ?_ ?_)
    all_goals rfl
  rintro ⟨k,out,done⟩ ⟨⟨⟨hol,hdl⟩,hcnt⟩,hok,hWk⟩
  dsimp only at hol hdl hcnt hok hWk ⊢
  have hk:k≤ss.length:=by rw [← hcnt,← hdl];exact List.count_le_length
  rw [show ss.length+1 - k=(ss.length - k)+1 by omega] at hWk
  unfold wLoop at hWk
  rw [hol] at hWk
  repeat' (first|with_reducible (first|apply pN|apply cN|apply bN|apply cE|apply cR|apply bR|apply lE|apply lR|apply jE|apply jR)|refine bE rfl ?_|refine bP rfl ?_|refine pD ?_|refine seqI rfl ?_|refine regI rfl ?_|refine scopeI rfl ?_|refine blockI rfl ?_|refine exitI rfl ?_|refine retI rfl ?_|refine skipI rfl ?_)
  refine loopI (σ:=Nat) (fun i=>[(33,.int .i64 i),(9,.int .i64 (pickW out done i))]) (fun i=>[]) (fun i=>i≤ss.length) (fun i=>ss.length - i) 0 rfl (fun _=>rfl) rfl ?_ ?_ ?_
  · exact Nat.zero_le _
  · repeat' (first|exact trivial|exact rfl|refine ⟨rfl,?_⟩|refine And.intro ?_ ?_)
  intro i hi
  repeat' (first|with_reducible (first|apply pN|apply cN|apply bN|apply cE|apply cR|apply bR|apply lE|apply lR|apply jE|apply jR)|refine bE rfl ?_|refine bP rfl ?_|refine pD ?_|refine seqI rfl ?_|refine regI rfl ?_|refine scopeI rfl ?_|refine blockI rfl ?_|refine exitI rfl ?_|refine retI rfl ?_|refine skipI rfl ?_)
  refine condI rfl (fun c1=>?_) (fun c1=>?_)
  · simp only [decide_eq_true_eq] at c1
    have hil:i < ss.length:=by omega
    have hin:((i:Int)).toNat=i:=by omega
    have hpk:=pickW_spec (out:=out) (done:=done) i
    have hge:∀ h:decide (pickW out done i < 0)=false,0≤pickW out done i∧pickW out done i < out.length∧(getI out none (pickW out done i).toNat).isSome=true:=fun h=>by
      rcases hpk with h1|⟨a,h1,h2,h3,_⟩
      · rw [h1] at h;cases h
      · rw [h1];exact ⟨by omega,by omega,h3⟩
    repeat' (first|with_reducible (first|apply pN|apply cN|apply bN|apply cE|apply cR|apply bR|apply lE|apply lR|apply jE|apply jR)|refine bE rfl ?_|refine bP rfl ?_|refine pD ?_|refine pC (by first|exact fun h _=>some_and h|exact fun _ h=>(hge h).1|exact fun _ h=>(hge h).2.1|exact fun _ h=>(hge h).2.2|(intro _ h;have:=hge h;omega)|(intros;exact True.intro)|omega) ?_|refine seqI rfl ?_|refine regI rfl ?_|refine scopeI rfl ?_|refine blockI rfl ?_|refine exitI rfl ?_|refine retI rfl ?_|refine skipI rfl ?_)
    have hsucc:pickW out done (i+1)=bif (!(getI out none i).isNone&&!getI done false i)&&(decide (pickW out done i < 0)||decide (ordF ((getI out none i).getD w0) ((getI out none (pickW out done i).toNat).getD w0) < 0)) then (i:Int) else pickW out done i:=rfl
    refine condI rfl (fun c2=>?_) (fun c2=>?_)
    · simp only [hin] at c2
      have c2:((!(getI out none i).isNone&&!getI done false i)&&(decide (pickW out done i < 0)||decide (ordF ((getI out none i).getD w0) ((getI out none (pickW out done i).toNat).getD w0) < 0)))=true:=c2
      rw [c2] at hsucc
      repeat' (first|with_reducible (first|apply pN|apply cN|apply bN|apply cE|apply cR|apply bR|apply lE|apply lR|apply jE|apply jR)|refine bE rfl ?_|refine bP rfl ?_|refine pD ?_|refine seqI rfl ?_|refine regI rfl ?_|refine scopeI rfl ?_|refine blockI rfl ?_|refine exitI rfl ?_|refine retI rfl ?_|refine skipI rfl ?_)
      refine roundI (i+1) rfl ?_ ?_ ?_
      · show i+1≤ss.length
        omega
      · show ss.length - (i+1) < ss.length - i
        omega
      · repeat' (first|exact trivial|with_reducible exact rfl|refine And.intro ?_ ?_)
        all_goals (first|rfl|exact hsucc)
    · simp only [hin] at c2
      have c2:((!(getI out none i).isNone&&!getI done false i)&&(decide (pickW out done i < 0)||decide (ordF ((getI out none i).getD w0) ((getI out none (pickW out done i).toNat).getD w0) < 0)))=false:=c2
      rw [c2] at hsucc
      repeat' (first|with_reducible (first|apply pN|apply cN|apply bN|apply cE|apply cR|apply bR|apply lE|apply lR|apply jE|apply jR)|refine bE rfl ?_|refine bP rfl ?_|refine pD ?_|refine seqI rfl ?_|refine regI rfl ?_|refine scopeI rfl ?_|refine blockI rfl ?_|refine exitI rfl ?_|refine retI rfl ?_|refine skipI rfl ?_)
      refine roundI (i+1) rfl ?_ ?_ ?_
      · show i+1≤ss.length
        omega
      · show ss.length - (i+1) < ss.length - i
        omega
      · repeat' (first|exact trivial|with_reducible exact rfl|refine And.intro ?_ ?_)
        all_goals (first|rfl|exact hsucc)
  · simp only [decide_eq_false_iff_not] at c1
    obtain rfl:i=ss.length:=by omega
    obtain ⟨at',hat⟩:∃ a,a=pickW out done ss.length:=⟨_,rfl⟩
    have hpk:=pickW_spec (out:=out) (done:=done) ss.length
    rw [← hat] at hpk hWk ⊢
    repeat' (first|with_reducible (first|apply pN|apply cN|apply bN|apply cE|apply cR|apply bR|apply lE|apply lR|apply jE|apply jR)|refine bE rfl ?_|refine bP rfl ?_|refine pD ?_|refine seqI rfl ?_|refine regI rfl ?_|refine scopeI rfl ?_|refine blockI rfl ?_|refine exitI rfl ?_|refine retI rfl ?_|refine skipI rfl ?_)
    refine condI rfl (fun c3=>?_) (fun c3=>?_)
    · have c3:decide (at' < 0)=true:=c3
      rw [c3] at hWk
      repeat' (first|with_reducible (first|apply pN|apply cN|apply bN|apply cE|apply cR|apply bR|apply lE|apply lR|apply jE|apply jR)|refine bE rfl ?_|refine bP rfl ?_|refine pD ?_|refine seqI rfl ?_|refine regI rfl ?_|refine scopeI rfl ?_|refine blockI rfl ?_|refine exitI rfl ?_|refine retI rfl ?_|refine skipI rfl ?_)
      refine endR rfl ?_
      repeat' (first|exact trivial|exact rfl|refine ⟨rfl,?_⟩|refine And.intro ?_ ?_)
      exact hWk
    · have c3:decide (at' < 0)=false:=c3
      rw [c3] at hWk
      rcases hpk with h1|⟨a,h1,h2,h3,h4⟩
      · rw [h1] at c3;cases c3
      subst h1
      have hta:((a:Int)).toNat=a:=by omega
      rw [hta] at hWk
      have hWk:W=wLoop mn ss (ss.length - k) (addW out (nextW mn ss out a) (afterL (getI ss tStep.dflt a))) (done.set a true):=hWk
      have hgo:=getD_ok hok a
      have hnx:=nextW_ok F hok h2
      have hst:=F.st _ (fl_mem (d:=tStep.dflt) h2)
      have haft:=after_in hst
      have hcs:=count_set (l:=done) (by omega) h4
      have hk2:k+1≤ss.length:=by
        have:(done.set a true).count true≤(done.set a true).length:=List.count_le_length
        rw [hcs,List.length_set] at this
        omega
      have hm0:=F.mn0
      have hm1:=F.mm
      have hm2:=F.mx1
      have hs0:=hst.mn
      have hs1:=hst.mm
      have hs2:=hst.mx
      have e1:In64 (((getI out none a).getD w0).1+stMn (getI ss tStep.dflt a)):=by unfold In64;omega
      have e2:In64 (((getI out none a).getD w0).1+stMn (getI ss tStep.dflt a)+mn):=by unfold In64;omega
      have e3:((getI out none a).getD w0).2.length * 8≤140737488355328:=by omega
      have e4:(((getI out none a).getD w0).2.length+[(a:Int)].length) * 8≤140737488355328:=by show (_+1) * 8≤_;omega
      have e5:∀ n∈aftL (stBk (getI ss tStep.dflt a)) (stNx (getI ss tStep.dflt a)),0≤n∧n < (out.length:Int):=fun n hn=>by have:=haft n hn;omega
      repeat' (first|with_reducible (first|apply pN|apply cN|apply bN|apply cE|apply cR|apply bR|apply lE|apply lR|apply jE|apply jR)|refine bE rfl ?_|refine bP rfl ?_|refine pD ?_|refine pC (by first|omega|(simp only [hta];first|exact h3|exact e1|exact e2|exact e3|exact e4|exact e5)) ?_|refine seqI rfl ?_|refine regI rfl ?_|refine scopeI rfl ?_|refine blockI rfl ?_|refine exitI rfl ?_|refine retI rfl ?_|refine skipI rfl ?_)
      refine roundI (k+1,addW out (nextW mn ss out a) (afterL (getI ss tStep.dflt a)),done.set a true) rfl ?_ ?_ ?_
      · refine ⟨⟨⟨by rw [addW_len];exact hol,by rw [List.length_set];exact hdl⟩,by rw [hcs,hcnt]⟩,addW_ok (wayOk_mono (by omega) hok) hnx,?_⟩
        show W=wLoop mn ss (ss.length+1 - (k+1)) _ _
        rw [show ss.length+1 - (k+1)=ss.length - k by omega]
        exact hWk
      · show ss.length+1 - (k+1) < ss.length+1 - k
        omega
      · repeat' (first|exact trivial|with_reducible exact rfl|refine And.intro ?_ ?_)
        all_goals (try simp only [hta])
        all_goals (first|done|rfl)
end Go.AM.YtkgmmmhokgdcaaaGreat.Fl
