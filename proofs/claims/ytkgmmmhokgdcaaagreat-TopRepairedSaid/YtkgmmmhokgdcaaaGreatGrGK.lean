/- Package graph: Way, Quickest. -/
import Derived.Test.YtkgmmmhokgdcaaaGreatGrFK
set_option linter.all false
namespace Go.AM.YtkgmmmhokgdcaaaGreat.Fl
open Go.Proofs
set_option maxRecDepth 100000
set_option maxHeartbeats 4000000
def wayGet (mn mx:Int) (ss:List StepT) (ws:List WinT) (a b:Int):Option WayT:=bif givF mn mx ss ws [a,b] then getI (waysF mn ss a) none b.toNat else none
theorem giv_facts {mn mx:Int} {ss:List StepT} {ws:List WinT} {a b:Int} (h:givF mn mx ss ws [a,b]=true):validF mn mx ss ws=true∧(0≤a∧a < ss.length)∧(0≤b∧b < ss.length):=by
  unfold givF at h
  rw [Bool.and_eq_true,Bool.not_eq_true',List.any_eq_false] at h
  have h1:=h.2 a (by simp)
  have h2:=h.2 b (by simp)
  unfold badN at h1 h2
  simp only [Bool.or_eq_true,decide_eq_true_eq,not_or] at h1 h2
  exact ⟨h.1,by omega,by omega⟩
def wayS:Spec:=⟨true,fun args rows=>match args,rows with
  | [.agg [.int .i64 mn,.int .i64 mx,.sl (.pair (.int .i64) (.pair (.slice (.int .i64)) (.pair (.int .i64) (.pair (.int .i64) (.pair (.slice (.int .i64)) (.pair (.int .i64) (.int .i64))))))) ss,.sl (.pair (.int .i64) (.pair (.int .i64) (.int .i64))) ws],.int .i64 a,.int .i64 b],[] =>
    some ⟨True,.tup [.sl tInt ((wayGet mn mx ss ws a b).getD w0).2,.bool (wayGet mn mx ss ws a b).isSome],[],true⟩
  | _,_=>none⟩
def quickS:Spec:=⟨true,fun args rows=>match args,rows with
  | [.agg [.int .i64 mn,.int .i64 mx,.sl (.pair (.int .i64) (.pair (.slice (.int .i64)) (.pair (.int .i64) (.pair (.int .i64) (.pair (.slice (.int .i64)) (.pair (.int .i64) (.int .i64))))))) ss,.sl (.pair (.int .i64) (.pair (.int .i64) (.int .i64))) ws],.int .i64 a,.int .i64 b],[] =>
    some ⟨True,.tup [.int .i64 ((wayGet mn mx ss ws a b).getD w0).1,.bool (wayGet mn mx ss ws a b).isSome],[],true⟩
  | _,_=>none⟩
def sigWay:List (Nat × Spec):=[(151,givS),(152,waysS),(50,Re.cloneIS)]
theorem sigWayOk:SigOk Tryz.prog (look sigWay):=sigCons (sigCons (sigCons sigNil
  Tryz.func50 (by kernel_rfl) (c:=body Tryz.f50) rfl Re.cloneIOk)
  Tryz.func152 (by kernel_rfl) (c:=body Tryz.f152) rfl waysOk)
  Tryz.func151 (by kernel_rfl) (c:=body Tryz.f151) rfl givOk
theorem wayOk':SpecSound Tryz.prog 117 wayS:=by
  refine soundR (envOf sigWayOk) Tryz.func117 (c:=body Tryz.f117) rfl (by kernel_rfl) rfl ?_
  intro args rows out hf hpre
  split at hf <;> try (cases hf;done)
  rename_i mn mx ss ws a b
  cases hf
  refine ⟨Nat.le_of_ble_eq_true rfl,initI (args:=[.agg [.int .i64 mn,.int .i64 mx,.sl tStep ss,.sl tWin ws],.int .i64 a,.int .i64 b]) (rows:=[]) rfl ?_⟩
  obtain ⟨r,hr⟩:∃ r,r=wayGet mn mx ss ws a b:=⟨_,rfl⟩
  rw [← hr]
  repeat' (first|with_reducible (first|apply pN|apply cN|apply bN|apply cE|apply cR|apply bR|apply lE|apply lR|apply jE|apply jR)|refine bE rfl ?_|refine bP rfl ?_|refine pD ?_|refine seqI rfl ?_|refine regI rfl ?_|refine scopeI rfl ?_|refine blockI rfl ?_|refine exitI rfl ?_|refine retI rfl ?_|refine skipI rfl ?_)
  refine condI rfl (fun c1=>?_) (fun c1=>?_)
  · have c1:givF mn mx ss ws [a,b]=false:=by simpa using c1
    unfold wayGet at hr
    rw [c1] at hr
    rw [show r=none from hr]
    repeat' (first|with_reducible (first|apply pN|apply cN|apply bN|apply cE|apply cR|apply bR|apply lE|apply lR|apply jE|apply jR)|refine bE rfl ?_|refine bP rfl ?_|refine pD ?_|refine seqI rfl ?_|refine regI rfl ?_|refine scopeI rfl ?_|refine blockI rfl ?_|refine exitI rfl ?_|refine retI rfl ?_|refine skipI rfl ?_)
    refine endR rfl ?_
    repeat' (first|exact trivial|exact rfl|refine ⟨rfl,?_⟩|refine And.intro ?_ ?_)
  · have c1:givF mn mx ss ws [a,b]=true:=by simpa using c1
    unfold wayGet at hr
    rw [c1] at hr
    have hr:r=getI (waysF mn ss a) (Ty.opt tWay).dflt b.toNat:=hr
    obtain ⟨hv,ha,hb⟩:=giv_facts c1
    have F:=flow_sm hv
    obtain ⟨hwl,hwo⟩:=waysF_ok F a
    repeat' (first|with_reducible (first|apply pN|apply cN|apply bN|apply cE|apply cR|apply bR|apply lE|apply lR|apply jE|apply jR)|refine bE rfl ?_|refine bP rfl ?_|refine pD ?_|refine pC (by first|exact ⟨hv,ha⟩|omega) ?_|refine seqI rfl ?_|refine regI rfl ?_|refine scopeI rfl ?_|refine blockI rfl ?_|refine exitI rfl ?_|refine retI rfl ?_|refine skipI rfl ?_)
    simp only [← hr]
    refine condI rfl (fun c2=>?_) (fun c2=>?_)
    · cases r with
      | some w=>cases c2
      | none =>
        repeat' (first|with_reducible (first|apply pN|apply cN|apply bN|apply cE|apply cR|apply bR|apply lE|apply lR|apply jE|apply jR)|refine bE rfl ?_|refine bP rfl ?_|refine pD ?_|refine seqI rfl ?_|refine regI rfl ?_|refine scopeI rfl ?_|refine blockI rfl ?_|refine exitI rfl ?_|refine retI rfl ?_|refine skipI rfl ?_)
        refine endR rfl ?_
        repeat' (first|exact trivial|exact rfl|refine ⟨rfl,?_⟩|refine And.intro ?_ ?_)
    · cases r with
      | none=>cases c2
      | some w =>
        have hok:=(getD_ok hwo b.toNat).2
        rw [show getI (waysF mn ss a) none b.toNat=some w from hr.symm] at hok
        have hok:w.2.length≤41:=hok
        repeat' (first|with_reducible (first|apply pN|apply cN|apply bN|apply cE|apply cR|apply bR|apply lE|apply lR|apply jE|apply jR)|refine bE rfl ?_|refine bP rfl ?_|refine seqI rfl ?_|refine scopeI rfl ?_|refine blockI rfl ?_|refine exitI rfl ?_|refine retI rfl ?_|refine skipI rfl ?_)
        refine regI rfl ?_
        repeat' (first|with_reducible refine pN ?_|refine pD ?_|refine pC (by first|exact rfl|(show List.length (α:=Int) w.2 * 8≤_;omega)) ?_)
        repeat with_reducible refine cN ?_
        refine freezeI 27 rfl ?_
        repeat' (first|with_reducible (first|apply pN|apply cN|apply bN|apply cE|apply cR|apply bR|apply lE|apply lR|apply jE|apply jR)|refine bE rfl ?_|refine bP rfl ?_|refine pD ?_|refine seqI rfl ?_|refine regI rfl ?_|refine scopeI rfl ?_|refine blockI rfl ?_|refine exitI rfl ?_|refine retI rfl ?_|refine skipI rfl ?_)
        refine endR rfl ?_
        repeat' (first|exact trivial|exact rfl|refine ⟨rfl,?_⟩|refine And.intro ?_ ?_)
theorem quickOk:SpecSound Tryz.prog 118 quickS:=by
  refine soundR (envOf sigWayOk) Tryz.func118 (c:=body Tryz.f118) rfl (by kernel_rfl) rfl ?_
  intro args rows out hf hpre
  split at hf <;> try (cases hf;done)
  rename_i mn mx ss ws a b
  cases hf
  refine ⟨Nat.le_of_ble_eq_true rfl,initI (args:=[.agg [.int .i64 mn,.int .i64 mx,.sl tStep ss,.sl tWin ws],.int .i64 a,.int .i64 b]) (rows:=[]) rfl ?_⟩
  obtain ⟨r,hr⟩:∃ r,r=wayGet mn mx ss ws a b:=⟨_,rfl⟩
  rw [← hr]
  repeat' (first|with_reducible (first|apply pN|apply cN|apply bN|apply cE|apply cR|apply bR|apply lE|apply lR|apply jE|apply jR)|refine bE rfl ?_|refine bP rfl ?_|refine pD ?_|refine seqI rfl ?_|refine regI rfl ?_|refine scopeI rfl ?_|refine blockI rfl ?_|refine exitI rfl ?_|refine retI rfl ?_|refine skipI rfl ?_)
  refine condI rfl (fun c1=>?_) (fun c1=>?_)
  · have c1:givF mn mx ss ws [a,b]=false:=by simpa using c1
    unfold wayGet at hr
    rw [c1] at hr
    rw [show r=none from hr]
    repeat' (first|with_reducible (first|apply pN|apply cN|apply bN|apply cE|apply cR|apply bR|apply lE|apply lR|apply jE|apply jR)|refine bE rfl ?_|refine bP rfl ?_|refine pD ?_|refine seqI rfl ?_|refine regI rfl ?_|refine scopeI rfl ?_|refine blockI rfl ?_|refine exitI rfl ?_|refine retI rfl ?_|refine skipI rfl ?_)
    refine endR rfl ?_
    repeat' (first|exact trivial|exact rfl|refine ⟨rfl,?_⟩|refine And.intro ?_ ?_)
  · have c1:givF mn mx ss ws [a,b]=true:=by simpa using c1
    unfold wayGet at hr
    rw [c1] at hr
    have hr:r=getI (waysF mn ss a) (Ty.opt tWay).dflt b.toNat:=hr
    obtain ⟨hv,ha,hb⟩:=giv_facts c1
    have F:=flow_sm hv
    obtain ⟨hwl,hwo⟩:=waysF_ok F a
    repeat' (first|with_reducible (first|apply pN|apply cN|apply bN|apply cE|apply cR|apply bR|apply lE|apply lR|apply jE|apply jR)|refine bE rfl ?_|refine bP rfl ?_|refine pD ?_|refine pC (by first|exact ⟨hv,ha⟩|omega) ?_|refine seqI rfl ?_|refine regI rfl ?_|refine scopeI rfl ?_|refine blockI rfl ?_|refine exitI rfl ?_|refine retI rfl ?_|refine skipI rfl ?_)
    simp only [← hr]
    refine condI rfl (fun c2=>?_) (fun c2=>?_)
    · cases r with
      | some w=>cases c2
      | none =>
        repeat' (first|with_reducible (first|apply pN|apply cN|apply bN|apply cE|apply cR|apply bR|apply lE|apply lR|apply jE|apply jR)|refine bE rfl ?_|refine bP rfl ?_|refine pD ?_|refine seqI rfl ?_|refine regI rfl ?_|refine scopeI rfl ?_|refine blockI rfl ?_|refine exitI rfl ?_|refine retI rfl ?_|refine skipI rfl ?_)
        refine endR rfl ?_
        repeat' (first|exact trivial|exact rfl|refine ⟨rfl,?_⟩|refine And.intro ?_ ?_)
    · cases r with
      | none=>cases c2
      | some w =>
        repeat' (first|with_reducible (first|apply pN|apply cN|apply bN|apply cE|apply cR|apply bR|apply lE|apply lR|apply jE|apply jR)|refine bE rfl ?_|refine bP rfl ?_|refine pD ?_|refine pC (by exact rfl) ?_|refine seqI rfl ?_|refine regI rfl ?_|refine scopeI rfl ?_|refine blockI rfl ?_|refine exitI rfl ?_|refine retI rfl ?_|refine skipI rfl ?_)
        refine endR rfl ?_
        repeat' (first|exact trivial|exact rfl|refine ⟨rfl,?_⟩|refine And.intro ?_ ?_)
end Go.AM.YtkgmmmhokgdcaaaGreat.Fl
