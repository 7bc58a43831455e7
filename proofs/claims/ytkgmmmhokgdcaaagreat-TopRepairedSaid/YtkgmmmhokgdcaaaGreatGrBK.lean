/- Package graph: which numbers are steps; the steps that follow. -/
import Derived.Test.YtkgmmmhokgdcaaaGreatGrAK
set_option linter.all false
namespace Go.AM.YtkgmmmhokgdcaaaGreat.Fl
open Go.Proofs
set_option maxRecDepth 100000
set_option maxHeartbeats 4000000
def badN (k:Nat) (n:Int):Bool:=decide (n < 0)||decide (n≥(k:Int))
def giv1S:Spec:=⟨true,fun args rows=>match args,rows with
  | [.int .i64 n,.ptr 0 0],[.box [.int .i64 mn,.int .i64 mx,.sl (.pair (.int .i64) (.pair (.slice (.int .i64)) (.pair (.int .i64) (.pair (.int .i64) (.pair (.slice (.int .i64)) (.pair (.int .i64) (.int .i64))))))) ss,.sl (.pair (.int .i64) (.pair (.int .i64) (.int .i64))) ws]] =>
    some ⟨True,.bool (badN ss.length n),[.box [.int .i64 mn,.int .i64 mx,.sl tStep ss,.sl tWin ws]],true⟩
  | _,_=>none⟩
theorem giv1Ok:SpecSound Tryz.prog 160 giv1S:=by
  refine soundR (envOf sigNil) Tryz.func160 (c:=body Tryz.f160) rfl (by kernel_rfl) rfl ?_
  intro args rows out hf hpre
  split at hf <;> try (cases hf;done)
  rename_i n mn mx ss ws
  cases hf
  refine ⟨Nat.le_of_ble_eq_true rfl,initI (args:=[.int .i64 n,.ptr 0 0]) (rows:=[.box [.int .i64 mn,.int .i64 mx,.sl tStep ss,.sl tWin ws]]) rfl ?_⟩
  repeat' (first|with_reducible (first|apply pN|apply cN|apply bN|apply cE|apply cR|apply bR|apply lE|apply lR|apply jE|apply jR)|refine bE rfl ?_|refine bP rfl ?_|refine pD ?_|refine seqI rfl ?_|refine regI rfl ?_|refine scopeI rfl ?_|refine blockI rfl ?_|refine exitI rfl ?_|refine retI rfl ?_|refine skipI rfl ?_)
  refine endR rfl ?_
  repeat' (first|exact trivial|exact rfl|refine ⟨rfl,?_⟩|refine And.intro ?_ ?_)
def gidxS:Spec:=⟨true,fun args rows=>match args,rows with
  | [.sl (.int .i64) xs,.fn 160 [] [.ptr 0 0]],[.box [.int .i64 mn,.int .i64 mx,.sl (.pair (.int .i64) (.pair (.slice (.int .i64)) (.pair (.int .i64) (.pair (.int .i64) (.pair (.slice (.int .i64)) (.pair (.int .i64) (.int .i64))))))) ss,.sl (.pair (.int .i64) (.pair (.int .i64) (.int .i64))) ws]] =>
    some ⟨True,.int .i64 (idxF (badN ss.length) xs),[.box [.int .i64 mn,.int .i64 mx,.sl tStep ss,.sl tWin ws]],true⟩
  | _,_=>none⟩
def sigGi:List (Nat × Spec):=[(160,giv1S)]
theorem sigGiOk:SigOk Tryz.prog (look sigGi):=sigCons sigNil Tryz.func160 (by kernel_rfl) (c:=body Tryz.f160) rfl giv1Ok
theorem gidxOk:SpecSound Tryz.prog 134 gidxS:=by
  refine soundR (envOf sigGiOk) Tryz.func134 (c:=body Tryz.f134) rfl (by kernel_rfl) rfl ?_
  intro args rows out hf hpre
  split at hf <;> try (cases hf;done)
  rename_i xs mn mx ss ws
  cases hf
  refine ⟨Nat.le_of_ble_eq_true rfl,initI (args:=[.sl tInt xs,.fn 160 [] [.ptr 0 0]]) (rows:=[.box [.int .i64 mn,.int .i64 mx,.sl tStep ss,.sl tWin ws]]) rfl ?_⟩
  refine factSl (t:=0) (ty:=tInt) rfl (fun hxs=>?_)
  have hmx:List.length (α:=Int) xs≤9223372036854775807:=by have:=hxs.1;unfold maxLen at this;exact this
  repeat' (first|with_reducible (first|apply pN|apply cN|apply bN|apply cE|apply cR|apply bR|apply lE|apply lR|apply jE|apply jR)|refine bE rfl ?_|refine bP rfl ?_|refine pD ?_|refine seqI rfl ?_|refine regI rfl ?_|refine scopeI rfl ?_|refine blockI rfl ?_|refine exitI rfl ?_|refine retI rfl ?_|refine skipI rfl ?_)
  refine loopI (σ:=Nat) (fun i=>[(8,.int .i64 i)]) (fun i=>[]) (fun i=>i≤List.length (α:=Int) xs∧∀ j,j < i→badN ss.length (getI xs 0 j)=false) (fun i=>List.length (α:=Int) xs - i) 0 rfl (fun _=>rfl) rfl ?_ ?_ ?_
  · exact ⟨Nat.zero_le _,fun j hj=>by omega⟩
  · repeat' (first|exact trivial|exact rfl|refine ⟨rfl,?_⟩|refine And.intro ?_ ?_)
  rintro i ⟨hi,hb⟩
  repeat' (first|with_reducible (first|apply pN|apply cN|apply bN|apply cE|apply cR|apply bR|apply lE|apply lR|apply jE|apply jR)|refine bE rfl ?_|refine bP rfl ?_|refine pD ?_|refine seqI rfl ?_|refine regI rfl ?_|refine scopeI rfl ?_|refine blockI rfl ?_|refine exitI rfl ?_|refine retI rfl ?_|refine skipI rfl ?_)
  refine condI rfl (fun c1=>?_) (fun c1=>?_)
  · simp only [decide_eq_true_eq] at c1
    have hil:i < List.length (α:=Int) xs:=by omega
    have hin:((i:Int)).toNat=i:=by omega
    repeat' (first|with_reducible (first|apply pN|apply cN|apply bN|apply cE|apply cR|apply bR|apply lE|apply lR|apply jE|apply jR)|refine bE rfl ?_|refine bP rfl ?_|refine pD ?_|refine seqI rfl ?_|refine regI rfl ?_|refine scopeI rfl ?_|refine blockI rfl ?_|refine exitI rfl ?_|refine retI rfl ?_|refine skipI rfl ?_)
    refine condI rfl (fun c2=>?_) (fun c2=>?_)
    · simp only [hin] at c2
      repeat' (first|with_reducible (first|apply pN|apply cN|apply bN|apply cE|apply cR|apply bR|apply lE|apply lR|apply jE|apply jR)|refine bE rfl ?_|refine bP rfl ?_|refine pD ?_|refine seqI rfl ?_|refine regI rfl ?_|refine scopeI rfl ?_|refine blockI rfl ?_|refine exitI rfl ?_|refine retI rfl ?_|refine skipI rfl ?_)
      refine endR rfl ?_
      repeat' (first|exact trivial|exact rfl|refine ⟨rfl,?_⟩|refine And.intro ?_ ?_)
      exact idxF_found (p:=badN ss.length) (d:=(0:Int)) hil hb c2
    · simp only [hin] at c2
      repeat' (first|with_reducible (first|apply pN|apply cN|apply bN|apply cE|apply cR|apply bR|apply lE|apply lR|apply jE|apply jR)|refine bE rfl ?_|refine bP rfl ?_|refine pD ?_|refine seqI rfl ?_|refine regI rfl ?_|refine scopeI rfl ?_|refine blockI rfl ?_|refine exitI rfl ?_|refine retI rfl ?_|refine skipI rfl ?_)
      refine roundI (i+1) rfl ?_ ?_ ?_
      · refine ⟨by show i+1≤List.length (α:=Int) xs;omega,fun j hj=>?_⟩
        by_cases hji:j=i
        · subst hji;exact c2
        · exact hb j (by omega)
      · show List.length (α:=Int) xs - (i+1) < List.length (α:=Int) xs - i
        omega
      · repeat' (first|exact trivial|with_reducible exact rfl|refine And.intro ?_ ?_)
        all_goals rfl
  · simp only [decide_eq_false_iff_not] at c1
    repeat' (first|with_reducible (first|apply pN|apply cN|apply bN|apply cE|apply cR|apply bR|apply lE|apply lR|apply jE|apply jR)|refine bE rfl ?_|refine bP rfl ?_|refine pD ?_|refine seqI rfl ?_|refine regI rfl ?_|refine scopeI rfl ?_|refine blockI rfl ?_|refine exitI rfl ?_|refine retI rfl ?_|refine skipI rfl ?_)
    refine endR rfl ?_
    repeat' (first|exact trivial|exact rfl|refine ⟨rfl,?_⟩|refine And.intro ?_ ?_)
    exact idxF_none (p:=badN ss.length) (d:=(0:Int)) fun j hj=>hb j (by omega)
def ganyS:Spec:=⟨true,fun args rows=>match args,rows with
  | [.sl (.int .i64) xs,.fn 160 [] [.ptr 0 0]],[.box [.int .i64 mn,.int .i64 mx,.sl (.pair (.int .i64) (.pair (.slice (.int .i64)) (.pair (.int .i64) (.pair (.int .i64) (.pair (.slice (.int .i64)) (.pair (.int .i64) (.int .i64))))))) ss,.sl (.pair (.int .i64) (.pair (.int .i64) (.int .i64))) ws]] =>
    some ⟨True,.bool (xs.any (badN ss.length)),[.box [.int .i64 mn,.int .i64 mx,.sl tStep ss,.sl tWin ws]],true⟩
  | _,_=>none⟩
def sigGa:List (Nat × Spec):=[(134,gidxS)]
theorem sigGaOk:SigOk Tryz.prog (look sigGa):=sigCons sigNil Tryz.func134 (by kernel_rfl) (c:=body Tryz.f134) rfl gidxOk
theorem ganyOk:SpecSound Tryz.prog 92 ganyS:=by
  refine soundR (envOf sigGaOk) Tryz.func92 (c:=body Tryz.f92) rfl (by kernel_rfl) rfl ?_
  intro args rows out hf hpre
  split at hf <;> try (cases hf;done)
  rename_i xs mn mx ss ws
  cases hf
  refine ⟨Nat.le_of_ble_eq_true rfl,initI (args:=[.sl tInt xs,.fn 160 [] [.ptr 0 0]]) (rows:=[.box [.int .i64 mn,.int .i64 mx,.sl tStep ss,.sl tWin ws]]) rfl ?_⟩
  repeat' (first|with_reducible (first|apply pN|apply cN|apply bN|apply cE|apply cR|apply bR|apply lE|apply lR|apply jE|apply jR)|refine bE rfl ?_|refine bP rfl ?_|refine pD ?_|refine seqI rfl ?_|refine regI rfl ?_|refine scopeI rfl ?_|refine blockI rfl ?_|refine exitI rfl ?_|refine retI rfl ?_|refine skipI rfl ?_)
  refine endR rfl ?_
  repeat' (first|exact trivial|exact rfl|refine ⟨rfl,?_⟩|refine And.intro ?_ ?_)
  all_goals exact (idx_any _).symm
def givF (mn mx:Int) (ss:List StepT) (ws:List WinT) (l:List Int):Bool:=validF mn mx ss ws&&!l.any (badN ss.length)
def givS:Spec:=plain fun
  | [.agg [.int .i64 mn,.int .i64 mx,.sl (.pair (.int .i64) (.pair (.slice (.int .i64)) (.pair (.int .i64) (.pair (.int .i64) (.pair (.slice (.int .i64)) (.pair (.int .i64) (.int .i64))))))) ss,.sl (.pair (.int .i64) (.pair (.int .i64) (.int .i64))) ws],.sl (.int .i64) l]=>outV True (.bool (givF mn mx ss ws l))
  | _=>none
def sigGv:List (Nat × Spec):=[(62,fvalidS),(92,ganyS)]
theorem sigGvOk:SigOk Tryz.prog (look sigGv):=sigCons (sigCons sigNil
  Tryz.func92 (by kernel_rfl) (c:=body Tryz.f92) rfl ganyOk)
  Tryz.func62 (by kernel_rfl) (c:=body Tryz.f62) rfl fvalidOk
theorem givOk:SpecSound Tryz.prog 151 givS:=by
  refine soundP (envOf sigGvOk) Tryz.func151 (c:=body Tryz.f151) rfl (by kernel_rfl) rfl ?_
  intro args out hf hpre
  split at hf <;> try (cases hf;done)
  rename_i mn mx ss ws l
  cases hf
  refine ⟨Nat.le_of_ble_eq_true rfl,initI (args:=[.agg [.int .i64 mn,.int .i64 mx,.sl tStep ss,.sl tWin ws],.sl tInt l]) rfl ?_⟩
  repeat' (first|with_reducible (first|apply pN|apply cN|apply bN|apply cE|apply cR|apply bR|apply lE|apply lR|apply jE|apply jR)|refine bE rfl ?_|refine bP rfl ?_|refine pD ?_|refine seqI rfl ?_|refine regI rfl ?_|refine scopeI rfl ?_|refine blockI rfl ?_|refine exitI rfl ?_|refine retI rfl ?_|refine skipI rfl ?_)
  refine endR rfl ?_
  repeat' (first|exact trivial|exact rfl|refine ⟨rfl,?_⟩|refine And.intro ?_ ?_)
end Go.AM.YtkgmmmhokgdcaaaGreat.Fl
