/- pick, of the law's package and of the reference's. -/
import Derived.Test.YtkgmmmhokgdcaaaGreatPa22
import Derived.Test.YtkgmmmhokgdcaaaGreatWkBaseK
set_option linter.all false
namespace Go.AM.YtkgmmmhokgdcaaaGreat.Pl
open Go.Proofs
set_option maxRecDepth 100000
set_option maxHeartbeats 4000000
def pickP:Spec:=plain fun
  | [.int .i64 c,.int .i64 n]=>outV (0 < n) (.int .i64 (pickF c n))
  | _=>none
theorem pick_b {c n:Int} (h:0 < n):0≤pickF c n∧pickF c n < n:=⟨Int.emod_nonneg _ (by omega),Int.emod_lt_of_pos _ h⟩
theorem pickF_neg {c n:Int} (h:0 < n) (c1:c < 0):pickF c n=(0 - (c+1)).tmod n:=by
  unfold pickF;rw [if_pos c1,Int.tmod_eq_emod_of_nonneg (by omega)];congr 1;omega
theorem pickF_pos {c n:Int} (h:0 < n) (c1:¬ c < 0):pickF c n=c.tmod n:=by
  unfold pickF;rw [if_neg c1,Int.tmod_eq_emod_of_nonneg (by omega)]
theorem pickPOk:SpecSound Tryz.prog 40 pickP:=by
  refine soundP (envOf sigNil) Tryz.func40 (c:=body Tryz.f40) rfl (by kernel_rfl) rfl ?_
  intro args out hf hpre
  split at hf <;> try (cases hf;done)
  rename_i c n
  cases hf
  refine ⟨Nat.le_of_ble_eq_true rfl,initI rfl ?_⟩
  refine factInt (t:=0) rfl (fun hc=>?_)
  have hc:=wrap64 hc
  change 0 < n at hpre
  repeat' (first|with_reducible (first|apply pN|apply cN|apply bN|apply cE|apply cR|apply bR|apply lE|apply lR|apply jE|apply jR)|refine bE rfl ?_|refine bP rfl ?_|refine pD ?_|refine seqI rfl ?_|refine regI rfl ?_|refine scopeI rfl ?_|refine blockI rfl ?_|refine exitI rfl ?_|refine retI rfl ?_|refine skipI rfl ?_)
  refine condI rfl (fun c1=>?_) (fun c1=>?_)
  · simp only [decide_eq_true_eq] at c1
    repeat' (first|with_reducible (first|apply pN|apply cN|apply bN|apply cE|apply cR|apply bR|apply lE|apply lR|apply jE|apply jR)|refine bE rfl ?_|refine bP rfl ?_|refine pD ?_|refine seqI rfl ?_|refine regI rfl ?_|refine scopeI rfl ?_|refine blockI rfl ?_|refine exitI rfl ?_|refine retI rfl ?_|refine skipI rfl ?_)
    refine endR rfl ?_
    repeat' (first|exact trivial|exact rfl|refine ⟨rfl,?_⟩|refine And.intro ?_ ?_)
    exact pickF_neg hpre c1
  · simp only [decide_eq_false_iff_not] at c1
    repeat' (first|with_reducible (first|apply pN|apply cN|apply bN|apply cE|apply cR|apply bR|apply lE|apply lR|apply jE|apply jR)|refine bE rfl ?_|refine bP rfl ?_|refine pD ?_|refine seqI rfl ?_|refine regI rfl ?_|refine scopeI rfl ?_|refine blockI rfl ?_|refine exitI rfl ?_|refine retI rfl ?_|refine skipI rfl ?_)
    refine endR rfl ?_
    repeat' (first|exact trivial|exact rfl|refine ⟨rfl,?_⟩|refine And.intro ?_ ?_)
    exact pickF_pos hpre c1
def sigPick:List (Nat × Spec):=[(40,pickP)]
theorem sigPickOk:SigOk Tryz.prog (look sigPick):=sigCons sigNil Tryz.func40 (by kernel_rfl) (c:=body Tryz.f40) rfl pickPOk
end Go.AM.YtkgmmmhokgdcaaaGreat.Pl
