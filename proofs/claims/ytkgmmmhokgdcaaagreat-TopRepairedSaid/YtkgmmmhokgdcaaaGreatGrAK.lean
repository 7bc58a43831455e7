/- Package graph: comparing ways; which numbers are steps. -/
import Derived.Test.YtkgmmmhokgdcaaaGreatFlAK
set_option linter.all false
namespace Go.AM.YtkgmmmhokgdcaaaGreat.Fl
open Go.Proofs
set_option maxRecDepth 100000
set_option maxHeartbeats 4000000
abbrev tWay:Ty:=.pair (.int .i64) (.slice (.int .i64))
abbrev WayT:=Int × List Int
def orF (l:List Int):Int:=match l.find? (fun x=>!decide (x=0)) with
  | some x=>x
  | none=>0
def orS:Spec:=plain fun
  | [.sl (.int .i64) l]=>outV True (.int .i64 (orF l))
  | _=>none
theorem orF_step {l:List Int} {i:Nat} (hi:i < l.length):orF (l.drop i)=bif decide (getI l 0 i=0) then orF (l.drop (i+1)) else getI l 0 i:=by
  rw [show l.drop i=getI l 0 i::l.drop (i+1) by rw [List.drop_eq_getElem_cons hi];simp [getI,List.getD,List.getElem?_eq_getElem hi]]
  unfold orF
  rw [List.find?_cons]
  cases decide (getI l 0 i=0) <;> rfl
theorem orOk:SpecSound Tryz.prog 168 orS:=by
  refine soundP (envOf sigNil) Tryz.func168 (c:=body Tryz.f168) rfl (by kernel_rfl) rfl ?_
  intro args out hf hpre
  split at hf <;> try (cases hf;done)
  rename_i l
  cases hf
  refine ⟨Nat.le_of_ble_eq_true rfl,initI (args:=[.sl tInt l]) rfl ?_⟩
  refine factSl (t:=0) (ty:=tInt) rfl (fun hxs=>?_)
  have hmx:List.length (α:=Int) l≤9223372036854775807:=by have:=hxs.1;unfold maxLen at this;exact this
  obtain ⟨r,hr⟩:∃ r,r=orF l:=⟨_,rfl⟩
  rw [← hr]
  repeat' (first|with_reducible (first|apply pN|apply cN|apply bN|apply cE|apply cR|apply bR|apply lE|apply lR|apply jE|apply jR)|refine bE rfl ?_|refine bP rfl ?_|refine pD ?_|refine seqI rfl ?_|refine regI rfl ?_|refine scopeI rfl ?_|refine blockI rfl ?_|refine exitI rfl ?_|refine retI rfl ?_|refine skipI rfl ?_)
  refine loopI (σ:=Nat) (fun i=>[(8,.int .i64 i)]) (fun i=>[]) (fun i=>i≤List.length (α:=Int) l∧r=orF (List.drop (α:=Int) i l)) (fun i=>List.length (α:=Int) l - i) 0 rfl (fun _=>rfl) rfl ?_ ?_ ?_
  · exact ⟨Nat.zero_le _,hr⟩
  · repeat' (first|exact trivial|exact rfl|refine ⟨rfl,?_⟩|refine And.intro ?_ ?_)
  rintro i ⟨hi,hb⟩
  repeat' (first|with_reducible (first|apply pN|apply cN|apply bN|apply cE|apply cR|apply bR|apply lE|apply lR|apply jE|apply jR)|refine bE rfl ?_|refine bP rfl ?_|refine pD ?_|refine seqI rfl ?_|refine regI rfl ?_|refine scopeI rfl ?_|refine blockI rfl ?_|refine exitI rfl ?_|refine retI rfl ?_|refine skipI rfl ?_)
  refine condI rfl (fun c1=>?_) (fun c1=>?_)
  · simp only [decide_eq_true_eq] at c1
    have hil:i < List.length (α:=Int) l:=by omega
    have hin:((i:Int)).toNat=i:=by omega
    rw [orF_step hil] at hb
    repeat' (first|with_reducible (first|apply pN|apply cN|apply bN|apply cE|apply cR|apply bR|apply lE|apply lR|apply jE|apply jR)|refine bE rfl ?_|refine bP rfl ?_|refine pD ?_|refine seqI rfl ?_|refine regI rfl ?_|refine scopeI rfl ?_|refine blockI rfl ?_|refine exitI rfl ?_|refine retI rfl ?_|refine skipI rfl ?_)
    refine condI rfl (fun c2=>?_) (fun c2=>?_)
    · simp only [hin] at c2
      have h9:decide (getI l 0 i=0)=false:=decide_eq_false (of_decide_eq_true c2)
      rw [h9] at hb
      repeat' (first|with_reducible (first|apply pN|apply cN|apply bN|apply cE|apply cR|apply bR|apply lE|apply lR|apply jE|apply jR)|refine bE rfl ?_|refine bP rfl ?_|refine pD ?_|refine seqI rfl ?_|refine regI rfl ?_|refine scopeI rfl ?_|refine blockI rfl ?_|refine exitI rfl ?_|refine retI rfl ?_|refine skipI rfl ?_)
      refine endR rfl ?_
      repeat' (first|exact trivial|exact rfl|refine ⟨rfl,?_⟩|refine And.intro ?_ ?_)
      exact hb
    · simp only [hin] at c2
      have h9:decide (getI l 0 i=0)=true:=decide_eq_true (Decidable.not_not.mp (of_decide_eq_false c2))
      rw [h9] at hb
      repeat' (first|with_reducible (first|apply pN|apply cN|apply bN|apply cE|apply cR|apply bR|apply lE|apply lR|apply jE|apply jR)|refine bE rfl ?_|refine bP rfl ?_|refine pD ?_|refine seqI rfl ?_|refine regI rfl ?_|refine scopeI rfl ?_|refine blockI rfl ?_|refine exitI rfl ?_|refine retI rfl ?_|refine skipI rfl ?_)
      refine roundI (i+1) rfl ?_ ?_ ?_
      · exact ⟨by show i+1≤List.length (α:=Int) l;omega,hb⟩
      · show List.length (α:=Int) l - (i+1) < List.length (α:=Int) l - i
        omega
      · repeat' (first|exact trivial|with_reducible exact rfl|refine And.intro ?_ ?_)
        all_goals rfl
  · simp only [decide_eq_false_iff_not] at c1
    rw [List.drop_eq_nil_of_le (by omega)] at hb
    repeat' (first|with_reducible (first|apply pN|apply cN|apply bN|apply cE|apply cR|apply bR|apply lE|apply lR|apply jE|apply jR)|refine bE rfl ?_|refine bP rfl ?_|refine pD ?_|refine seqI rfl ?_|refine regI rfl ?_|refine scopeI rfl ?_|refine blockI rfl ?_|refine exitI rfl ?_|refine retI rfl ?_|refine skipI rfl ?_)
    refine endR rfl ?_
    repeat' (first|exact trivial|exact rfl|refine ⟨rfl,?_⟩|refine And.intro ?_ ?_)
    exact hb
def lexI:List Int→List Int→Int
  | [],[]=>0
  | [],_::_=>-1
  | _::_,[]=>1
  | a::l,b::r=>bif decide (cmpI a b=0) then lexI l r else cmpI a b
def lexS:Spec:=plain fun
  | [.sl (.int .i64) l,.sl (.int .i64) r]=>outV True (.int .i64 (lexI l r))
  | _=>none
theorem drop_get {l:List Int} {i:Nat} (hi:i < l.length):l.drop i=getI l 0 i::l.drop (i+1):=by
  rw [List.drop_eq_getElem_cons hi];simp [getI,List.getD,List.getElem?_eq_getElem hi]
theorem lexOk:SpecSound Tryz.prog 169 lexS:=by
  refine soundP (envOf sigCmpOk) Tryz.func169 (c:=body Tryz.f169) rfl (by kernel_rfl) rfl ?_
  intro args out hf hpre
  split at hf <;> try (cases hf;done)
  rename_i l m
  cases hf
  refine ⟨Nat.le_of_ble_eq_true rfl,initI (args:=[.sl tInt l,.sl tInt m]) rfl ?_⟩
  refine factSl (t:=0) (ty:=tInt) rfl (fun hxs=>?_)
  have hmx:List.length (α:=Int) l≤9223372036854775807:=by have:=hxs.1;unfold maxLen at this;exact this
  refine factSl (t:=1) (ty:=tInt) rfl (fun hys=>?_)
  have hmy:List.length (α:=Int) m≤9223372036854775807:=by have:=hys.1;unfold maxLen at this;exact this
  obtain ⟨r,hr⟩:∃ r,r=lexI l m:=⟨_,rfl⟩
  rw [← hr]
  repeat' (first|with_reducible (first|apply pN|apply cN|apply bN|apply cE|apply cR|apply bR|apply lE|apply lR|apply jE|apply jR)|refine bE rfl ?_|refine bP rfl ?_|refine pD ?_|refine seqI rfl ?_|refine regI rfl ?_|refine scopeI rfl ?_|refine blockI rfl ?_|refine exitI rfl ?_|refine retI rfl ?_|refine skipI rfl ?_)
  refine loopI (σ:=Nat) (fun i=>[(11,.int .i64 i)]) (fun i=>[]) (fun i=>(i≤List.length (α:=Int) l∧i≤List.length (α:=Int) m)∧r=lexI (List.drop (α:=Int) i l) (List.drop (α:=Int) i m)) (fun i=>List.length (α:=Int) l - i) 0 rfl (fun _=>rfl) rfl ?_ ?_ ?_
  · exact ⟨⟨Nat.zero_le _,Nat.zero_le _⟩,hr⟩
  · repeat' (first|exact trivial|exact rfl|refine ⟨rfl,?_⟩|refine And.intro ?_ ?_)
  rintro i ⟨⟨hi,hi2⟩,hb⟩
  repeat' (first|with_reducible (first|apply pN|apply cN|apply bN|apply cE|apply cR|apply bR|apply lE|apply lR|apply jE|apply jR)|refine bE rfl ?_|refine bP rfl ?_|refine pD ?_|refine seqI rfl ?_|refine regI rfl ?_|refine scopeI rfl ?_|refine blockI rfl ?_|refine exitI rfl ?_|refine retI rfl ?_|refine skipI rfl ?_)
  refine condI rfl (fun c1=>?_) (fun c1=>?_)
  · simp only [decide_eq_true_eq] at c1
    have hil:i < List.length (α:=Int) l:=by omega
    have hin:((i:Int)).toNat=i:=by omega
    rw [drop_get hil] at hb
    repeat' (first|with_reducible (first|apply pN|apply cN|apply bN|apply cE|apply cR|apply bR|apply lE|apply lR|apply jE|apply jR)|refine bE rfl ?_|refine bP rfl ?_|refine pD ?_|refine seqI rfl ?_|refine regI rfl ?_|refine scopeI rfl ?_|refine blockI rfl ?_|refine exitI rfl ?_|refine retI rfl ?_|refine skipI rfl ?_)
    refine condI rfl (fun c2=>?_) (fun c2=>?_)
    · simp only [decide_eq_true_eq] at c2
      rw [List.drop_eq_nil_of_le (show List.length (α:=Int) m≤i by omega)] at hb
      repeat' (first|with_reducible (first|apply pN|apply cN|apply bN|apply cE|apply cR|apply bR|apply lE|apply lR|apply jE|apply jR)|refine bE rfl ?_|refine bP rfl ?_|refine pD ?_|refine seqI rfl ?_|refine regI rfl ?_|refine scopeI rfl ?_|refine blockI rfl ?_|refine exitI rfl ?_|refine retI rfl ?_|refine skipI rfl ?_)
      refine endR rfl ?_
      repeat' (first|exact trivial|exact rfl|refine ⟨rfl,?_⟩|refine And.intro ?_ ?_)
      exact hb
    · simp only [decide_eq_false_iff_not] at c2
      have him:i < List.length (α:=Int) m:=by omega
      rw [drop_get him] at hb
      have hb:r=bif decide (cmpI (getI l 0 i) (getI m 0 i)=0) then lexI (l.drop (i+1)) (m.drop (i+1)) else cmpI (getI l 0 i) (getI m 0 i):=hb
      repeat' (first|with_reducible (first|apply pN|apply cN|apply bN|apply cE|apply cR|apply bR|apply lE|apply lR|apply jE|apply jR)|refine bE rfl ?_|refine bP rfl ?_|refine pD ?_|refine seqI rfl ?_|refine regI rfl ?_|refine scopeI rfl ?_|refine blockI rfl ?_|refine exitI rfl ?_|refine retI rfl ?_|refine skipI rfl ?_)
      refine condI rfl (fun c3=>?_) (fun c3=>?_)
      · simp only [hin] at c3
        have h9:decide (cmpI (getI l 0 i) (getI m 0 i)=0)=false:=decide_eq_false (of_decide_eq_true c3)
        rw [h9] at hb
        repeat' (first|with_reducible (first|apply pN|apply cN|apply bN|apply cE|apply cR|apply bR|apply lE|apply lR|apply jE|apply jR)|refine bE rfl ?_|refine bP rfl ?_|refine pD ?_|refine seqI rfl ?_|refine regI rfl ?_|refine scopeI rfl ?_|refine blockI rfl ?_|refine exitI rfl ?_|refine retI rfl ?_|refine skipI rfl ?_)
        refine endR rfl ?_
        repeat' (first|exact trivial|exact rfl|refine ⟨rfl,?_⟩|refine And.intro ?_ ?_)
        exact hb
      · simp only [hin] at c3
        have h9:decide (cmpI (getI l 0 i) (getI m 0 i)=0)=true:=decide_eq_true (Decidable.not_not.mp (of_decide_eq_false c3))
        rw [h9] at hb
        repeat' (first|with_reducible (first|apply pN|apply cN|apply bN|apply cE|apply cR|apply bR|apply lE|apply lR|apply jE|apply jR)|refine bE rfl ?_|refine bP rfl ?_|refine pD ?_|refine seqI rfl ?_|refine regI rfl ?_|refine scopeI rfl ?_|refine blockI rfl ?_|refine exitI rfl ?_|refine retI rfl ?_|refine skipI rfl ?_)
        refine roundI (i+1) rfl ?_ ?_ ?_
        · exact ⟨⟨by show i+1≤List.length (α:=Int) l;omega,by show i+1≤List.length (α:=Int) m;omega⟩,hb⟩
        · show List.length (α:=Int) l - (i+1) < List.length (α:=Int) l - i
          omega
        · repeat' (first|exact trivial|with_reducible exact rfl|refine And.intro ?_ ?_)
          all_goals rfl
  · simp only [decide_eq_false_iff_not] at c1
    rw [List.drop_eq_nil_of_le (show List.length (α:=Int) l≤i by omega)] at hb
    repeat' (first|with_reducible (first|apply pN|apply cN|apply bN|apply cE|apply cR|apply bR|apply lE|apply lR|apply jE|apply jR)|refine bE rfl ?_|refine bP rfl ?_|refine pD ?_|refine seqI rfl ?_|refine regI rfl ?_|refine scopeI rfl ?_|refine blockI rfl ?_|refine exitI rfl ?_|refine retI rfl ?_|refine skipI rfl ?_)
    refine condI rfl (fun c2=>?_) (fun c2=>?_)
    · simp only [decide_eq_true_eq] at c2
      rw [drop_get (show i < List.length (α:=Int) m by omega)] at hb
      repeat' (first|with_reducible (first|apply pN|apply cN|apply bN|apply cE|apply cR|apply bR|apply lE|apply lR|apply jE|apply jR)|refine bE rfl ?_|refine bP rfl ?_|refine pD ?_|refine seqI rfl ?_|refine regI rfl ?_|refine scopeI rfl ?_|refine blockI rfl ?_|refine exitI rfl ?_|refine retI rfl ?_|refine skipI rfl ?_)
      refine endR rfl ?_
      repeat' (first|exact trivial|exact rfl|refine ⟨rfl,?_⟩|refine And.intro ?_ ?_)
      exact hb
    · simp only [decide_eq_false_iff_not] at c2
      rw [List.drop_eq_nil_of_le (show List.length (α:=Int) m≤i by omega)] at hb
      repeat' (first|with_reducible (first|apply pN|apply cN|apply bN|apply cE|apply cR|apply bR|apply lE|apply lR|apply jE|apply jR)|refine bE rfl ?_|refine bP rfl ?_|refine pD ?_|refine seqI rfl ?_|refine regI rfl ?_|refine scopeI rfl ?_|refine blockI rfl ?_|refine exitI rfl ?_|refine retI rfl ?_|refine skipI rfl ?_)
      refine endR rfl ?_
      repeat' (first|exact trivial|exact rfl|refine ⟨rfl,?_⟩|refine And.intro ?_ ?_)
      exact hb
def ordF (v w:WayT):Int:=orF [cmpI v.1 w.1,cmpI v.2.length w.2.length,lexI v.2 w.2]
def ordS:Spec:=plain fun
  | [.agg [.int .i64 t,.sl (.int .i64) l],.agg [.int .i64 u,.sl (.int .i64) m]]=>outV True (.int .i64 (ordF (t,l) (u,m)))
  | _=>none
def sigOrd:List (Nat × Spec):=[(109,cmpS),(169,lexS),(168,orS)]
theorem sigOrdOk:SigOk Tryz.prog (look sigOrd):=sigCons (sigCons (sigCons sigNil
  Tryz.func168 (by kernel_rfl) (c:=body Tryz.f168) rfl orOk)
  Tryz.func169 (by kernel_rfl) (c:=body Tryz.f169) rfl lexOk)
  Tryz.func109 (by kernel_rfl) (c:=body Tryz.f109) rfl cmpOk
theorem ordOk:SpecSound Tryz.prog 161 ordS:=by
  refine soundP (envOf sigOrdOk) Tryz.func161 (c:=body Tryz.f161) rfl (by kernel_rfl) rfl ?_
  intro args out hf hpre
  split at hf <;> try (cases hf;done)
  rename_i t l u m
  cases hf
  refine ⟨Nat.le_of_ble_eq_true rfl,initI (args:=[.agg [.int .i64 t,.sl tInt l],.agg [.int .i64 u,.sl tInt m]]) rfl ?_⟩
  repeat' (first|with_reducible (first|apply pN|apply cN|apply bN|apply cE|apply cR|apply bR|apply lE|apply lR|apply jE|apply jR)|refine bE rfl ?_|refine bP rfl ?_|refine pD ?_|refine seqI rfl ?_|refine regI rfl ?_|refine scopeI rfl ?_|refine blockI rfl ?_|refine exitI rfl ?_|refine retI rfl ?_|refine skipI rfl ?_)
  refine endR rfl ?_
  repeat' (first|exact trivial|exact rfl|refine ⟨rfl,?_⟩|refine And.intro ?_ ?_)
end Go.AM.YtkgmmmhokgdcaaaGreat.Fl
