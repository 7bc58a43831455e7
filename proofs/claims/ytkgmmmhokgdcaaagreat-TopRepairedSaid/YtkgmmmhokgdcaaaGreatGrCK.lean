/- Package graph: the steps that follow a step. -/
import Derived.Test.YtkgmmmhokgdcaaaGreatGrBK
import Derived.Test.YtkgmmmhokgdcaaaGreatPa25
set_option linter.all false
namespace Go.AM.YtkgmmmhokgdcaaaGreat.Fl
open Go.Proofs
set_option maxRecDepth 100000
set_option maxHeartbeats 4000000
def aftL:Int→List Int→List Int
  | b,[]=>bif decide (b≥0) then [b] else []
  | b,n::r=>bif decide (b≥0)&&decide (b < n) then b::n::aftL (-1) r else n::aftL (bif decide (b≤n) then -1 else b) r
def afterL (s:StepT):List Int:=aftL (stBk s) (stNx s)
def aft1S:Spec:=⟨true,fun args rows=>match args,rows with
  | [.own 0,.ptr 2 0],[.yp 1,.yld (.int .i64) false Y p,.box [.int .i64 rc,.sl (.int .i64) tl,.int .i64 mn,.int .i64 mx,.sl (.int .i64) nx,.int .i64 bk,.int .i64 lm]] =>
    some ⟨YGo Y p (aftL bk nx),.tup [],
      [.yp 3,.dead,.box [.int .i64 rc,.sl tInt tl,.int .i64 mn,.int .i64 mx,.sl tInt nx,.int .i64 bk,.int .i64 lm],.yld tInt false Y (cut Y.cont p (aftL bk nx)).1],true⟩
  | _,_=>none⟩
theorem aft1Ok:SpecSound Tryz.prog 170 aft1S:=by
  refine soundR (envOf sigNil) Tryz.func170 (c:=body Tryz.f170) rfl (by kernel_rfl) rfl ?_
  intro args rows out hf hpre
  split at hf <;> try (cases hf;done)
  rename_i Y p rc tl mn mx nx bk lm
  cases hf
  refine ⟨Nat.le_of_ble_eq_true rfl,initI (args:=[.own 0,.ptr 2 0]) (rows:=[.yp 1,.yld tInt false Y p,.box [.int .i64 rc,.sl tInt tl,.int .i64 mn,.int .i64 mx,.sl tInt nx,.int .i64 bk,.int .i64 lm]]) rfl ?_⟩
  obtain ⟨tot,htot⟩:∃ tot,tot=(cut Y.cont p (aftL bk nx)).1:=⟨_,rfl⟩
  rw [← htot]
  refine factBoxL (r:=100002) (j:=4) (ty:=tInt) rfl rfl (fun hxs=>?_)
  have hmx:List.length (α:=Int) nx≤9223372036854775807:=by have:=hxs.1;unfold maxLen at this;exact this
  refine renameI 100001 3000 rfl ?_
  repeat' (first|with_reducible (first|apply pN|apply cN|apply bN|apply cE|apply cR|apply bR|apply lE|apply lR|apply jE|apply jR)|refine bE rfl ?_|refine bP rfl ?_|refine pD ?_|refine seqI rfl ?_|refine regI rfl ?_|refine scopeI rfl ?_|refine blockI rfl ?_|refine exitI rfl ?_|refine retI rfl ?_|refine skipI rfl ?_)
  refine loopI (σ:=Nat × List Int × Int) (fun s=>[(11,.int .i64 s.1),(3,.int .i64 s.2.2)]) (fun s=>[(100000,.yp 3000),(3000,.yld tInt false Y s.2.1)]) (fun s=>s.1≤List.length (α:=Int) nx∧YGo Y s.2.1 (aftL s.2.2 (List.drop (α:=Int) s.1 nx))∧tot=(cut Y.cont s.2.1 (aftL s.2.2 (List.drop (α:=Int) s.1 nx))).1) (fun s=>List.length (α:=Int) nx - s.1) (0,p,bk) rfl (fun _=>rfl) rfl ?_ ?_ ?_
  · exact ⟨Nat.zero_le _,hpre,htot⟩
  · repeat' (first|exact trivial|exact rfl|refine ⟨rfl,?_⟩|refine And.intro ?_ ?_)
  rintro ⟨i,q,b⟩ ⟨hi,hA,hB⟩
  dsimp only at hi hA hB ⊢
  repeat' (first|with_reducible (first|apply pN|apply cN|apply bN|apply cE|apply cR|apply bR|apply lE|apply lR|apply jE|apply jR)|refine bE rfl ?_|refine bP rfl ?_|refine pD ?_|refine seqI rfl ?_|refine regI rfl ?_|refine scopeI rfl ?_|refine blockI rfl ?_|refine exitI rfl ?_|refine retI rfl ?_|refine skipI rfl ?_)
  refine condI rfl (fun c1=>?_) (fun c1=>?_)
  · simp only [decide_eq_true_eq] at c1
    have hil:i < List.length (α:=Int) nx:=by omega
    have hin:((i:Int)).toNat=i:=by omega
    rw [drop_get hil] at hA hB
    unfold aftL at hA hB
    repeat' (first|with_reducible (first|apply pN|apply cN|apply bN|apply cE|apply cR|apply bR|apply lE|apply lR|apply jE|apply jR)|refine bE rfl ?_|refine bP rfl ?_|refine seqI rfl ?_|refine scopeI rfl ?_|refine blockI rfl ?_|refine exitI rfl ?_|refine retI rfl ?_|refine skipI rfl ?_)
    refine regI rfl ?_
    repeat' (first|with_reducible refine pN ?_|refine pD ?_)
    repeat with_reducible refine cN ?_
    cases hc:(decide (b≥0)&&decide (b < getI nx 0 i))
    · rw [hc] at hA hB
      obtain ⟨hA1,hA2⟩:Y.ok (q++[getI nx 0 i])∧(Y.cont (q++[getI nx 0 i])=true→YGo Y (q++[getI nx 0 i]) (aftL (bif decide (b≤getI nx 0 i) then -1 else b) (nx.drop (i+1)))):=hA
      have hB:tot=(bif Y.cont (q++[getI nx 0 i]) then cut Y.cont (q++[getI nx 0 i]) (aftL (bif decide (b≤getI nx 0 i) then -1 else b) (nx.drop (i+1))) else (q++[getI nx 0 i],false)).1:=hB
      repeat' (first|with_reducible refine cN ?_|refine skipI rfl ?_|refine seqI rfl ?_)
      refine regH [(22,false)] rfl ?_
      repeat' (first|with_reducible refine pN ?_|refine pC (by first|exact True.intro|exact rfl|(simp only [hin];exact hc)|(intros;omega)) ?_)
      repeat' (first|with_reducible (first|apply pN|apply cN|apply bN|apply cE|apply cR|apply bR|apply lE|apply lR|apply jE|apply jR)|refine bE rfl ?_|refine bP rfl ?_|refine pD ?_|refine seqI rfl ?_|refine regI rfl ?_|refine scopeI rfl ?_|refine blockI rfl ?_|refine exitI rfl ?_|refine retI rfl ?_|refine skipI rfl ?_)
      refine condF rfl ?_
      repeat' (first|with_reducible (first|apply pN|apply cN|apply bN|apply cE|apply cR|apply bR|apply lE|apply lR|apply jE|apply jR)|refine bE rfl ?_|refine bP rfl ?_|refine pD ?_|refine seqI rfl ?_|refine regI rfl ?_|refine scopeI rfl ?_|refine blockI rfl ?_|refine exitI rfl ?_|refine retI rfl ?_|refine skipI rfl ?_)
      refine condI rfl (fun c2=>?_) (fun c2=>?_)
      · simp only [hin] at c2
        have c2:decide (b≤getI nx 0 i)=true:=c2
        rw [c2] at hA2 hB
        obtain ⟨q2,rfl⟩:∃ q2,q2=q:=⟨_,rfl⟩
        obtain ⟨b2,hb2⟩:∃ b2:Int,b2=-1:=⟨_,rfl⟩
        have hA2:Y.cont (q2++[getI nx 0 i])=true→YGo Y (q2++[getI nx 0 i]) (aftL b2 (nx.drop (i+1))):=by rw [hb2];exact hA2
        have hB:tot=(bif Y.cont (q2++[getI nx 0 i]) then cut Y.cont (q2++[getI nx 0 i]) (aftL b2 (nx.drop (i+1))) else (q2++[getI nx 0 i],false)).1:=by rw [hb2];exact hB
        repeat' (first|with_reducible (first|apply pN|apply cN|apply bN|apply cE|apply cR|apply bR|apply lE|apply lR|apply jE|apply jR)|refine bE rfl ?_|refine bP rfl ?_|refine pD ?_|refine pC (by exact hA1) ?_|refine seqI rfl ?_|refine regI rfl ?_|refine scopeI rfl ?_|refine blockI rfl ?_|refine exitI rfl ?_|refine retI rfl ?_|refine skipI rfl ?_)
        refine condI rfl (fun c5=>?_) (fun c5=>?_)
        · simp only [hin] at c5
          have c5':Y.cont (q2++[getI nx 0 i])=false:=(Bool.not_eq_true' _).mp c5
          rw [c5'] at hB
          repeat' (first|with_reducible (first|apply pN|apply cN|apply bN|apply cE|apply cR|apply bR|apply lE|apply lR|apply jE|apply jR)|refine bE rfl ?_|refine bP rfl ?_|refine pD ?_|refine seqI rfl ?_|refine regI rfl ?_|refine scopeI rfl ?_|refine blockI rfl ?_|refine exitI rfl ?_|refine retI rfl ?_|refine skipI rfl ?_)
          refine endR rfl ?_
          repeat' (first|exact trivial|exact rfl|refine ⟨rfl,?_⟩|refine And.intro ?_ ?_)
          simp only [hin]
          exact hB
        · simp only [hin] at c5
          have c5':Y.cont (q2++[getI nx 0 i])=true:=(Bool.not_eq_false' _).mp c5
          rw [c5'] at hB
          repeat' (first|with_reducible (first|apply pN|apply cN|apply bN|apply cE|apply cR|apply bR|apply lE|apply lR|apply jE|apply jR)|refine bE rfl ?_|refine bP rfl ?_|refine pD ?_|refine seqI rfl ?_|refine regI rfl ?_|refine scopeI rfl ?_|refine blockI rfl ?_|refine exitI rfl ?_|refine retI rfl ?_|refine skipI rfl ?_)
          refine roundI (i+1,q2++[getI nx 0 i],b2) rfl ?_ ?_ ?_
          · exact ⟨by show i+1≤List.length (α:=Int) nx;omega,hA2 c5',hB⟩
          · show List.length (α:=Int) nx - (i+1) < List.length (α:=Int) nx - i
            omega
          · repeat' (first|exact trivial|with_reducible exact rfl|refine And.intro ?_ ?_)
            all_goals (simp only [hin];first|rfl|exact hb2)
      · simp only [hin] at c2
        have c2:decide (b≤getI nx 0 i)=false:=c2
        rw [c2] at hA2 hB
        obtain ⟨q2,rfl⟩:∃ q2,q2=q:=⟨_,rfl⟩
        obtain ⟨b2,hb2⟩:∃ b2:Int,b2=b:=⟨_,rfl⟩
        have hA2:Y.cont (q2++[getI nx 0 i])=true→YGo Y (q2++[getI nx 0 i]) (aftL b2 (nx.drop (i+1))):=by rw [hb2];exact hA2
        have hB:tot=(bif Y.cont (q2++[getI nx 0 i]) then cut Y.cont (q2++[getI nx 0 i]) (aftL b2 (nx.drop (i+1))) else (q2++[getI nx 0 i],false)).1:=by rw [hb2];exact hB
        repeat' (first|with_reducible (first|apply pN|apply cN|apply bN|apply cE|apply cR|apply bR|apply lE|apply lR|apply jE|apply jR)|refine bE rfl ?_|refine bP rfl ?_|refine pD ?_|refine pC (by exact hA1) ?_|refine seqI rfl ?_|refine regI rfl ?_|refine scopeI rfl ?_|refine blockI rfl ?_|refine exitI rfl ?_|refine retI rfl ?_|refine skipI rfl ?_)
        refine condI rfl (fun c5=>?_) (fun c5=>?_)
        · simp only [hin] at c5
          have c5':Y.cont (q2++[getI nx 0 i])=false:=(Bool.not_eq_true' _).mp c5
          rw [c5'] at hB
          repeat' (first|with_reducible (first|apply pN|apply cN|apply bN|apply cE|apply cR|apply bR|apply lE|apply lR|apply jE|apply jR)|refine bE rfl ?_|refine bP rfl ?_|refine pD ?_|refine seqI rfl ?_|refine regI rfl ?_|refine scopeI rfl ?_|refine blockI rfl ?_|refine exitI rfl ?_|refine retI rfl ?_|refine skipI rfl ?_)
          refine endR rfl ?_
          repeat' (first|exact trivial|exact rfl|refine ⟨rfl,?_⟩|refine And.intro ?_ ?_)
          simp only [hin]
          exact hB
        · simp only [hin] at c5
          have c5':Y.cont (q2++[getI nx 0 i])=true:=(Bool.not_eq_false' _).mp c5
          rw [c5'] at hB
          repeat' (first|with_reducible (first|apply pN|apply cN|apply bN|apply cE|apply cR|apply bR|apply lE|apply lR|apply jE|apply jR)|refine bE rfl ?_|refine bP rfl ?_|refine pD ?_|refine seqI rfl ?_|refine regI rfl ?_|refine scopeI rfl ?_|refine blockI rfl ?_|refine exitI rfl ?_|refine retI rfl ?_|refine skipI rfl ?_)
          refine roundI (i+1,q2++[getI nx 0 i],b2) rfl ?_ ?_ ?_
          · exact ⟨by show i+1≤List.length (α:=Int) nx;omega,hA2 c5',hB⟩
          · show List.length (α:=Int) nx - (i+1) < List.length (α:=Int) nx - i
            omega
          · repeat' (first|exact trivial|with_reducible exact rfl|refine And.intro ?_ ?_)
            all_goals (simp only [hin];first|rfl|exact hb2)
    · rw [hc] at hA hB
      obtain ⟨hk1,hk2⟩:Y.ok (q++[b])∧(Y.cont (q++[b])=true→YGo Y (q++[b]) (getI nx 0 i::aftL (-1) (nx.drop (i+1)))):=hA
      have hB:tot=(bif Y.cont (q++[b]) then cut Y.cont (q++[b]) (getI nx 0 i::aftL (-1) (nx.drop (i+1))) else (q++[b],false)).1:=hB
      have hbn:b < getI nx 0 i:=by rw [Bool.and_eq_true] at hc;exact of_decide_eq_true hc.2
      repeat' (first|with_reducible refine cN ?_|refine skipI rfl ?_|refine seqI rfl ?_)
      refine regH [(22,true)] rfl ?_
      repeat' (first|with_reducible refine pN ?_|refine pC (by first|exact True.intro|exact hk1|(intros;exact hk1)|exact rfl|(simp only [hin];exact hc)|(intros;omega)) ?_)
      repeat' (first|with_reducible (first|apply pN|apply cN|apply bN|apply cE|apply cR|apply bR|apply lE|apply lR|apply jE|apply jR)|refine bE rfl ?_|refine bP rfl ?_|refine pD ?_|refine seqI rfl ?_|refine regI rfl ?_|refine scopeI rfl ?_|refine blockI rfl ?_|refine exitI rfl ?_|refine retI rfl ?_|refine skipI rfl ?_)
      refine condI rfl (fun c3=>?_) (fun c3=>?_)
      · have c3':Y.cont (q++[b])=false:=(Bool.not_eq_true' _).mp c3
        rw [c3'] at hB
        repeat' (first|with_reducible (first|apply pN|apply cN|apply bN|apply cE|apply cR|apply bR|apply lE|apply lR|apply jE|apply jR)|refine bE rfl ?_|refine bP rfl ?_|refine pD ?_|refine seqI rfl ?_|refine regI rfl ?_|refine scopeI rfl ?_|refine blockI rfl ?_|refine exitI rfl ?_|refine retI rfl ?_|refine skipI rfl ?_)
        refine endR rfl ?_
        repeat' (first|exact trivial|exact rfl|refine ⟨rfl,?_⟩|refine And.intro ?_ ?_)
        exact hB
      · have c3':Y.cont (q++[b])=true:=(Bool.not_eq_false' _).mp c3
        rw [c3'] at hB
        have hk2:=hk2 c3'
        obtain ⟨q2,hq2⟩:∃ q2,q2=q++[b]:=⟨_,rfl⟩
        rw [← hq2] at hk2 hB
        obtain ⟨hA1,hA2⟩:Y.ok (q2++[getI nx 0 i])∧(Y.cont (q2++[getI nx 0 i])=true→YGo Y (q2++[getI nx 0 i]) (aftL (-1) (nx.drop (i+1)))):=hk2
        have hB:tot=(bif Y.cont (q2++[getI nx 0 i]) then cut Y.cont (q2++[getI nx 0 i]) (aftL (-1) (nx.drop (i+1))) else (q2++[getI nx 0 i],false)).1:=hB
        obtain ⟨b2,hb2⟩:∃ b2:Int,b2=-1:=⟨_,rfl⟩
        rw [← hb2] at hA2 hB
        repeat' (first|with_reducible (first|apply pN|apply cN|apply bN|apply cE|apply cR|apply bR|apply lE|apply lR|apply jE|apply jR)|refine bE rfl ?_|refine bP rfl ?_|refine pD ?_|refine seqI rfl ?_|refine regI rfl ?_|refine scopeI rfl ?_|refine blockI rfl ?_|refine exitI rfl ?_|refine retI rfl ?_|refine skipI rfl ?_)
        refine condI rfl (fun _=>?_) (fun c4=>?_)
        · rw [← hq2]
          repeat' (first|with_reducible (first|apply pN|apply cN|apply bN|apply cE|apply cR|apply bR|apply lE|apply lR|apply jE|apply jR)|refine bE rfl ?_|refine bP rfl ?_|refine pD ?_|refine pC (by exact hA1) ?_|refine seqI rfl ?_|refine regI rfl ?_|refine scopeI rfl ?_|refine blockI rfl ?_|refine exitI rfl ?_|refine retI rfl ?_|refine skipI rfl ?_)
          refine condI rfl (fun c5=>?_) (fun c5=>?_)
          · simp only [hin] at c5
            have c5':Y.cont (q2++[getI nx 0 i])=false:=(Bool.not_eq_true' _).mp c5
            rw [c5'] at hB
            repeat' (first|with_reducible (first|apply pN|apply cN|apply bN|apply cE|apply cR|apply bR|apply lE|apply lR|apply jE|apply jR)|refine bE rfl ?_|refine bP rfl ?_|refine pD ?_|refine seqI rfl ?_|refine regI rfl ?_|refine scopeI rfl ?_|refine blockI rfl ?_|refine exitI rfl ?_|refine retI rfl ?_|refine skipI rfl ?_)
            refine endR rfl ?_
            repeat' (first|exact trivial|exact rfl|refine ⟨rfl,?_⟩|refine And.intro ?_ ?_)
            simp only [hin]
            exact hB
          · simp only [hin] at c5
            have c5':Y.cont (q2++[getI nx 0 i])=true:=(Bool.not_eq_false' _).mp c5
            rw [c5'] at hB
            repeat' (first|with_reducible (first|apply pN|apply cN|apply bN|apply cE|apply cR|apply bR|apply lE|apply lR|apply jE|apply jR)|refine bE rfl ?_|refine bP rfl ?_|refine pD ?_|refine seqI rfl ?_|refine regI rfl ?_|refine scopeI rfl ?_|refine blockI rfl ?_|refine exitI rfl ?_|refine retI rfl ?_|refine skipI rfl ?_)
            refine roundI (i+1,q2++[getI nx 0 i],b2) rfl ?_ ?_ ?_
            · exact ⟨by show i+1≤List.length (α:=Int) nx;omega,hA2 c5',hB⟩
            · show List.length (α:=Int) nx - (i+1) < List.length (α:=Int) nx - i
              omega
            · repeat' (first|exact trivial|with_reducible exact rfl|refine And.intro ?_ ?_)
              all_goals (simp only [hin];first|rfl|exact hb2)
        · exfalso
          simp only [hin] at c4
          have:=of_decide_eq_false c4
          exact this (Int.le_of_lt hbn)
  · simp only [decide_eq_false_iff_not] at c1
    rw [List.drop_eq_nil_of_le (show List.length (α:=Int) nx≤i by omega)] at hA hB
    unfold aftL at hA hB
    repeat' (first|with_reducible (first|apply pN|apply cN|apply bN|apply cE|apply cR|apply bR|apply lE|apply lR|apply jE|apply jR)|refine bE rfl ?_|refine bP rfl ?_|refine pD ?_|refine seqI rfl ?_|refine regI rfl ?_|refine scopeI rfl ?_|refine blockI rfl ?_|refine exitI rfl ?_|refine retI rfl ?_|refine skipI rfl ?_)
    refine condI rfl (fun c2=>?_) (fun c2=>?_)
    · have c2:decide (b≥0)=true:=c2
      rw [c2] at hA hB
      obtain ⟨hk1,hk2⟩:Y.ok (q++[b])∧(Y.cont (q++[b])=true→True):=hA
      have hB:tot=(bif Y.cont (q++[b]) then (q++[b],true) else (q++[b],false)).1:=hB
      repeat' (first|with_reducible (first|apply pN|apply cN|apply bN|apply cE|apply cR|apply bR|apply lE|apply lR|apply jE|apply jR)|refine bE rfl ?_|refine bP rfl ?_|refine pD ?_|refine pC (by exact hk1) ?_|refine seqI rfl ?_|refine regI rfl ?_|refine scopeI rfl ?_|refine blockI rfl ?_|refine exitI rfl ?_|refine retI rfl ?_|refine skipI rfl ?_)
      refine endN rfl ?_
      repeat' (first|exact trivial|with_reducible exact rfl|refine And.intro ?_ ?_)
      rw [hB]
      cases Y.cont (q++[b]) <;> rfl
    · have c2:decide (b≥0)=false:=c2
      rw [c2] at hA hB
      repeat' (first|with_reducible (first|apply pN|apply cN|apply bN|apply cE|apply cR|apply bR|apply lE|apply lR|apply jE|apply jR)|refine bE rfl ?_|refine bP rfl ?_|refine pD ?_|refine seqI rfl ?_|refine regI rfl ?_|refine scopeI rfl ?_|refine blockI rfl ?_|refine exitI rfl ?_|refine retI rfl ?_|refine skipI rfl ?_)
      refine endN rfl ?_
      repeat' (first|exact trivial|with_reducible exact rfl|refine And.intro ?_ ?_)
      exact hB
def aftS:Spec:=⟨true,fun args rows=>match args,rows with
  | [.agg [.int .i64 rc,.sl (.int .i64) tl,.int .i64 mn,.int .i64 mx,.sl (.int .i64) nx,.int .i64 bk,.int .i64 lm]],[] =>
    some ⟨True,.fn 170 [] [.ptr 0 0],[.box [.int .i64 rc,.sl tInt tl,.int .i64 mn,.int .i64 mx,.sl tInt nx,.int .i64 bk,.int .i64 lm]],true⟩
  | _,_=>none⟩
theorem aftOk:SpecSound Tryz.prog 163 aftS:=by
  refine soundR (envOf sigNil) Tryz.func163 (c:=body Tryz.f163) rfl (by kernel_rfl) rfl ?_
  intro args rows out hf hpre
  split at hf <;> try (cases hf;done)
  rename_i rc tl mn mx nx bk lm
  cases hf
  refine ⟨Nat.le_of_ble_eq_true rfl,initI (args:=[.agg [.int .i64 rc,.sl tInt tl,.int .i64 mn,.int .i64 mx,.sl tInt nx,.int .i64 bk,.int .i64 lm]]) (rows:=[]) rfl ?_⟩
  repeat' (first|with_reducible (first|apply pN|apply cN|apply bN|apply cE|apply cR|apply bR|apply lE|apply lR|apply jE|apply jR)|refine bE rfl ?_|refine bP rfl ?_|refine pD ?_|refine seqI rfl ?_|refine regI rfl ?_|refine scopeI rfl ?_|refine blockI rfl ?_|refine exitI rfl ?_|refine retI rfl ?_|refine skipI rfl ?_)
  refine endR rfl ?_
  repeat' (first|exact trivial|exact rfl|refine ⟨rfl,?_⟩|refine And.intro ?_ ?_)
end Go.AM.YtkgmmmhokgdcaaaGreat.Fl
