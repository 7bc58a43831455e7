/- CaC. -/
import Derived.Test.YtkgmmmhokgdcaaaGreatPa14

section
set_option linter.all false
namespace Go.AM.YtkgmmmhokgdcaaaGreat
open Go.Proofs
set_option maxRecDepth 100000
set_option maxHeartbeats 4000000
def lenF (xss:List (List Bk.El)):Nat:=(xss.map List.length).sum
theorem lenF_take_succ {xss:List (List Bk.El)} {i:Nat} (h:i < xss.length):lenF (xss.take (i+1))=lenF (xss.take i)+(getI xss [] i).length:=by
  have:getI xss [] i=xss[i]:=by simp [getI,List.getD,List.getElem?_eq_getElem h]
  unfold lenF
  rw [List.take_succ_eq_append_getElem h,this,List.map_append,List.sum_append]
  simp only [List.map_cons,List.map_nil,List.sum_cons,List.sum_nil,Nat.add_zero]
theorem lenF_small {xss:List (List Bk.El)} (h:∀ xs∈xss,List.length (α:=Bk.El) xs≤1000000):lenF xss≤xss.length * 1000000:=by
  induction xss with
  | nil=>simp [lenF]
  | cons x r ih =>
    have h1:=ih fun xs hx=>h xs (by simp [hx])
    have h2:=h x (by simp)
    simp only [lenF,List.map_cons,List.sum_cons,List.length_cons] at *
    omega
def lenS:Spec:=plain fun
  | [.nilptr]=>outV True (.int .i64 0)
  | [.ext (.cref (.pair (.int .i64) (.pair (.int .i64) (.pair (.int .i64) (.int .i64)))) xss 0)]=>outV (Cal xss) (.int .i64 (lenF xss))
  | _=>none
theorem lenOk:SpecSound Tryz.prog 20 lenS:=by
  refine soundP (envOf sigNil) Tryz.func20 (c:=body Tryz.f20) rfl (by kernel_rfl) rfl ?_
  intro args out hf hpre
  split at hf <;> try (cases hf;done)
  · cases hf
    refine ⟨Nat.le_of_ble_eq_true rfl,initI rfl ?_⟩
    repeat' (first|with_reducible (first|apply pN|apply cN|apply bN|apply cE|apply cR|apply bR|apply lE|apply lR|apply jE|apply jR)|refine bE rfl ?_|refine bP rfl ?_|refine pD ?_|refine seqI rfl ?_|refine regI rfl ?_|refine scopeI rfl ?_|refine blockI rfl ?_|refine exitI rfl ?_|refine retI rfl ?_|refine skipI rfl ?_)
    refine condF rfl ?_
    repeat' (first|with_reducible (first|apply pN|apply cN|apply bN|apply cE|apply cR|apply bR|apply lE|apply lR|apply jE|apply jR)|refine bE rfl ?_|refine bP rfl ?_|refine pD ?_|refine seqI rfl ?_|refine regI rfl ?_|refine scopeI rfl ?_|refine blockI rfl ?_|refine exitI rfl ?_|refine retI rfl ?_|refine skipI rfl ?_)
    refine endR rfl ?_
    repeat' (first|exact trivial|exact rfl|refine ⟨rfl,?_⟩|refine And.intro ?_ ?_)
  · rename_i xss
    cases hf
    change Cal xss at hpre
    refine ⟨Nat.le_of_ble_eq_true rfl,initI (args:=[.ext (.cref Bk xss 0)]) rfl ?_⟩
    have hl:=hpre.len
    repeat' (first|with_reducible (first|apply pN|apply cN|apply bN|apply cE|apply cR|apply bR|apply lE|apply lR|apply jE|apply jR)|refine bE rfl ?_|refine bP rfl ?_|refine pD ?_|refine seqI rfl ?_|refine regI rfl ?_|refine scopeI rfl ?_|refine blockI rfl ?_|refine exitI rfl ?_|refine retI rfl ?_|refine skipI rfl ?_)
    refine condT rfl ?_
    repeat' (first|with_reducible (first|apply pN|apply cN|apply bN|apply cE|apply cR|apply bR|apply lE|apply lR|apply jE|apply jR)|refine bE rfl ?_|refine bP rfl ?_|refine pD ?_|refine pC (by exact hl) ?_|refine seqI rfl ?_|refine regI rfl ?_|refine scopeI rfl ?_|refine blockI rfl ?_|refine exitI rfl ?_|refine retI rfl ?_|refine skipI rfl ?_)
    refine loopI (σ:=Nat) (fun i=>[(3,.int .i64 (lenF (xss.take i):Int)),(12,.int .i64 i)]) (fun i=>[]) (fun i=>i≤60) (fun i=>60 - i) 0 rfl (fun _=>rfl) rfl ?_ ?_ ?_
    · exact Nat.zero_le _
    · repeat' (first|exact trivial|exact rfl|refine ⟨rfl,?_⟩|refine And.intro ?_ ?_)
    · intro i hi
      have hs:=lenF_small (xss:=xss.take i) (fun xs h=>hpre.small xs (List.mem_of_mem_take h))
      rw [List.length_take] at hs
      repeat' (first|with_reducible (first|apply pN|apply cN|apply bN|apply cE|apply cR|apply bR|apply lE|apply lR|apply jE|apply jR)|refine bE rfl ?_|refine bP rfl ?_|refine pD ?_|refine seqI rfl ?_|refine regI rfl ?_|refine scopeI rfl ?_|refine blockI rfl ?_|refine exitI rfl ?_|refine retI rfl ?_|refine skipI rfl ?_)
      refine condI rfl (fun c1=>?_) (fun c1=>?_)
      · simp only [decide_eq_true_eq] at c1
        have hi2:i < 60:=by omega
        have h4:=(hpre.get hi2).2
        have h5:(i:Int).toNat=i:=by omega
        repeat' (first|with_reducible (first|apply pN|apply cN|apply bN|apply cE|apply cR|apply bR|apply lE|apply lR|apply jE|apply jR)|refine bE rfl ?_|refine bP rfl ?_|refine pD ?_|refine pC (by first|(first|(rw [hl];omega)|(simp only [h5];omega))) ?_|refine seqI rfl ?_|refine regI rfl ?_|refine scopeI rfl ?_|refine blockI rfl ?_|refine exitI rfl ?_|refine retI rfl ?_|refine skipI rfl ?_)
        refine roundI (i+1) rfl ?_ ?_ ?_
        · show i+1≤60
          omega
        · show 60 - (i+1) < 60 - i
          omega
        · repeat' (first|exact trivial|exact rfl|refine ⟨rfl,?_⟩|refine And.intro ?_ ?_)
          rw [lenF_take_succ (by omega)]
          simp
      · simp only [decide_eq_false_iff_not] at c1
        repeat' (first|with_reducible (first|apply pN|apply cN|apply bN|apply cE|apply cR|apply bR|apply lE|apply lR|apply jE|apply jR)|refine bE rfl ?_|refine bP rfl ?_|refine pD ?_|refine seqI rfl ?_|refine regI rfl ?_|refine scopeI rfl ?_|refine blockI rfl ?_|refine exitI rfl ?_|refine retI rfl ?_|refine skipI rfl ?_)
        have h6:xss.take i=xss:=List.take_of_length_le (by omega)
        refine endR rfl ?_
        repeat' (first|exact trivial|exact rfl|refine ⟨rfl,?_⟩|refine And.intro ?_ ?_)
        rw [h6]
def ownedF (xss:List (List Bk.El)) (o:Int):List Bk.El:=(xss.flatten).filter (ownsB o)
theorem flat_len (xss:List (List Bk.El)):xss.flatten.length=lenF xss:=by
  simp [lenF,List.length_flatten]
theorem flat_take_succ {xss:List (List Bk.El)} {i:Nat} (h:i < xss.length):(xss.take (i+1)).flatten=(xss.take i).flatten++getI xss [] i:=by
  have:getI xss [] i=xss[i]:=by simp [getI,List.getD,List.getElem?_eq_getElem h]
  rw [List.take_succ_eq_append_getElem h,this,List.flatten_append]
  simp only [List.flatten_cons,List.flatten_nil,List.append_nil]
theorem take_succ_getI {α:Type} {xs:List α} {d:α} {j:Nat} (h:j < xs.length):xs.take (j+1)=xs.take j++[getI xs d j]:=by
  have:getI xs d j=xs[j]:=by simp [getI,List.getD,List.getElem?_eq_getElem h]
  rw [List.take_succ_eq_append_getElem h,this]
def ownedS:Spec:=plain fun
  | [.nilptr,.int .i64 o]=>some ⟨True,.own 0,[.seq Bk []],false⟩
  | [.ext (.cref (.pair (.int .i64) (.pair (.int .i64) (.pair (.int .i64) (.int .i64)))) xss 0),.int .i64 o]=>some ⟨Cal xss,.own 0,[.seq Bk (ownedF xss o)],false⟩
  | _=>none
theorem ownedOk:SpecSound Tryz.prog 14 ownedS:=by
  refine soundP (envOf sigNil) Tryz.func14 (c:=body Tryz.f14) rfl (by kernel_rfl) rfl ?_
  intro args out hf hpre
  split at hf <;> try (cases hf;done)
  · rename_i o
    cases hf
    refine ⟨Nat.le_of_ble_eq_true rfl,initI rfl ?_⟩
    repeat' (first|with_reducible (first|apply pN|apply cN|apply bN|apply cE|apply cR|apply bR|apply lE|apply lR|apply jE|apply jR)|refine bE rfl ?_|refine bP rfl ?_|refine pD ?_|refine seqI rfl ?_|refine regI rfl ?_|refine scopeI rfl ?_|refine blockI rfl ?_|refine exitI rfl ?_|refine retI rfl ?_|refine skipI rfl ?_)
    refine condF rfl ?_
    repeat' (first|with_reducible (first|apply pN|apply cN|apply bN|apply cE|apply cR|apply bR|apply lE|apply lR|apply jE|apply jR)|refine bE rfl ?_|refine bP rfl ?_|refine pD ?_|refine seqI rfl ?_|refine regI rfl ?_|refine scopeI rfl ?_|refine blockI rfl ?_|refine exitI rfl ?_|refine retI rfl ?_|refine skipI rfl ?_)
    refine endR rfl ?_
    repeat' (first|exact trivial|exact rfl|refine ⟨rfl,?_⟩|refine And.intro ?_ ?_)
  · rename_i xss o
    cases hf
    change Cal xss at hpre
    refine ⟨Nat.le_of_ble_eq_true rfl,initI (args:=[.ext (.cref Bk xss 0),.int .i64 o]) rfl ?_⟩
    have hl:=hpre.len
    repeat' (first|with_reducible (first|apply pN|apply cN|apply bN|apply cE|apply cR|apply bR|apply lE|apply lR|apply jE|apply jR)|refine bE rfl ?_|refine bP rfl ?_|refine pD ?_|refine seqI rfl ?_|refine regI rfl ?_|refine scopeI rfl ?_|refine blockI rfl ?_|refine exitI rfl ?_|refine retI rfl ?_|refine skipI rfl ?_)
    refine condT rfl ?_
    repeat' (first|with_reducible (first|apply pN|apply cN|apply bN|apply cE|apply cR|apply bR|apply lE|apply lR|apply jE|apply jR)|refine bE rfl ?_|refine bP rfl ?_|refine pD ?_|refine pC (by exact hl) ?_|refine seqI rfl ?_|refine regI rfl ?_|refine scopeI rfl ?_|refine blockI rfl ?_|refine exitI rfl ?_|refine retI rfl ?_|refine skipI rfl ?_)
    refine loopI (σ:=Nat) (fun i=>[(5,.own 3000),(16,.int .i64 i)]) (fun i=>[(3000,.seq Bk ((xss.take i).flatten.filter (ownsB o)))]) (fun i=>i≤60) (fun i=>60 - i) 0 rfl (fun _=>rfl) rfl ?_ ?_ ?_
    · exact Nat.zero_le _
    · repeat' (first|exact trivial|exact rfl|refine ⟨rfl,?_⟩|refine And.intro ?_ ?_)
    · intro i hi
      have hs:=lenF_small (xss:=xss.take i) (fun xs h=>hpre.small xs (List.mem_of_mem_take h))
      rw [List.length_take,← flat_len] at hs
      have hs2:=List.length_filter_le (ownsB o) (xss.take i).flatten
      repeat' (first|with_reducible (first|apply pN|apply cN|apply bN|apply cE|apply cR|apply bR|apply lE|apply lR|apply jE|apply jR)|refine bE rfl ?_|refine bP rfl ?_|refine pD ?_|refine seqI rfl ?_|refine regI rfl ?_|refine scopeI rfl ?_|refine blockI rfl ?_|refine exitI rfl ?_|refine retI rfl ?_|refine skipI rfl ?_)
      refine condI rfl (fun c1=>?_) (fun c1=>?_)
      · simp only [decide_eq_true_eq] at c1
        have hi2:i < 60:=by omega
        have h4:=(hpre.get hi2).2
        have h5:(i:Int).toNat=i:=by omega
        repeat' (first|with_reducible (first|apply pN|apply cN|apply bN|apply cE|apply cR|apply bR|apply lE|apply lR|apply jE|apply jR)|refine bE rfl ?_|refine bP rfl ?_|refine pD ?_|refine pC (by first|(first|(rw [hl];omega)|(simp only [h5];omega))) ?_|refine seqI rfl ?_|refine regI rfl ?_|refine scopeI rfl ?_|refine blockI rfl ?_|refine exitI rfl ?_|refine retI rfl ?_|refine skipI rfl ?_)
        refine loopI (σ:=Nat) (fun j=>[(5,.own 3000),(21,.int .i64 j)]) (fun j=>[(3000,.seq Bk ((xss.take i).flatten.filter (ownsB o)++((getI xss [] i).take j).filter (ownsB o)))]) (fun j=>j≤(getI xss [] i).length) (fun j=>(getI xss [] i).length - j) 0 rfl (fun _=>rfl) rfl ?_ ?_ ?_
        · exact Nat.zero_le _
        · repeat' (first|exact trivial|exact rfl|refine ⟨rfl,?_⟩|refine And.intro ?_ ?_)
          simp
        · intro j hj
          have hs3:=List.length_filter_le (ownsB o) ((getI xss [] i).take j)
          rw [List.length_take] at hs3
          repeat' (first|with_reducible (first|apply pN|apply cN|apply bN|apply cE|apply cR|apply bR|apply lE|apply lR|apply jE|apply jR)|refine bE rfl ?_|refine bP rfl ?_|refine pD ?_|refine seqI rfl ?_|refine regI rfl ?_|refine scopeI rfl ?_|refine blockI rfl ?_|refine exitI rfl ?_|refine retI rfl ?_|refine skipI rfl ?_)
          refine condI rfl (fun c2=>?_) (fun c2=>?_)
          · simp only [decide_eq_true_eq] at c2
            rw [h5] at c2
            have hj2:j < (getI xss [] i).length:=by omega
            repeat' (first|with_reducible (first|apply pN|apply cN|apply bN|apply cE|apply cR|apply bR|apply lE|apply lR|apply jE|apply jR)|refine bE rfl ?_|refine bP rfl ?_|refine pD ?_|refine pC (by (simp only [h5];omega)) ?_|refine seqI rfl ?_|refine regI rfl ?_|refine scopeI rfl ?_|refine blockI rfl ?_|refine exitI rfl ?_|refine retI rfl ?_|refine skipI rfl ?_)
            refine condI rfl (fun c3=>?_) (fun c3=>?_)
            · repeat' (first|with_reducible (first|apply pN|apply cN|apply bN|apply cE|apply cR|apply bR|apply lE|apply lR|apply jE|apply jR)|refine bE rfl ?_|refine bP rfl ?_|refine pD ?_|refine pC (by (simp only [List.length_append,List.length_cons,List.length_nil];omega)) ?_|refine seqI rfl ?_|refine regI rfl ?_|refine scopeI rfl ?_|refine blockI rfl ?_|refine exitI rfl ?_|refine retI rfl ?_|refine skipI rfl ?_)
              refine roundI (j+1) rfl ?_ ?_ ?_
              · show j+1≤_
                omega
              · show (getI xss [] i).length - (j+1) < (getI xss [] i).length - j
                omega
              · repeat' (first|exact trivial|exact rfl|refine ⟨rfl,?_⟩|refine And.intro ?_ ?_)
                rw [take_succ_getI (d:=Bk.dflt) hj2,List.filter_append,List.append_assoc]
                congr 2
                have:ownsB o (getI (getI xss [] i) Bk.dflt j)=true:=by
                  simpa [ownsB,h5] using c3
                simp [this,h5]
            · repeat' (first|with_reducible (first|apply pN|apply cN|apply bN|apply cE|apply cR|apply bR|apply lE|apply lR|apply jE|apply jR)|refine bE rfl ?_|refine bP rfl ?_|refine pD ?_|refine seqI rfl ?_|refine regI rfl ?_|refine scopeI rfl ?_|refine blockI rfl ?_|refine exitI rfl ?_|refine retI rfl ?_|refine skipI rfl ?_)
              refine roundI (j+1) rfl ?_ ?_ ?_
              · show j+1≤_
                omega
              · show (getI xss [] i).length - (j+1) < (getI xss [] i).length - j
                omega
              · repeat' (first|exact trivial|exact rfl|refine ⟨rfl,?_⟩|refine And.intro ?_ ?_)
                rw [take_succ_getI (d:=Bk.dflt) hj2,List.filter_append]
                have:ownsB o (getI (getI xss [] i) Bk.dflt j)=false:=by
                  simpa [ownsB,h5] using c3
                simp [this]
          · simp only [decide_eq_false_iff_not] at c2
            rw [h5] at c2
            repeat' (first|with_reducible (first|apply pN|apply cN|apply bN|apply cE|apply cR|apply bR|apply lE|apply lR|apply jE|apply jR)|refine bE rfl ?_|refine bP rfl ?_|refine pD ?_|refine seqI rfl ?_|refine regI rfl ?_|refine scopeI rfl ?_|refine blockI rfl ?_|refine exitI rfl ?_|refine retI rfl ?_|refine skipI rfl ?_)
            refine roundI (i+1) rfl ?_ ?_ ?_
            · show i+1≤60
              omega
            · show 60 - (i+1) < 60 - i
              omega
            · repeat' (first|exact trivial|exact rfl|refine ⟨rfl,?_⟩|refine And.intro ?_ ?_)
              rw [flat_take_succ (by omega),List.filter_append,List.take_of_length_le (i:=j) (by omega)]
      · simp only [decide_eq_false_iff_not] at c1
        repeat' (first|with_reducible (first|apply pN|apply cN|apply bN|apply cE|apply cR|apply bR|apply lE|apply lR|apply jE|apply jR)|refine bE rfl ?_|refine bP rfl ?_|refine pD ?_|refine seqI rfl ?_|refine regI rfl ?_|refine scopeI rfl ?_|refine blockI rfl ?_|refine exitI rfl ?_|refine retI rfl ?_|refine skipI rfl ?_)
        have h6:xss.take i=xss:=List.take_of_length_le (by omega)
        refine endR rfl ?_
        repeat' (first|exact trivial|exact rfl|refine ⟨rfl,?_⟩|refine And.intro ?_ ?_)
        rw [h6];rfl
end Go.AM.YtkgmmmhokgdcaaaGreat
end
