/- The reference's Chosen: a possible scenario that integers determine. -/
import Derived.Test.YtkgmmmhokgdcaaaGreatWkMadeVK
set_option linter.all false
namespace Go.AM.YtkgmmmhokgdcaaaGreat.Pl
open Go.Proofs
set_option maxRecDepth 100000
set_option maxHeartbeats 8000000
abbrev Two:=Int × Int
def two (y:List Two) (i:Nat):Two:=if (i:Int) < y.length then getI y tTwo.dflt i else (0,0)
def stg (xs:List StT) (i:Nat):StT:=getI xs tStage.dflt i
def cDe (a b:Int) (y:List Two):Int:=if 0 < (y.length:Int) then a+pickF ((getI y tTwo.dflt 0).1.tdiv 7) (b - a+1) else a
def cDu (xs:List StT) (y:List Two):Nat→List Int
  | 0=>[]
  | i+1=>cDu xs y i++[(stg xs i).1+pickF (two y i).1 ((stg xs i).2.1 - (stg xs i).1+1)]
def cMo (a b:Int) (y:List Two):Nat→List Int
  | 0=>[]
  | i+1=>cMo a b y i++[a+pickF (two y i).2 (b - a+1)]
def cIx (xs:List StT) (tool:Int):Int:=pickF (tool.tdiv 4) xs.length
def cTl (xs:List StT) (tool:Int):Int:=if 0 < pickF tool 4 then (stg xs (cIx xs tool).toNat).2.2.1.1 else -1
def cFa (xs:List StT) (tool at':Int):Int :=
  if 0 < pickF tool 4 then (if 0 < pickF at' 3 then max 0 ((stg xs (cIx xs tool).toNat).2.2.1.2 - 20+pickF (at'.tdiv 3) 50) else pickF at' ((stg xs ((xs.length:Int) - 1).toNat).2.2.2.2+50)) else 0
def chosenS:Spec:=plain fun
  | [.agg [.int .i64 e,.int .i64 a,.int .i64 b,.sl (.pair (.int .i64) (.pair (.int .i64) (.pair (.pair (.int .i64) (.int .i64)) (.pair (.int .i64) (.int .i64))))) xs,.sl (.pair (.int .i64) (.pair (.int .i64) (.int .i64))) ws],.sl (.pair (.int .i64) (.int .i64)) y,.int .i64 tool,.int .i64 at'] =>
    some ⟨validF e a b xs ws=true,.agg [.own 0,.own 1,.int .i64 (cDe a b y),.int .i64 (cTl xs tool),.int .i64 (cFa xs tool at')],[.seq tInt (cDu xs y xs.length),.seq tInt (cMo a b y xs.length)],false⟩
  | _=>none
theorem cDu_len {xs:List StT} {y:List Two}:∀ i:Nat,(cDu xs y i).length=i
  | 0=>rfl
  | i+1=>by simp [cDu,cDu_len i]
theorem cMo_len {a b:Int} {y:List Two}:∀ i:Nat,(cMo a b y i).length=i
  | 0=>rfl
  | i+1=>by simp [cMo,cMo_len i]
theorem chosenOk:SpecSound Tryz.prog 13 chosenS:=by
  refine soundP (envOf sigPickOk) Tryz.func13 (c:=body Tryz.f13) rfl (by kernel_rfl) rfl ?_
  intro args out hf hpre
  split at hf <;> try (cases hf;done)
  rename_i e a b xs ws y tool at'
  cases hf
  refine ⟨Nat.le_of_ble_eq_true rfl,initI (args:=[.agg [.int .i64 e,.int .i64 a,.int .i64 b,.sl tStage xs,.sl tWin ws],.sl tTwo y,.int .i64 tool,.int .i64 at']) rfl ?_⟩
  have F:=valid_facts (show validF e a b xs ws=true from hpre)
  have hn:=F.n
  have hab:=F.ab
  repeat' (first|with_reducible (first|apply pN|apply cN|apply bN|apply cE|apply cR|apply bR|apply lE|apply lR|apply jE|apply jR)|refine bE rfl ?_|refine bP rfl ?_|refine pD ?_|refine seqI rfl ?_|refine regI rfl ?_|refine scopeI rfl ?_|refine blockI rfl ?_|refine exitI rfl ?_|refine retI rfl ?_|refine skipI rfl ?_)
  refine joinC (fun _:Unit=>[]) (fun _=>[(9,.box [.nilsl,.nilsl,.int .i64 (cDe a b y),.int .i64 (-1),.int .i64 0])]) (fun _=>True) (fun _=>rfl) ?_ (fun _ _=>?_)
  · have hp:=fun c=>@pick_b c (b - a+1) (by omega)
    refine condI rfl (fun c1=>?_) (fun c1=>?_)
    · simp only [decide_eq_true_eq] at c1
      have:=hp ((getI y tTwo.dflt 0).1.tdiv 7)
      repeat' (first|with_reducible (first|apply pN|apply cN|apply bN|apply cE|apply cR|apply bR|apply lE|apply lR|apply jE|apply jR)|refine bE rfl ?_|refine bP rfl ?_|refine pD ?_|refine pC (by (simp only [Int.toNat_zero];omega)) ?_|refine seqI rfl ?_|refine regI rfl ?_|refine scopeI rfl ?_|refine blockI rfl ?_|refine exitI rfl ?_|refine retI rfl ?_|refine skipI rfl ?_)
      refine meetI () rfl trivial ?_
      repeat' (first|exact trivial|exact rfl|refine ⟨rfl,?_⟩|refine And.intro ?_ ?_)
      unfold cDe;rw [if_pos c1];rfl
    · simp only [decide_eq_false_iff_not] at c1
      repeat' (first|with_reducible (first|apply pN|apply cN|apply bN|apply cE|apply cR|apply bR|apply lE|apply lR|apply jE|apply jR)|refine bE rfl ?_|refine bP rfl ?_|refine pD ?_|refine seqI rfl ?_|refine regI rfl ?_|refine scopeI rfl ?_|refine blockI rfl ?_|refine exitI rfl ?_|refine retI rfl ?_|refine skipI rfl ?_)
      refine meetI () rfl trivial ?_
      repeat' (first|exact trivial|exact rfl|refine ⟨rfl,?_⟩|refine And.intro ?_ ?_)
      unfold cDe;rw [if_neg c1]
  · repeat' (first|with_reducible (first|apply pN|apply cN|apply bN|apply cE|apply cR|apply bR|apply lE|apply lR|apply jE|apply jR)|refine bE rfl ?_|refine bP rfl ?_|refine pD ?_|refine seqI rfl ?_|refine regI rfl ?_|refine scopeI rfl ?_|refine blockI rfl ?_|refine exitI rfl ?_|refine retI rfl ?_|refine skipI rfl ?_)
    refine loopI (σ:=Nat) (fun i=>[(10,.int .i64 i)]) (fun i=>[(9,.box [.own 3000,.own 3100,.int .i64 (cDe a b y),.int .i64 (-1),.int .i64 0]),(3000,.seq tInt (cDu xs y i)),(3100,.seq tInt (cMo a b y i))]) (fun i=>i≤xs.length) (fun i=>xs.length - i) 0 rfl (fun _=>rfl) rfl ?_ ?_ ?_
    · exact Nat.zero_le _
    · repeat' (first|exact trivial|exact rfl|refine ⟨rfl,?_⟩|refine And.intro ?_ ?_)
    · intro i hi
      have hdl:=cDu_len (xs:=xs) (y:=y) i
      have hml:=cMo_len (a:=a) (b:=b) (y:=y) i
      repeat' (first|with_reducible (first|apply pN|apply cN|apply bN|apply cE|apply cR|apply bR|apply lE|apply lR|apply jE|apply jR)|refine bE rfl ?_|refine bP rfl ?_|refine pD ?_|refine seqI rfl ?_|refine regI rfl ?_|refine scopeI rfl ?_|refine blockI rfl ?_|refine exitI rfl ?_|refine retI rfl ?_|refine skipI rfl ?_)
      refine condI rfl (fun c2=>?_) (fun c2=>?_)
      · simp only [decide_eq_true_eq] at c2
        have hs:=F.st i (by omega)
        unfold StOk at hs
        repeat' (first|with_reducible (first|apply pN|apply cN|apply bN|apply cE|apply cR|apply bR|apply lE|apply lR|apply jE|apply jR)|refine bE rfl ?_|refine bP rfl ?_|refine pD ?_|refine seqI rfl ?_|refine regI rfl ?_|refine scopeI rfl ?_|refine blockI rfl ?_|refine exitI rfl ?_|refine retI rfl ?_|refine skipI rfl ?_)
        refine joinC (fun _:Unit=>[]) (fun _=>[(11,.box [.int .i64 (two y i).1,.int .i64 (two y i).2])]) (fun _=>True) (fun _=>rfl) ?_ (fun _ _=>?_)
        · refine condI rfl (fun c3=>?_) (fun c3=>?_)
          · simp only [decide_eq_true_eq] at c3
            repeat' (first|with_reducible (first|apply pN|apply cN|apply bN|apply cE|apply cR|apply bR|apply lE|apply lR|apply jE|apply jR)|refine bE rfl ?_|refine bP rfl ?_|refine pD ?_|refine seqI rfl ?_|refine regI rfl ?_|refine scopeI rfl ?_|refine blockI rfl ?_|refine exitI rfl ?_|refine retI rfl ?_|refine skipI rfl ?_)
            refine meetI () rfl trivial ?_
            repeat' (first|exact trivial|exact rfl|refine ⟨rfl,?_⟩|refine And.intro ?_ ?_)
            all_goals (unfold two;rw [if_pos c3];rfl)
          · simp only [decide_eq_false_iff_not] at c3
            repeat' (first|with_reducible (first|apply pN|apply cN|apply bN|apply cE|apply cR|apply bR|apply lE|apply lR|apply jE|apply jR)|refine bE rfl ?_|refine bP rfl ?_|refine pD ?_|refine seqI rfl ?_|refine regI rfl ?_|refine scopeI rfl ?_|refine blockI rfl ?_|refine exitI rfl ?_|refine retI rfl ?_|refine skipI rfl ?_)
            refine meetI () rfl trivial ?_
            repeat' (first|exact trivial|exact rfl|refine ⟨rfl,?_⟩|refine And.intro ?_ ?_)
            all_goals (unfold two;rw [if_neg c3])
        · have p1:=@pick_b (two y i).1 ((stg xs i).2.1 - (stg xs i).1+1) (by unfold stg;omega)
          have p2:=@pick_b (two y i).2 (b - a+1) (by omega)
          unfold stg at p1
          repeat' (first|with_reducible (first|apply pN|apply cN|apply bN|apply cE|apply cR|apply bR|apply lE|apply lR|apply jE|apply jR)|refine bE rfl ?_|refine bP rfl ?_|refine pD ?_|refine pC (by (simp only [Int.toNat_natCast,List.length_cons,List.length_nil];omega)) ?_|refine seqI rfl ?_|refine regI rfl ?_|refine scopeI rfl ?_|refine blockI rfl ?_|refine exitI rfl ?_|refine retI rfl ?_|refine skipI rfl ?_)
          refine roundI (i+1) rfl ?_ ?_ ?_
          · omega
          · show xs.length - (i+1) < xs.length - i;omega
          · repeat' (first|exact trivial|exact rfl|refine ⟨rfl,?_⟩|refine And.intro ?_ ?_)
      · simp only [decide_eq_false_iff_not] at c2
        obtain rfl:i=xs.length:=by omega
        repeat' (first|with_reducible (first|apply pN|apply cN|apply bN|apply cE|apply cR|apply bR|apply lE|apply lR|apply jE|apply jR)|refine bE rfl ?_|refine bP rfl ?_|refine pD ?_|refine seqI rfl ?_|refine regI rfl ?_|refine scopeI rfl ?_|refine blockI rfl ?_|refine exitI rfl ?_|refine retI rfl ?_|refine skipI rfl ?_)
        have hix:=@pick_b (tool.tdiv 4) (xs.length:Int) (by omega)
        have hsl:=F.st (xs.length - 1) (by omega)
        have hsi:=F.st (pickF (tool.tdiv 4) xs.length).toNat (by omega)
        have e1:((xs.length:Int) - 1).toNat=xs.length - 1:=by omega
        unfold StOk at hsl hsi
        refine condI rfl (fun c4=>?_) (fun c4=>?_)
        · simp only [decide_eq_true_eq] at c4
          have p3:=@pick_b at' ((getI xs tStage.dflt (xs.length - 1)).2.2.2.2+50) (by omega)
          repeat' (first|with_reducible (first|apply pN|apply cN|apply bN|apply cE|apply cR|apply bR|apply lE|apply lR|apply jE|apply jR)|refine bE rfl ?_|refine bP rfl ?_|refine pD ?_|refine pC (by (simp only [e1];omega)) ?_|refine seqI rfl ?_|refine regI rfl ?_|refine scopeI rfl ?_|refine blockI rfl ?_|refine exitI rfl ?_|refine retI rfl ?_|refine skipI rfl ?_)
          refine condI rfl (fun c5=>?_) (fun c5=>?_)
          · simp only [decide_eq_true_eq] at c5
            have p4:=@pick_b (at'.tdiv 3) 50 (by decide)
            repeat' (first|with_reducible (first|apply pN|apply cN|apply bN|apply cE|apply cR|apply bR|apply lE|apply lR|apply jE|apply jR)|refine bE rfl ?_|refine bP rfl ?_|refine pD ?_|refine seqI rfl ?_|refine regI rfl ?_|refine scopeI rfl ?_|refine blockI rfl ?_|refine exitI rfl ?_|refine retI rfl ?_|refine skipI rfl ?_)
            refine endR rfl ?_
            repeat' (first|exact trivial|exact rfl|refine ⟨rfl,?_⟩|refine And.intro ?_ ?_)
            · unfold cTl;rw [if_pos c4];rfl
            · unfold cFa;rw [if_pos c4,if_pos c5];rfl
          · simp only [decide_eq_false_iff_not] at c5
            repeat' (first|with_reducible (first|apply pN|apply cN|apply bN|apply cE|apply cR|apply bR|apply lE|apply lR|apply jE|apply jR)|refine bE rfl ?_|refine bP rfl ?_|refine pD ?_|refine seqI rfl ?_|refine regI rfl ?_|refine scopeI rfl ?_|refine blockI rfl ?_|refine exitI rfl ?_|refine retI rfl ?_|refine skipI rfl ?_)
            refine endR rfl ?_
            repeat' (first|exact trivial|exact rfl|refine ⟨rfl,?_⟩|refine And.intro ?_ ?_)
            · unfold cTl;rw [if_pos c4];rfl
            · unfold cFa;rw [if_pos c4,if_neg c5];rfl
        · simp only [decide_eq_false_iff_not] at c4
          repeat' (first|with_reducible (first|apply pN|apply cN|apply bN|apply cE|apply cR|apply bR|apply lE|apply lR|apply jE|apply jR)|refine bE rfl ?_|refine bP rfl ?_|refine pD ?_|refine seqI rfl ?_|refine regI rfl ?_|refine scopeI rfl ?_|refine blockI rfl ?_|refine exitI rfl ?_|refine retI rfl ?_|refine skipI rfl ?_)
          refine endR rfl ?_
          repeat' (first|exact trivial|exact rfl|refine ⟨rfl,?_⟩|refine And.intro ?_ ?_)
          · unfold cTl;rw [if_neg c4]
          · unfold cFa;rw [if_neg c4]
end Go.AM.YtkgmmmhokgdcaaaGreat.Pl
