/- WkChosen, WkRun. -/
import Derived.Test.YtkgmmmhokgdcaaaGreatPc35

section
set_option linter.all false
namespace Go.AM.YtkgmmmhokgdcaaaGreat.Pl
open Go.Proofs
set_option maxRecDepth 100000
set_option maxHeartbeats 8000000
abbrev Two:=Int × Int
def two (y:List Two) (i:Nat):Two:=if (i:Int) < y.length then getI y tTwo.dflt i else (0,0)
def stg (xs:List StT) (i:Nat):StT:=getI xs tStage.dflt i
def cDe (a b:Int) (y:List Two):Int:=if 0 < (y.length:Int) then a+pickF ((getI y tTwo.dflt 0).1.tdiv 7) (b - a+1) else a
def cDu (xs:List StT) (y:List Two):Nat→List Int
 | 0=>[]
 | i+1=>cDu xs y i++[(stg xs i).1+pickF (two y i).1 ((stg xs i).2.1 - (stg xs i).1+1)]
def cMo (a b:Int) (y:List Two):Nat→List Int
 | 0=>[]
 | i+1=>cMo a b y i++[a+pickF (two y i).2 (b - a+1)]
def cIx (xs:List StT) (tool:Int):Int:=pickF (tool.tdiv 4) xs.length
def cTl (xs:List StT) (tool:Int):Int:=if 0 < pickF tool 4 then (stg xs (cIx xs tool).toNat).2.2.1.1 else -1
def cFa (xs:List StT) (tool at':Int):Int :=
 if 0 < pickF tool 4 then (if 0 < pickF at' 3 then max 0 ((stg xs (cIx xs tool).toNat).2.2.1.2 - 20+pickF (at'.tdiv 3) 50) else pickF at' ((stg xs ((xs.length:Int) - 1).toNat).2.2.2.2+50)) else 0
def chosenS:Spec:=plain fun
 | [.agg [.int .i64 e,.int .i64 a,.int .i64 b,.sl (.pair (.int .i64) (.pair (.int .i64) (.pair (.pair (.int .i64) (.int .i64)) (.pair (.int .i64) (.int .i64))))) xs,.sl (.pair (.int .i64) (.pair (.int .i64) (.int .i64))) ws],.sl (.pair (.int .i64) (.int .i64)) y,.int .i64 tool,.int .i64 at'] =>
   some ⟨validF e a b xs ws=true,.agg [.own 0,.own 1,.int .i64 (cDe a b y),.int .i64 (cTl xs tool),.int .i64 (cFa xs tool at')],[.seq tInt (cDu xs y xs.length),.seq tInt (cMo a b y xs.length)],false⟩
 | _=>none
theorem cDu_len {xs:List StT} {y:List Two}:∀ i:Nat,(cDu xs y i).length=i
 | 0=>rfl
 | i+1=>by simp [cDu,cDu_len i]
theorem cMo_len {a b:Int} {y:List Two}:∀ i:Nat,(cMo a b y i).length=i
 | 0=>rfl
 | i+1=>by simp [cMo,cMo_len i]
theorem chosenOk:SpecSound Tryz.prog 13 chosenS:=by
 refine soundP (envOf sigPickOk) Tryz.func13 (c:=body Tryz.f13) rfl (by kernel_rfl) rfl ?_
 intro args out hf hpre
 split at hf <;> try (cases hf;done)
 rename_i e a b xs ws y tool at'
 cases hf
 refine ⟨Nat.le_of_ble_eq_true rfl,initI (args:=[.agg [.int .i64 e,.int .i64 a,.int .i64 b,.sl tStage xs,.sl tWin ws],.sl tTwo y,.int .i64 tool,.int .i64 at']) rfl ?_⟩
 have F:=valid_facts (show validF e a b xs ws=true from hpre)
 have hn:=F.n
 have hab:=F.ab
 repeat' (first|refine zN ?_|refine zE ?_|refine zP ?_|refine pD ?_|refine zS ?_|refine zR ?_|refine zO ?_|refine zB ?_|refine zX ?_|refine zT ?_|refine skipI rfl ?_)
 refine joinC (fun _:Unit=>[]) (fun _=>[(9,.box [.nilsl,.nilsl,.int .i64 (cDe a b y),.int .i64 (-1),.int .i64 0])]) (fun _=>True) (fun _=>rfl) ?_ (fun _ _=>?_)
 ·have hp:=fun c=>@pick_b c (b - a+1) (by omega)
  refine condI rfl (fun c1=>?_) (fun c1=>?_)
  ·simp only [decide_eq_true_eq] at c1
   have:=hp ((getI y tTwo.dflt 0).1.tdiv 7)
   repeat' (first|refine zN ?_|refine zE ?_|refine zP ?_|refine pD ?_|refine pC (by (simp only [Int.toNat_zero];omega)) ?_|refine zS ?_|refine zR ?_|refine zO ?_|refine zB ?_|refine zX ?_|refine zT ?_|refine skipI rfl ?_)
   refine meetI () rfl trivial ?_
   repeat' (first|exact trivial|exact rfl|refine ⟨rfl,?_⟩|refine And.intro ?_ ?_)
   unfold cDe;rw [if_pos c1];rfl
  ·simp only [decide_eq_false_iff_not] at c1
   repeat' (first|refine zN ?_|refine zE ?_|refine zP ?_|refine pD ?_|refine zS ?_|refine zR ?_|refine zO ?_|refine zB ?_|refine zX ?_|refine zT ?_|refine skipI rfl ?_)
   refine meetI () rfl trivial ?_
   repeat' (first|exact trivial|exact rfl|refine ⟨rfl,?_⟩|refine And.intro ?_ ?_)
   unfold cDe;rw [if_neg c1]
 ·repeat' (first|refine zN ?_|refine zE ?_|refine zP ?_|refine pD ?_|refine zS ?_|refine zR ?_|refine zO ?_|refine zB ?_|refine zX ?_|refine zT ?_|refine skipI rfl ?_)
  refine loopI (σ:=Nat) (fun i=>[(10,.int .i64 i)]) (fun i=>[(9,.box [.own 3000,.own 3100,.int .i64 (cDe a b y),.int .i64 (-1),.int .i64 0]),(3000,.seq tInt (cDu xs y i)),(3100,.seq tInt (cMo a b y i))]) (fun i=>i≤xs.length) (fun i=>xs.length - i) 0 rfl (fun _=>rfl) rfl ?_ ?_ ?_
  ·exact Nat.zero_le _
  ·repeat' (first|exact trivial|exact rfl|refine ⟨rfl,?_⟩|refine And.intro ?_ ?_)
  ·intro i hi
   have hdl:=cDu_len (xs:=xs) (y:=y) i
   have hml:=cMo_len (a:=a) (b:=b) (y:=y) i
   repeat' (first|refine zN ?_|refine zE ?_|refine zP ?_|refine pD ?_|refine zS ?_|refine zR ?_|refine zO ?_|refine zB ?_|refine zX ?_|refine zT ?_|refine skipI rfl ?_)
   refine condI rfl (fun c2=>?_) (fun c2=>?_)
   ·simp only [decide_eq_true_eq] at c2
    have hs:=F.st i (by omega)
    unfold StOk at hs
    repeat' (first|refine zN ?_|refine zE ?_|refine zP ?_|refine pD ?_|refine zS ?_|refine zR ?_|refine zO ?_|refine zB ?_|refine zX ?_|refine zT ?_|refine skipI rfl ?_)
    refine joinC (fun _:Unit=>[]) (fun _=>[(11,.box [.int .i64 (two y i).1,.int .i64 (two y i).2])]) (fun _=>True) (fun _=>rfl) ?_ (fun _ _=>?_)
    ·refine condI rfl (fun c3=>?_) (fun c3=>?_)
     ·simp only [decide_eq_true_eq] at c3
      repeat' (first|refine zN ?_|refine zE ?_|refine zP ?_|refine pD ?_|refine zS ?_|refine zR ?_|refine zO ?_|refine zB ?_|refine zX ?_|refine zT ?_|refine skipI rfl ?_)
      refine meetI () rfl trivial ?_
      repeat' (first|exact trivial|exact rfl|refine ⟨rfl,?_⟩|refine And.intro ?_ ?_)
      all_goals (unfold two;rw [if_pos c3];rfl)
     ·simp only [decide_eq_false_iff_not] at c3
      repeat' (first|refine zN ?_|refine zE ?_|refine zP ?_|refine pD ?_|refine zS ?_|refine zR ?_|refine zO ?_|refine zB ?_|refine zX ?_|refine zT ?_|refine skipI rfl ?_)
      refine meetI () rfl trivial ?_
      repeat' (first|exact trivial|exact rfl|refine ⟨rfl,?_⟩|refine And.intro ?_ ?_)
      all_goals (unfold two;rw [if_neg c3])
    ·have p1:=@pick_b (two y i).1 ((stg xs i).2.1 - (stg xs i).1+1) (by unfold stg;omega)
     have p2:=@pick_b (two y i).2 (b - a+1) (by omega)
     unfold stg at p1
     repeat' (first|refine zN ?_|refine zE ?_|refine zP ?_|refine pD ?_|refine pC (by (simp only [Int.toNat_natCast,List.length_cons,List.length_nil];omega)) ?_|refine zS ?_|refine zR ?_|refine zO ?_|refine zB ?_|refine zX ?_|refine zT ?_|refine skipI rfl ?_)
     refine roundI (i+1) rfl ?_ ?_ ?_
     ·omega
     ·show xs.length - (i+1) < xs.length - i;omega
     ·repeat' (first|exact trivial|exact rfl|refine ⟨rfl,?_⟩|refine And.intro ?_ ?_)
   ·simp only [decide_eq_false_iff_not] at c2
    obtain rfl:i=xs.length:=by omega
    repeat' (first|refine zN ?_|refine zE ?_|refine zP ?_|refine pD ?_|refine zS ?_|refine zR ?_|refine zO ?_|refine zB ?_|refine zX ?_|refine zT ?_|refine skipI rfl ?_)
    have hix:=@pick_b (tool.tdiv 4) (xs.length:Int) (by omega)
    have hsl:=F.st (xs.length - 1) (by omega)
    have hsi:=F.st (pickF (tool.tdiv 4) xs.length).toNat (by omega)
    have e1:((xs.length:Int) - 1).toNat=xs.length - 1:=by omega
    unfold StOk at hsl hsi
    refine condI rfl (fun c4=>?_) (fun c4=>?_)
    ·simp only [decide_eq_true_eq] at c4
     have p3:=@pick_b at' ((getI xs tStage.dflt (xs.length - 1)).2.2.2.2+50) (by omega)
     repeat' (first|refine zN ?_|refine zE ?_|refine zP ?_|refine pD ?_|refine pC (by (simp only [e1];omega)) ?_|refine zS ?_|refine zR ?_|refine zO ?_|refine zB ?_|refine zX ?_|refine zT ?_|refine skipI rfl ?_)
     refine condI rfl (fun c5=>?_) (fun c5=>?_)
     ·simp only [decide_eq_true_eq] at c5
      have p4:=@pick_b (at'.tdiv 3) 50 (by decide)
      repeat' (first|refine zN ?_|refine zE ?_|refine zP ?_|refine pD ?_|refine zS ?_|refine zR ?_|refine zO ?_|refine zB ?_|refine zX ?_|refine zT ?_|refine skipI rfl ?_)
      refine endR rfl ?_
      repeat' (first|exact trivial|exact rfl|refine ⟨rfl,?_⟩|refine And.intro ?_ ?_)
      ·unfold cTl;rw [if_pos c4];rfl
      ·unfold cFa;rw [if_pos c4,if_pos c5];rfl
     ·simp only [decide_eq_false_iff_not] at c5
      repeat' (first|refine zN ?_|refine zE ?_|refine zP ?_|refine pD ?_|refine zS ?_|refine zR ?_|refine zO ?_|refine zB ?_|refine zX ?_|refine zT ?_|refine skipI rfl ?_)
      refine endR rfl ?_
      repeat' (first|exact trivial|exact rfl|refine ⟨rfl,?_⟩|refine And.intro ?_ ?_)
      ·unfold cTl;rw [if_pos c4];rfl
      ·unfold cFa;rw [if_pos c4,if_neg c5];rfl
    ·simp only [decide_eq_false_iff_not] at c4
     repeat' (first|refine zN ?_|refine zE ?_|refine zP ?_|refine pD ?_|refine zS ?_|refine zR ?_|refine zO ?_|refine zB ?_|refine zX ?_|refine zT ?_|refine skipI rfl ?_)
     refine endR rfl ?_
     repeat' (first|exact trivial|exact rfl|refine ⟨rfl,?_⟩|refine And.intro ?_ ?_)
     ·unfold cTl;rw [if_neg c4]
     ·unfold cFa;rw [if_neg c4]
end Go.AM.YtkgmmmhokgdcaaaGreat.Pl
end

section
set_option linter.all false
namespace Go.AM.YtkgmmmhokgdcaaaGreat.Pl
open Go.Proofs
theorem cDu_at {xs:List StT} {y:List Two} {i:Nat}:∀ {n:Nat},i < n→getI (cDu xs y n) 0 i=(stg xs i).1+pickF (two y i).1 ((stg xs i).2.1 - (stg xs i).1+1)
 | 0,h=>by omega
 | n+1,h=>by
   by_cases hi:i < n
   ·rw [cDu,getI_append_lt (by rw [cDu_len];exact hi),cDu_at hi]
   ·obtain rfl:i=n:=by omega
    have:=@getI_append_eq Int (cDu xs y i) ((stg xs i).1+pickF (two y i).1 ((stg xs i).2.1 - (stg xs i).1+1)) 0
    rwa [cDu_len] at this
theorem cMo_at {a b:Int} {y:List Two} {i:Nat}:∀ {n:Nat},i < n→getI (cMo a b y n) 0 i=a+pickF (two y i).2 (b - a+1)
 | 0,h=>by omega
 | n+1,h=>by
   by_cases hi:i < n
   ·rw [cMo,getI_append_lt (by rw [cMo_len];exact hi),cMo_at hi]
   ·obtain rfl:i=n:=by omega
    have:=@getI_append_eq Int (cMo a b y i) (a+pickF (two y i).2 (b - a+1)) 0
    rwa [cMo_len] at this
theorem fault_b {e a b:Int} {xs:List StT} {ws:List WiT} (F:Facts e a b xs ws) (tool at':Int) :
 (cTl xs tool=-1∧cFa xs tool at'=0)∨(0≤cTl xs tool∧cTl xs tool≤59∧0≤cFa xs tool at'∧cFa xs tool at'≤1000000+50):=by
 have hn:=F.n
 have hix:=@pick_b (tool.tdiv 4) (xs.length:Int) (by omega)
 have hs:=F.st (cIx xs tool).toNat (by unfold cIx;omega)
 have hl:=F.st ((xs.length:Int) - 1).toNat (by omega)
 unfold StOk at hs hl
 have p3:=@pick_b at' ((getI xs tStage.dflt ((xs.length:Int) - 1).toNat).2.2.2.2+50) (by omega)
 have p4:=@pick_b (at'.tdiv 3) 50 (by decide)
 unfold cTl cFa stg
 by_cases h:0 < pickF tool 4
 ·rw [if_pos h,if_pos h]
  split <;> omega
 ·rw [if_neg h,if_neg h]
  exact .inl ⟨rfl,rfl⟩
theorem poss_of {e a b:Int} {xs:List StT} {ws:List WiT} {du mo:List Int} {de tl fa:Int} (hv:validF e a b xs ws=true) (h1:du.length=xs.length) (h2:mo.length=xs.length) (h3:a≤de∧de≤b)
 (h4:∀ i,i < xs.length→AtOk (getI xs tStage.dflt i).1 (getI xs tStage.dflt i).2.1 a b (getI du 0 i) (getI mo 0 i)) (h5:(tl=-1∧fa=0)∨(0≤tl∧tl≤59∧0≤fa∧fa≤1000000)):possF e a b xs ws du mo de tl fa=true:=by
 unfold possF
 rw [hv]
 simp only [Bool.true_and,Bool.and_eq_true,Bool.or_eq_true,within_iff,decide_eq_true_eq,List.all_eq_true,List.mem_range]
 refine ⟨⟨⟨⟨h1,h2⟩,h3⟩,fun i hi=>?_⟩,?_⟩
 ·have:=h4 i hi
  unfold AtOk at this
  simpa only [fitsAt,Bool.and_eq_true,within_iff] using this
 ·rcases h5 with h|h
  ·exact .inl h
  ·exact .inr ⟨⟨h.1,h.2.1⟩,h.2.2.1,h.2.2.2⟩
theorem chosen_at {e a b:Int} {xs:List StT} {ws:List WiT} (F:Facts e a b xs ws) (y:List Two):∀ i,i < xs.length→AtOk (getI xs tStage.dflt i).1 (getI xs tStage.dflt i).2.1 a b (getI (cDu xs y xs.length) 0 i) (getI (cMo a b y xs.length) 0 i):=fun i hi=>by
 rw [cDu_at hi,cMo_at hi]
 have hs:=F.st i hi
 have hab:=F.ab
 unfold StOk at hs
 have p1:=@pick_b (two y i).1 ((stg xs i).2.1 - (stg xs i).1+1) (by unfold stg;omega)
 have p2:=@pick_b (two y i).2 (b - a+1) (by omega)
 unfold stg at p1 ⊢
 unfold AtOk
 omega
theorem cDe_b {e a b:Int} {xs:List StT} {ws:List WiT} (F:Facts e a b xs ws) (y:List Two):a≤cDe a b y∧cDe a b y≤b:=by
 have hab:=F.ab
 have:=@pick_b ((getI y tTwo.dflt 0).1.tdiv 7) (b - a+1) (by omega)
 unfold cDe
 split <;> omega
theorem chosen_poss {e a b:Int} {xs:List StT} {ws:List WiT} (hv:validF e a b xs ws=true) (hlate:(getI xs tStage.dflt ((xs.length:Int) - 1).toNat).2.2.2.2+50≤1000000∧∀ i,i < xs.length→(getI xs tStage.dflt i).2.2.1.2+50≤1000000) (y:List Two) (tool at':Int) :
 possF e a b xs ws (cDu xs y xs.length) (cMo a b y xs.length) (cDe a b y) (cTl xs tool) (cFa xs tool at')=true:=by
 have F:=valid_facts hv
 refine poss_of hv (cDu_len _) (cMo_len _) (cDe_b F y) (chosen_at F y) ?_
 rcases fault_b F tool at' with h|h
 ·exact .inl h
 ·refine .inr ⟨h.1,h.2.1,h.2.2.1,?_⟩
  have hn:=F.n
  have hix:=@pick_b (tool.tdiv 4) (xs.length:Int) (by omega)
  have h1:=hlate.1
  have h2:=hlate.2 (cIx xs tool).toNat (by unfold cIx;omega)
  have hl:=F.st ((xs.length:Int) - 1).toNat (by omega)
  unfold StOk at hl
  have p3:=@pick_b at' ((getI xs tStage.dflt ((xs.length:Int) - 1).toNat).2.2.2.2+50) (by omega)
  have p4:=@pick_b (at'.tdiv 3) 50 (by decide)
  unfold cFa stg
  split
  ·split <;> omega
  ·omega
abbrev ViT:=Int × Int × Int × Int
def vis (out:List ViT) (j:Nat):ViT:=getI out tVisit.dflt j
def prevE (e:Int) (out:List ViT):Nat→Int
 | 0=>e
 | j+1=>(vis out j).2.2.2
def VisR (xs:List StT) (du mo:List Int) (de tl fa e:Int) (out:List ViT) (j:Nat):Prop :=
 reachedAt xs du mo de tl fa j (prevE e out j)=(((vis out j).2.1,(vis out j).2.2.1),true)∧(vis out j).1=(j:Int)∧(vis out j).2.2.2=(vis out j).2.2.1+getI du 0 j
def wFr (ws:List WiT) (k:Nat):Int:=(getI ws tWin.dflt k).1
def wTo (ws:List WiT) (k:Nat):Int:=(getI ws tWin.dflt k).2.1
def wLi (ws:List WiT) (k:Nat):Int:=(getI ws tWin.dflt k).2.2
def LateAt (ws:List WiT) (out:List ViT) (k:Nat):Prop:=wLi ws k < (vis out (wTo ws k).toNat).2.2.1 - (vis out (wFr ws k).toNat).2.2.2
structure RunR (xs:List StT) (ws:List WiT) (du mo:List Int) (de tl fa e:Int) (r:List ViT) (kind num:Int):Prop where
 len:r.length≤xs.length
 vis:∀ j,j < r.length→VisR xs du mo de tl fa e r j
 kept:∀ k,k < ws.length→wTo ws k < r.length→LateAt ws r k→kind=2∧wTo ws k+1=r.length∧num≤k
 ends:(kind=0∧num=0∧r.length=xs.length)∨(kind=1∧num=r.length∧r.length < xs.length∧(reachedAt xs du mo de tl fa r.length (prevE e r r.length)).2=false) ∨
  (kind=2∧0≤num∧num < ws.length∧wTo ws num.toNat+1=r.length∧LateAt ws r num.toNat)
def sSt (xs:List StT) (j:Nat):Int:=(getI xs tStage.dflt j).2.2.2.1
end Go.AM.YtkgmmmhokgdcaaaGreat.Pl
end
