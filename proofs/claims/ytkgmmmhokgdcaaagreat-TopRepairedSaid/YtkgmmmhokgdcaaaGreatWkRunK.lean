/- What Chosen returns is possible; what Run's result says. -/
import Derived.Test.YtkgmmmhokgdcaaaGreatWkChosenK
set_option linter.all false
namespace Go.AM.YtkgmmmhokgdcaaaGreat.Pl
open Go.Proofs
theorem cDu_at {xs:List StT} {y:List Two} {i:Nat}:∀ {n:Nat},i < n→getI (cDu xs y n) 0 i=(stg xs i).1+pickF (two y i).1 ((stg xs i).2.1 - (stg xs i).1+1)
  | 0,h=>by omega
  | n+1,h=>by
    by_cases hi:i < n
    · rw [cDu,getI_append_lt (by rw [cDu_len];exact hi),cDu_at hi]
    · obtain rfl:i=n:=by omega
      have:=@getI_append_eq Int (cDu xs y i) ((stg xs i).1+pickF (two y i).1 ((stg xs i).2.1 - (stg xs i).1+1)) 0
      rwa [cDu_len] at this
theorem cMo_at {a b:Int} {y:List Two} {i:Nat}:∀ {n:Nat},i < n→getI (cMo a b y n) 0 i=a+pickF (two y i).2 (b - a+1)
  | 0,h=>by omega
  | n+1,h=>by
    by_cases hi:i < n
    · rw [cMo,getI_append_lt (by rw [cMo_len];exact hi),cMo_at hi]
    · obtain rfl:i=n:=by omega
      have:=@getI_append_eq Int (cMo a b y i) (a+pickF (two y i).2 (b - a+1)) 0
      rwa [cMo_len] at this
theorem poss_of {e a b:Int} {xs:List StT} {ws:List WiT} {du mo:List Int} {de tl fa:Int} (hv:validF e a b xs ws=true) (h1:du.length=xs.length) (h2:mo.length=xs.length) (h3:a≤de∧de≤b)
    (h4:∀ i,i < xs.length→AtOk (getI xs tStage.dflt i).1 (getI xs tStage.dflt i).2.1 a b (getI du 0 i) (getI mo 0 i)) (h5:(tl=-1∧fa=0)∨(0≤tl∧tl≤59∧0≤fa∧fa≤1000000)):possF e a b xs ws du mo de tl fa=true:=by
  unfold possF
  rw [hv]
  simp only [Bool.true_and,Bool.and_eq_true,Bool.or_eq_true,within_iff,decide_eq_true_eq,List.all_eq_true,List.mem_range]
  refine ⟨⟨⟨⟨h1,h2⟩,h3⟩,fun i hi=>?_⟩,?_⟩
  · have:=h4 i hi
    unfold AtOk at this
    simpa only [fitsAt,Bool.and_eq_true,within_iff] using this
  · rcases h5 with h|h
    · exact .inl h
    · exact .inr ⟨⟨h.1,h.2.1⟩,h.2.2.1,h.2.2.2⟩
theorem chosen_at {e a b:Int} {xs:List StT} {ws:List WiT} (F:Facts e a b xs ws) (y:List Two):∀ i,i < xs.length→AtOk (getI xs tStage.dflt i).1 (getI xs tStage.dflt i).2.1 a b (getI (cDu xs y xs.length) 0 i) (getI (cMo a b y xs.length) 0 i):=fun i hi=>by
  rw [cDu_at hi,cMo_at hi]
  have hs:=F.st i hi
  have hab:=F.ab
  unfold StOk at hs
  have p1:=@pick_b (two y i).1 ((stg xs i).2.1 - (stg xs i).1+1) (by unfold stg;omega)
  have p2:=@pick_b (two y i).2 (b - a+1) (by omega)
  unfold stg at p1 ⊢
  unfold AtOk
  omega
theorem cDe_b {e a b:Int} {xs:List StT} {ws:List WiT} (F:Facts e a b xs ws) (y:List Two):a≤cDe a b y∧cDe a b y≤b:=by
  have hab:=F.ab
  have:=@pick_b ((getI y tTwo.dflt 0).1.tdiv 7) (b - a+1) (by omega)
  unfold cDe
  split <;> omega
abbrev ViT:=Int × Int × Int × Int
def vis (out:List ViT) (j:Nat):ViT:=getI out tVisit.dflt j
def prevE (e:Int) (out:List ViT):Nat→Int
  | 0=>e
  | j+1=>(vis out j).2.2.2
def VisR (xs:List StT) (du mo:List Int) (de tl fa e:Int) (out:List ViT) (j:Nat):Prop :=
  reachedAt xs du mo de tl fa j (prevE e out j)=(((vis out j).2.1,(vis out j).2.2.1),true)∧(vis out j).1=(j:Int)∧(vis out j).2.2.2=(vis out j).2.2.1+getI du 0 j
def wFr (ws:List WiT) (k:Nat):Int:=(getI ws tWin.dflt k).1
def wTo (ws:List WiT) (k:Nat):Int:=(getI ws tWin.dflt k).2.1
def wLi (ws:List WiT) (k:Nat):Int:=(getI ws tWin.dflt k).2.2
def LateAt (ws:List WiT) (out:List ViT) (k:Nat):Prop:=wLi ws k < (vis out (wTo ws k).toNat).2.2.1 - (vis out (wFr ws k).toNat).2.2.2
structure RunR (xs:List StT) (ws:List WiT) (du mo:List Int) (de tl fa e:Int) (r:List ViT) (kind num:Int):Prop where
  len:r.length≤xs.length
  vis:∀ j,j < r.length→VisR xs du mo de tl fa e r j
  kept:∀ k,k < ws.length→wTo ws k < r.length→LateAt ws r k→kind=2∧wTo ws k+1=r.length∧num≤k
  ends:(kind=0∧num=0∧r.length=xs.length)∨(kind=1∧num=r.length∧r.length < xs.length∧(reachedAt xs du mo de tl fa r.length (prevE e r r.length)).2=false) ∨
    (kind=2∧0≤num∧num < ws.length∧wTo ws num.toNat+1=r.length∧LateAt ws r num.toNat)
def sSt (xs:List StT) (j:Nat):Int:=(getI xs tStage.dflt j).2.2.2.1
end Go.AM.YtkgmmmhokgdcaaaGreat.Pl
