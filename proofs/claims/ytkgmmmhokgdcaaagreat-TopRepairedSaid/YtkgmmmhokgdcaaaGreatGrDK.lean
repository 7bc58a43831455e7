/- Package graph: the quickest ways. -/
import Derived.Test.YtkgmmmhokgdcaaaGreatGrCK
set_option linter.all false
namespace Go.AM.YtkgmmmhokgdcaaaGreat.Fl
open Go.Proofs
set_option maxRecDepth 100000
set_option maxHeartbeats 4000000
def w0:WayT:=tWay.dflt
def addStep (w:WayT) (out:List (Option WayT)) (n:Int):List (Option WayT) :=
  bif (getI out none n.toNat).isNone||decide (ordF w ((getI out none n.toNat).getD w0) < 0) then out.set n.toNat (some w) else out
def addW (out:List (Option WayT)) (w:WayT) (ns:List Int):List (Option WayT):=ns.foldl (addStep w) out
theorem addW_snoc {out:List (Option WayT)} {w:WayT} {p:List Int} {x:Int}:addW out w (p++[x])=addStep w (addW out w p) x:=by
  unfold addW;rw [List.foldl_append];rfl
theorem addStep_len {out:List (Option WayT)} {w:WayT} {n:Int}:(addStep w out n).length=out.length:=by
  unfold addStep
  cases (getI out none n.toNat).isNone||decide (ordF w ((getI out none n.toNat).getD w0) < 0) <;> simp
theorem addW_len {w:WayT}:∀ {p:List Int} {out:List (Option WayT)},(addW out w p).length=out.length
  | [],_=>rfl
  | n::p,out=>by
    show (addW (addStep w out n) w p).length=_
    rw [addW_len,addStep_len]
theorem cut_none {α:Type} {L:List α}:(cut (contOf (fun _:List α=>(none:Option AExit))) [] L).1=L:=by
  rw [cut_all (fun _ _ _ _=>rfl)];rfl
theorem some_of {α:Type} {y:Option α} (h:y.isNone=false):y.isSome=true:=by cases y <;> simp_all
def add1S:Spec:=⟨true,fun args rows=>match args,rows with
  | [.agg [.int .i64 t,.own 0],.agg [.int .i64 rc,.sl (.int .i64) tl,.int .i64 mn,.int .i64 mx,.sl (.int .i64) nx,.int .i64 bk,.int .i64 lm],.ptr 1 0,.ptr 2 0],[.seq (.int .i64) xs,.box [.own 3],.box [.fn 161 [] []],.seq (.opt (.pair (.int .i64) (.slice (.int .i64)))) out] =>
    some ⟨∀ n∈aftL bk nx,0≤n∧n < out.length,.tup [],[.dead,.box [.own 3],.box [.fn 161 [] []],.seq (.opt tWay) (addW out (t,xs) (aftL bk nx))],true⟩
  | [.agg [.int .i64 t,.nilsl],.agg [.int .i64 rc,.sl (.int .i64) tl,.int .i64 mn,.int .i64 mx,.sl (.int .i64) nx,.int .i64 bk,.int .i64 lm],.ptr 0 0,.ptr 1 0],[.box [.own 2],.box [.fn 161 [] []],.seq (.opt (.pair (.int .i64) (.slice (.int .i64)))) out] =>
    some ⟨∀ n∈aftL bk nx,0≤n∧n < out.length,.tup [],[.box [.own 2],.box [.fn 161 [] []],.seq (.opt tWay) (addW out (t,[]) (aftL bk nx))],true⟩
  | _,_=>none⟩
def sigAdd:List (Nat × Spec):=[(161,ordS),(163,aftS),(170,aft1S)]
theorem sigAddOk:SigOk Tryz.prog (look sigAdd):=sigCons (sigCons (sigCons sigNil
  Tryz.func170 (by kernel_rfl) (c:=body Tryz.f170) rfl aft1Ok)
  Tryz.func163 (by kernel_rfl) (c:=body Tryz.f163) rfl aftOk)
  Tryz.func161 (by kernel_rfl) (c:=body Tryz.f161) rfl ordOk
theorem add1Ok:SpecSound Tryz.prog 162 add1S:=by
  refine soundR (envOf sigAddOk) Tryz.func162 (c:=body Tryz.f162) rfl (by kernel_rfl) rfl ?_
  intro args rows out hf hpre
  split at hf <;> try (cases hf;done)
  · rename_i t rc tl mn mx nx bk lm xs out
    cases hf
    refine ⟨Nat.le_of_ble_eq_true rfl,initI (args:=[.agg [.int .i64 t,.own 0],.agg [.int .i64 rc,.sl tInt tl,.int .i64 mn,.int .i64 mx,.sl tInt nx,.int .i64 bk,.int .i64 lm],.ptr 1 0,.ptr 2 0]) (rows:=[.seq tInt xs,.box [.own 3],.box [.fn 161 [] []],.seq (.opt tWay) out]) rfl ?_⟩
    refine freezeI 100000 rfl ?_
    repeat' (first|with_reducible (first|apply pN|apply cN|apply bN|apply cE|apply cR|apply bR|apply lE|apply lR|apply jE|apply jR)|refine bE rfl ?_|refine bP rfl ?_|refine pD ?_|refine seqI rfl ?_|refine regI rfl ?_|refine scopeI rfl ?_|refine blockI rfl ?_|refine exitI rfl ?_|refine retI rfl ?_|refine skipI rfl ?_)
    refine rangeI (tInt) false (fun q=>[(100003,.seq (.opt tWay) (addW out (t,xs) q))]) (fun _=>none) (aftL bk nx) 8 rfl rfl rfl rfl rfl rfl rfl rfl rfl (fun _=>rfl) (fun _=>rfl) (fun _=>rfl) rfl rfl rfl ?_ ?_ ?_ ?_ ?_ ?_
    · exact ⟨rfl,rfl,rfl,by repeat' (first|exact trivial|exact rfl|refine And.intro ?_ ?_),by repeat' (first|exact trivial|exact rfl|refine And.intro ?_ ?_),rfl,rfl,rfl⟩
    · repeat' (first|exact trivial|exact rfl|refine ⟨rfl,?_⟩|refine And.intro ?_ ?_)
    · rfl
    · intro J
      exact ⟨_,_,rfl,fun h=>h,rfl,rfl⟩
    · intro l q x hq hjq hok
      refine ⟨_,rfl,?_⟩
      have hx:=hpre x (hq.subset (by simp))
      obtain ⟨o2,ho2⟩:∃ o2,o2=addW out (t,xs) q:=⟨_,rfl⟩
      have hlen:o2.length=out.length:=by rw [ho2,addW_len]
      rw [addW_snoc,← ho2]
      repeat' (first|with_reducible (first|apply pN|apply cN|apply bN|apply cE|apply cR|apply bR|apply lE|apply lR|apply jE|apply jR)|refine bE rfl ?_|refine bP rfl ?_|refine pD ?_|refine seqI rfl ?_|refine regI rfl ?_|refine scopeI rfl ?_|refine blockI rfl ?_|refine exitI rfl ?_|refine retI rfl ?_|refine skipI rfl ?_)
      refine asN ?_
      repeat' (first|with_reducible (first|apply pN|apply cN|apply bN|apply cE|apply cR|apply bR|apply lE|apply lR|apply jE|apply jR)|refine bE rfl ?_|refine bP rfl ?_|refine pD ?_|refine pC (by first|exact some_of|(intros;exact True.intro)|omega) ?_|refine seqI rfl ?_|refine regI rfl ?_|refine scopeI rfl ?_|refine blockI rfl ?_|refine exitI rfl ?_|refine retI rfl ?_|refine skipI rfl ?_)
      refine condI rfl (fun c3=>?_) (fun c3=>?_)
      · repeat' (first|with_reducible (first|apply pN|apply cN|apply bN|apply cE|apply cR|apply bR|apply lE|apply lR|apply jE|apply jR)|refine bE rfl ?_|refine bP rfl ?_|refine pD ?_|refine pC (by first|omega|(intros;omega)) ?_|refine seqI rfl ?_|refine regI rfl ?_|refine scopeI rfl ?_|refine blockI rfl ?_|refine exitI rfl ?_|refine retI rfl ?_|refine skipI rfl ?_)
        refine yN rfl rfl ?_
        unfold addStep
        repeat' (first|exact trivial|exact rfl|refine ⟨rfl,?_⟩|refine And.intro ?_ ?_)
        rw [show ((getI o2 none (Int.toNat x)).isNone||decide (ordF (t,xs) ((getI o2 none (Int.toNat x)).getD w0) < 0))=true from c3]
        rfl
      · repeat' (first|with_reducible (first|apply pN|apply cN|apply bN|apply cE|apply cR|apply bR|apply lE|apply lR|apply jE|apply jR)|refine bE rfl ?_|refine bP rfl ?_|refine pD ?_|refine seqI rfl ?_|refine regI rfl ?_|refine scopeI rfl ?_|refine blockI rfl ?_|refine exitI rfl ?_|refine retI rfl ?_|refine skipI rfl ?_)
        refine yN rfl rfl ?_
        unfold addStep
        repeat' (first|exact trivial|exact rfl|refine ⟨rfl,?_⟩|refine And.intro ?_ ?_)
        rw [show ((getI o2 none (Int.toNat x)).isNone||decide (ordF (t,xs) ((getI o2 none (Int.toNat x)).getD w0) < 0))=false from c3]
        rfl
    · rw [cut_none]
      repeat' (first|with_reducible (first|apply pN|apply cN|apply bN|apply cE|apply cR|apply bR|apply lE|apply lR|apply jE|apply jR)|refine bE rfl ?_|refine bP rfl ?_|refine pD ?_|refine seqI rfl ?_|refine regI rfl ?_|refine scopeI rfl ?_|refine blockI rfl ?_|refine exitI rfl ?_|refine retI rfl ?_|refine skipI rfl ?_)
      refine endN rfl ?_
      repeat' (first|exact trivial|with_reducible exact rfl|refine And.intro ?_ ?_)
  · rename_i t rc tl mn mx nx bk lm out
    cases hf
    refine ⟨Nat.le_of_ble_eq_true rfl,initI (args:=[.agg [.int .i64 t,.nilsl],.agg [.int .i64 rc,.sl tInt tl,.int .i64 mn,.int .i64 mx,.sl tInt nx,.int .i64 bk,.int .i64 lm],.ptr 0 0,.ptr 1 0]) (rows:=[.box [.own 2],.box [.fn 161 [] []],.seq (.opt tWay) out]) rfl ?_⟩
    refine tidyI [(0,.agg [.int .i64 t,.sl tInt []])] [] rfl rfl ?_ ?_
    · repeat' (first|exact trivial|exact rfl|refine ⟨rfl,?_⟩|refine And.intro ?_ ?_)
    repeat' (first|with_reducible (first|apply pN|apply cN|apply bN|apply cE|apply cR|apply bR|apply lE|apply lR|apply jE|apply jR)|refine bE rfl ?_|refine bP rfl ?_|refine pD ?_|refine seqI rfl ?_|refine regI rfl ?_|refine scopeI rfl ?_|refine blockI rfl ?_|refine exitI rfl ?_|refine retI rfl ?_|refine skipI rfl ?_)
    refine rangeI (tInt) false (fun q=>[(100002,.seq (.opt tWay) (addW out (t,[]) q))]) (fun _=>none) (aftL bk nx) 8 rfl rfl rfl rfl rfl rfl rfl rfl rfl (fun _=>rfl) (fun _=>rfl) (fun _=>rfl) rfl rfl rfl ?_ ?_ ?_ ?_ ?_ ?_
    · exact ⟨rfl,rfl,rfl,by repeat' (first|exact trivial|exact rfl|refine And.intro ?_ ?_),by repeat' (first|exact trivial|exact rfl|refine And.intro ?_ ?_),rfl,rfl,rfl⟩
    · repeat' (first|exact trivial|exact rfl|refine ⟨rfl,?_⟩|refine And.intro ?_ ?_)
    · rfl
    · intro J
      exact ⟨_,_,rfl,fun h=>h,rfl,rfl⟩
    · intro l q x hq hjq hok
      refine ⟨_,rfl,?_⟩
      have hx:=hpre x (hq.subset (by simp))
      obtain ⟨o2,ho2⟩:∃ o2,o2=addW out (t,[]) q:=⟨_,rfl⟩
      have hlen:o2.length=out.length:=by rw [ho2,addW_len]
      rw [addW_snoc,← ho2]
      repeat' (first|with_reducible (first|apply pN|apply cN|apply bN|apply cE|apply cR|apply bR|apply lE|apply lR|apply jE|apply jR)|refine bE rfl ?_|refine bP rfl ?_|refine pD ?_|refine seqI rfl ?_|refine regI rfl ?_|refine scopeI rfl ?_|refine blockI rfl ?_|refine exitI rfl ?_|refine retI rfl ?_|refine skipI rfl ?_)
      refine asN ?_
      repeat' (first|with_reducible (first|apply pN|apply cN|apply bN|apply cE|apply cR|apply bR|apply lE|apply lR|apply jE|apply jR)|refine bE rfl ?_|refine bP rfl ?_|refine pD ?_|refine pC (by first|exact some_of|(intros;exact True.intro)|omega) ?_|refine seqI rfl ?_|refine regI rfl ?_|refine scopeI rfl ?_|refine blockI rfl ?_|refine exitI rfl ?_|refine retI rfl ?_|refine skipI rfl ?_)
      refine condI rfl (fun c3=>?_) (fun c3=>?_)
      · repeat' (first|with_reducible (first|apply pN|apply cN|apply bN|apply cE|apply cR|apply bR|apply lE|apply lR|apply jE|apply jR)|refine bE rfl ?_|refine bP rfl ?_|refine pD ?_|refine pC (by first|omega|(intros;omega)) ?_|refine seqI rfl ?_|refine regI rfl ?_|refine scopeI rfl ?_|refine blockI rfl ?_|refine exitI rfl ?_|refine retI rfl ?_|refine skipI rfl ?_)
        refine yN rfl rfl ?_
        unfold addStep
        repeat' (first|exact trivial|exact rfl|refine ⟨rfl,?_⟩|refine And.intro ?_ ?_)
        rw [show ((getI o2 none (Int.toNat x)).isNone||decide (ordF (t,[]) ((getI o2 none (Int.toNat x)).getD w0) < 0))=true from c3]
        rfl
      · repeat' (first|with_reducible (first|apply pN|apply cN|apply bN|apply cE|apply cR|apply bR|apply lE|apply lR|apply jE|apply jR)|refine bE rfl ?_|refine bP rfl ?_|refine pD ?_|refine seqI rfl ?_|refine regI rfl ?_|refine scopeI rfl ?_|refine blockI rfl ?_|refine exitI rfl ?_|refine retI rfl ?_|refine skipI rfl ?_)
        refine yN rfl rfl ?_
        unfold addStep
        repeat' (first|exact trivial|exact rfl|refine ⟨rfl,?_⟩|refine And.intro ?_ ?_)
        rw [show ((getI o2 none (Int.toNat x)).isNone||decide (ordF (t,[]) ((getI o2 none (Int.toNat x)).getD w0) < 0))=false from c3]
        rfl
    · rw [cut_none]
      repeat' (first|with_reducible (first|apply pN|apply cN|apply bN|apply cE|apply cR|apply bR|apply lE|apply lR|apply jE|apply jR)|refine bE rfl ?_|refine bP rfl ?_|refine pD ?_|refine seqI rfl ?_|refine regI rfl ?_|refine scopeI rfl ?_|refine blockI rfl ?_|refine exitI rfl ?_|refine retI rfl ?_|refine skipI rfl ?_)
      refine endN rfl ?_
      repeat' (first|exact trivial|with_reducible exact rfl|refine And.intro ?_ ?_)
end Go.AM.YtkgmmmhokgdcaaaGreat.Fl
