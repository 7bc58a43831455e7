/- GrD, GrE, CaB, CaC, CaE, PlBase, PlA, PlB, PlC, PlD, PlE. -/
import Derived.Test.YtbepaplaahcnkaaGreatPc19
import Derived.Test.YtbepaplaahcnkaaGreatPc17

set_option linter.all false
section
namespace Go.AM.YtbepaplaahcnkaaGreat.Fl
open Go.Proofs
set_option maxRecDepth 100000
set_option maxHeartbeats 4000000
def w0:WayT:=tWay.dflt
def addStep (w:WayT) (out:List (Option WayT)) (n:Int):List (Option WayT) :=
 bif (getI out none n.toNat).isNone||decide (ordF w ((getI out none n.toNat).getD w0) < 0) then out.set n.toNat (some w) else out
def addW (out:List (Option WayT)) (w:WayT) (ns:List Int):List (Option WayT):=ns.foldl (addStep w) out
theorem addW_snoc {out:List (Option WayT)} {w:WayT} {p:List Int} {x:Int}:addW out w (p++[x])=addStep w (addW out w p) x:=by
 unfold addW;rw [List.foldl_append];rfl
theorem addStep_len {out:List (Option WayT)} {w:WayT} {n:Int}:(addStep w out n).length=out.length:=by
 unfold addStep
 cases (getI out none n.toNat).isNone||decide (ordF w ((getI out none n.toNat).getD w0) < 0) <;> simp
theorem addW_len {w:WayT}:∀ {p:List Int} {out:List (Option WayT)},(addW out w p).length=out.length
 | [],_=>rfl
 | n::p,out=>by
   show (addW (addStep w out n) w p).length=_
   rw [addW_len,addStep_len]
theorem cut_none {α:Type} {L:List α}:(cut (contOf (fun _:List α=>(none:Option AExit))) [] L).1=L:=by
 rw [cut_all (fun _ _ _ _=>rfl)];rfl
theorem some_of {α:Type} {y:Option α} (h:y.isNone=false):y.isSome=true:=by cases y <;> simp_all
def add1S:Spec:=⟨true,fun args rows=>match args,rows with
 | [.agg [.int .i64 t,.own 0],.agg [.int .i64 rc,.sl (.int .i64) tl,.int .i64 mn,.int .i64 mx,.sl (.int .i64) nx,.int .i64 bk,.int .i64 lm],.ptr 1 0,.ptr 2 0],[.seq (.int .i64) xs,.box [.own 3],.box [.fn 179 [] []],.seq (.opt (.pair (.int .i64) (.slice (.int .i64)))) out] =>
   some ⟨∀ n∈aftL bk nx,0≤n∧n < out.length,.tup [],[.dead,.box [.own 3],.box [.fn 179 [] []],.seq (.opt tWay) (addW out (t,xs) (aftL bk nx))],true⟩
 | [.agg [.int .i64 t,.nilsl],.agg [.int .i64 rc,.sl (.int .i64) tl,.int .i64 mn,.int .i64 mx,.sl (.int .i64) nx,.int .i64 bk,.int .i64 lm],.ptr 0 0,.ptr 1 0],[.box [.own 2],.box [.fn 179 [] []],.seq (.opt (.pair (.int .i64) (.slice (.int .i64)))) out] =>
   some ⟨∀ n∈aftL bk nx,0≤n∧n < out.length,.tup [],[.box [.own 2],.box [.fn 179 [] []],.seq (.opt tWay) (addW out (t,[]) (aftL bk nx))],true⟩
 | _,_=>none⟩
def sigAdd:List (Nat × Spec):=[(179,ordS),(181,aftS),(191,aft1S)]
theorem sigAddOk:SigOk Tryz.prog (look sigAdd):=sigCons (sigCons (sigCons sigNil
 Tryz.func191 (by kernel_rfl) (c:=body Tryz.f191) rfl aft1Ok)
 Tryz.func181 (by kernel_rfl) (c:=body Tryz.f181) rfl aftOk)
 Tryz.func179 (by kernel_rfl) (c:=body Tryz.f179) rfl ordOk
theorem add1Ok:SpecSound Tryz.prog 180 add1S:=by
 refine soundR (envOf sigAddOk) Tryz.func180 (c:=body Tryz.f180) rfl (by kernel_rfl) rfl ?_
 intro args rows out hf hpre
 split at hf <;> try (cases hf;done)
 ·rename_i t rc tl mn mx nx bk lm xs out
  cases hf
  refine ⟨Nat.le_of_ble_eq_true rfl,initI (args:=[.agg [.int .i64 t,.own 0],.agg [.int .i64 rc,.sl tInt tl,.int .i64 mn,.int .i64 mx,.sl tInt nx,.int .i64 bk,.int .i64 lm],.ptr 1 0,.ptr 2 0]) (rows:=[.seq tInt xs,.box [.own 3],.box [.fn 179 [] []],.seq (.opt tWay) out]) rfl ?_⟩
  refine freezeI 100000 rfl ?_
  repeat' (first|refine zN ?_|refine zE ?_|refine zP ?_|refine pD ?_|refine zQ ?_|refine zR ?_|refine zW ?_)
  refine rangeI (tInt) false (fun q=>[(100003,.seq (.opt tWay) (addW out (t,xs) q))]) (fun _=>none) (aftL bk nx) 8 rfl rfl rfl rfl rfl rfl rfl rfl rfl (fun _=>rfl) (fun _=>rfl) (fun _=>rfl) rfl rfl rfl ?_ ?_ ?_ ?_ ?_ ?_
  ·exact ⟨rfl,rfl,rfl,by repeat' (first|exact trivial|exact rfl|refine And.intro ?_ ?_),by repeat' (first|exact trivial|exact rfl|refine And.intro ?_ ?_),rfl,rfl,rfl⟩
  ·repeat' (first|exact trivial|exact rfl|refine ⟨rfl,?_⟩|refine And.intro ?_ ?_)
  ·rfl
  ·intro J
   exact ⟨_,_,rfl,fun h=>h,rfl,rfl⟩
  ·intro l q x hq hjq hok
   refine ⟨_,rfl,?_⟩
   have hx:=hpre x (hq.subset (by simp))
   obtain ⟨o2,ho2⟩:∃ o2,o2=addW out (t,xs) q:=⟨_,rfl⟩
   have hlen:o2.length=out.length:=by rw [ho2,addW_len]
   rw [addW_snoc,← ho2]
   repeat' (first|refine zN ?_|refine zE ?_|refine zP ?_|refine pD ?_|refine zQ ?_|refine zR ?_|refine zW ?_)
   refine asN ?_
   repeat' (first|refine zN ?_|refine zE ?_|refine zP ?_|refine pD ?_|refine pC (by first|exact some_of|(intros;exact True.intro)|omega) ?_|refine zQ ?_|refine zR ?_|refine zW ?_)
   refine condI rfl (fun c3=>?_) (fun c3=>?_)
   ·repeat' (first|refine zN ?_|refine zE ?_|refine zP ?_|refine pD ?_|refine pC (by first|omega|(intros;omega)) ?_|refine zQ ?_|refine zR ?_|refine zW ?_)
    refine yN rfl rfl ?_
    unfold addStep
    repeat' (first|exact trivial|exact rfl|refine ⟨rfl,?_⟩|refine And.intro ?_ ?_)
    rw [show ((getI o2 none (Int.toNat x)).isNone||decide (ordF (t,xs) ((getI o2 none (Int.toNat x)).getD w0) < 0))=true from c3]
    rfl
   ·repeat' (first|refine zN ?_|refine zE ?_|refine zP ?_|refine pD ?_|refine zQ ?_|refine zR ?_|refine zW ?_)
    refine yN rfl rfl ?_
    unfold addStep
    repeat' (first|exact trivial|exact rfl|refine ⟨rfl,?_⟩|refine And.intro ?_ ?_)
    rw [show ((getI o2 none (Int.toNat x)).isNone||decide (ordF (t,xs) ((getI o2 none (Int.toNat x)).getD w0) < 0))=false from c3]
    rfl
  ·rw [cut_none]
   repeat' (first|refine zN ?_|refine zE ?_|refine zP ?_|refine pD ?_|refine zQ ?_|refine zR ?_|refine zW ?_)
   refine endN rfl ?_
   repeat' (first|exact trivial|with_reducible exact rfl|refine And.intro ?_ ?_)
 ·rename_i t rc tl mn mx nx bk lm out
  cases hf
  refine ⟨Nat.le_of_ble_eq_true rfl,initI (args:=[.agg [.int .i64 t,.nilsl],.agg [.int .i64 rc,.sl tInt tl,.int .i64 mn,.int .i64 mx,.sl tInt nx,.int .i64 bk,.int .i64 lm],.ptr 0 0,.ptr 1 0]) (rows:=[.box [.own 2],.box [.fn 179 [] []],.seq (.opt tWay) out]) rfl ?_⟩
  refine tidyI [(0,.agg [.int .i64 t,.sl tInt []])] [] rfl rfl ?_ ?_
  ·repeat' (first|exact trivial|exact rfl|refine ⟨rfl,?_⟩|refine And.intro ?_ ?_)
  repeat' (first|refine zN ?_|refine zE ?_|refine zP ?_|refine pD ?_|refine zQ ?_|refine zR ?_|refine zW ?_)
  refine rangeI (tInt) false (fun q=>[(100002,.seq (.opt tWay) (addW out (t,[]) q))]) (fun _=>none) (aftL bk nx) 8 rfl rfl rfl rfl rfl rfl rfl rfl rfl (fun _=>rfl) (fun _=>rfl) (fun _=>rfl) rfl rfl rfl ?_ ?_ ?_ ?_ ?_ ?_
  ·exact ⟨rfl,rfl,rfl,by repeat' (first|exact trivial|exact rfl|refine And.intro ?_ ?_),by repeat' (first|exact trivial|exact rfl|refine And.intro ?_ ?_),rfl,rfl,rfl⟩
  ·repeat' (first|exact trivial|exact rfl|refine ⟨rfl,?_⟩|refine And.intro ?_ ?_)
  ·rfl
  ·intro J
   exact ⟨_,_,rfl,fun h=>h,rfl,rfl⟩
  ·intro l q x hq hjq hok
   refine ⟨_,rfl,?_⟩
   have hx:=hpre x (hq.subset (by simp))
   obtain ⟨o2,ho2⟩:∃ o2,o2=addW out (t,[]) q:=⟨_,rfl⟩
   have hlen:o2.length=out.length:=by rw [ho2,addW_len]
   rw [addW_snoc,← ho2]
   repeat' (first|refine zN ?_|refine zE ?_|refine zP ?_|refine pD ?_|refine zQ ?_|refine zR ?_|refine zW ?_)
   refine asN ?_
   repeat' (first|refine zN ?_|refine zE ?_|refine zP ?_|refine pD ?_|refine pC (by first|exact some_of|(intros;exact True.intro)|omega) ?_|refine zQ ?_|refine zR ?_|refine zW ?_)
   refine condI rfl (fun c3=>?_) (fun c3=>?_)
   ·repeat' (first|refine zN ?_|refine zE ?_|refine zP ?_|refine pD ?_|refine pC (by first|omega|(intros;omega)) ?_|refine zQ ?_|refine zR ?_|refine zW ?_)
    refine yN rfl rfl ?_
    unfold addStep
    repeat' (first|exact trivial|exact rfl|refine ⟨rfl,?_⟩|refine And.intro ?_ ?_)
    rw [show ((getI o2 none (Int.toNat x)).isNone||decide (ordF (t,[]) ((getI o2 none (Int.toNat x)).getD w0) < 0))=true from c3]
    rfl
   ·repeat' (first|refine zN ?_|refine zE ?_|refine zP ?_|refine pD ?_|refine zQ ?_|refine zR ?_|refine zW ?_)
    refine yN rfl rfl ?_
    unfold addStep
    repeat' (first|exact trivial|exact rfl|refine ⟨rfl,?_⟩|refine And.intro ?_ ?_)
    rw [show ((getI o2 none (Int.toNat x)).isNone||decide (ordF (t,[]) ((getI o2 none (Int.toNat x)).getD w0) < 0))=false from c3]
    rfl
  ·rw [cut_none]
   repeat' (first|refine zN ?_|refine zE ?_|refine zP ?_|refine pD ?_|refine zQ ?_|refine zR ?_|refine zW ?_)
   refine endN rfl ?_
   repeat' (first|exact trivial|with_reducible exact rfl|refine And.intro ?_ ?_)
end Go.AM.YtbepaplaahcnkaaGreat.Fl
end

section
namespace Go.AM.YtbepaplaahcnkaaGreat.Fl
open Go.Proofs
set_option maxRecDepth 100000
set_option maxHeartbeats 4000000
theorem inW_iff {n lo hi:Int}:inW n lo hi=true↔lo≤n∧n≤hi:=by
 unfold inW;rw [Bool.and_eq_true,decide_eq_true_eq,decide_eq_true_eq]
theorem ascF_in {l:List Int} {lo hi:Int} (h:ascF l lo hi=true):∀ n∈l,lo≤n∧n≤hi:=by
 intro n hn
 unfold ascF at h
 rw [Bool.not_eq_true',List.any_eq_false] at h
 obtain ⟨i,hi,rfl⟩:=List.getElem_of_mem hn
 have h1:=h i (List.mem_range.2 hi)
 unfold ascBad at h1
 rw [Bool.or_eq_true,not_or,Bool.not_eq_true',Bool.not_eq_false] at h1
 have h2:=inW_iff.1 h1.1
 have h3:getI l 0 i=l[i]:=by simp [getI,List.getD,List.getElem?_eq_getElem hi]
 rw [h3] at h2
 exact h2
structure StepSm (n:Nat) (s:StepT):Prop where
 mn:1≤stMn s
 mm:stMn s≤stMx s
 mx:stMx s≤10000
 nx:∀ m∈stNx s,0≤m∧m < n
 nl:(stNx s).length≤4
 tl:1≤(stTl s).length∧(stTl s).length≤8
 bk:(stBk s=-1∧stLm s=0)∨(0≤stBk s∧stBk s < n∧1≤stLm s∧stLm s≤9)
 rc:1≤stRc s∧stRc s≤1000000
 ts:∀ m∈stTl s,0≤m∧m≤59
theorem step_sm {n:Nat} {s:StepT} (h:stepF s n=true):StepSm n s:=by
 unfold stepF at h
 simp only [Bool.and_eq_true,Bool.or_eq_true,decide_eq_true_eq,inW_iff] at h
 obtain ⟨⟨⟨⟨⟨⟨⟨h1,h2⟩,h3⟩,h4⟩,h5⟩,h6⟩,h7⟩,h8⟩:=h
 refine ⟨h6,h7,h8,fun m hm=>?_,by omega,by omega,?_,h3,ascF_in h4⟩
 ·have:=ascF_in h5 m hm
  omega
 ·rcases h1 with h1|h1
  ·exact .inl h1
  ·exact .inr (by omega)
structure FlowSm (mn mx:Int) (ss:List StepT) (ws:List WinT):Prop where
 mn0:0≤mn
 mm:mn≤mx
 mx1:mx≤10000
 n1:1≤ss.length
 n2:ss.length≤40
 wl:ws.length≤20
 st:∀ s∈ss,StepSm ss.length s
 wn:∀ i,i < ws.length→rwF (getI ws tWin.dflt i) ss.length=true
theorem flow_sm {mn mx:Int} {ss:List StepT} {ws:List WinT} (h:validF mn mx ss ws=true):FlowSm mn mx ss ws:=by
 unfold validF movF at h
 simp only [Bool.and_eq_true,Bool.not_eq_true',Bool.or_eq_false_iff,Bool.not_eq_false',decide_eq_true_eq,decide_eq_false_iff_not,inW_iff,List.any_eq_false] at h
 obtain ⟨⟨⟨⟨h1,h2⟩,h3⟩,h4⟩,h5⟩:=h
 refine ⟨h1.1.1,h1.1.2,h1.2,by omega,by omega,by omega,fun s hs=>step_sm ?_,fun i hi=>?_⟩
 ·have:=h4 s hs
  simpa using this
 ·have:=h5 i (List.mem_range.2 hi)
  unfold winsBad at this
  simp only [Bool.not_eq_true,Bool.or_eq_false_iff,Bool.not_eq_false'] at this
  exact this.1
theorem aftL_mem {n:Int}:∀ {l:List Int} {b:Int},n∈aftL b l→(n=b∧0≤b)∨n∈l
 | [],b,h=>by
   unfold aftL at h
   cases hb:decide (b≥0)
   ·rw [hb] at h;cases h
   ·rw [hb] at h
    have:n=b:=by simpa using h
    exact .inl ⟨this,of_decide_eq_true hb⟩
 | m::r,b,h=>by
   unfold aftL at h
   cases hb:(decide (b≥0)&&decide (b < m))
   ·rw [hb] at h
    rcases List.mem_cons.1 h with h|h
    ·exact .inr (by simp [h])
    ·cases h2:decide (b≤m)
     ·rw [h2] at h
      rcases aftL_mem h with h|h
      ·exact .inl h
      ·exact .inr (by simp [h])
     ·rw [h2] at h
      rcases aftL_mem h with h|h
      ·have:=h.2;exact absurd this (by show ¬ (0≤(-1:Int));omega)
      ·exact .inr (by simp [h])
   ·rw [hb] at h
    rw [Bool.and_eq_true] at hb
    rcases List.mem_cons.1 h with h|h
    ·exact .inl ⟨h,of_decide_eq_true hb.1⟩
    ·rcases List.mem_cons.1 h with h|h
     ·exact .inr (by simp [h])
     ·rcases aftL_mem h with h|h
      ·have:=h.2;omega
      ·exact .inr (by simp [h])
theorem after_in {n:Nat} {s:StepT} (h:StepSm n s):∀ m∈aftL (stBk s) (stNx s),0≤m∧m < n:=by
 intro m hm
 rcases aftL_mem hm with ⟨h1,h2⟩|h1
 ·have:=h.bk;omega
 ·exact h.nx m h1
def pickW (out:List (Option WayT)) (done:List Bool):Nat→Int
 | 0=>-1
 | i+1=>bif (!(getI out none i).isNone&&!getI done false i)&&(decide (pickW out done i < 0)||decide (ordF ((getI out none i).getD w0) ((getI out none (pickW out done i).toNat).getD w0) < 0)) then (i:Int) else pickW out done i
theorem pickW_spec {out:List (Option WayT)} {done:List Bool}:∀ k:Nat,pickW out done k=-1∨∃ a:Nat,pickW out done k=a∧a < k∧(getI out none a).isSome=true∧getI done false a=false
 | 0=>.inl rfl
 | k+1=>by
   unfold pickW
   cases h:((!(getI out none k).isNone&&!getI done false k)&&(decide (pickW out done k < 0)||decide (ordF ((getI out none k).getD w0) ((getI out none (pickW out done k).toNat).getD w0) < 0)))
   ·rcases pickW_spec k with h1|⟨a,h1,h2,h3⟩
    ·exact .inl h1
    ·exact .inr ⟨a,h1,by omega,h3⟩
   ·rw [Bool.and_eq_true,Bool.and_eq_true,Bool.not_eq_true',Bool.not_eq_true'] at h
    exact .inr ⟨k,rfl,by omega,some_of h.1.1,h.1.2⟩
def nextW (mn:Int) (ss:List StepT) (out:List (Option WayT)) (a:Nat):WayT :=
 (((getI out none a).getD w0).1+stMn (getI ss tStep.dflt a)+mn,((getI out none a).getD w0).2++[(a:Int)])
def wLoop (mn:Int) (ss:List StepT):Nat→List (Option WayT)→List Bool→List (Option WayT)
 | 0,out,_=>out
 | f+1,out,done=>bif decide (pickW out done out.length < 0) then out else
   wLoop mn ss f (addW out (nextW mn ss out (pickW out done out.length).toNat) (afterL (getI ss tStep.dflt (pickW out done out.length).toNat))) (done.set (pickW out done out.length).toNat true)
def startW (mn:Int) (ss:List StepT) (from':Int):List (Option WayT):=addW (List.replicate ss.length none) (mn,[]) (afterL (getI ss tStep.dflt from'.toNat))
def waysF (mn:Int) (ss:List StepT) (from':Int):List (Option WayT):=wLoop mn ss (ss.length+1) (startW mn ss from') (List.replicate ss.length false)
def wayOk (k:Nat) (out:List (Option WayT)):Prop:=∀ w:WayT,some w∈out→(0≤w.1∧w.1≤20000 * (k+1))∧w.2.length≤k
theorem wayOk_mono {k m:Nat} {out:List (Option WayT)} (h:k≤m) (hk:wayOk k out):wayOk m out:=fun w hw=>by
 have:=hk w hw
 omega
theorem addStep_ok {k:Nat} {w:WayT} {out:List (Option WayT)} {n:Int} (h:wayOk k out) (hw:(0≤w.1∧w.1≤20000 * (k+1))∧w.2.length≤k):wayOk k (addStep w out n):=by
 unfold addStep
 cases ((getI out none n.toNat).isNone||decide (ordF w ((getI out none n.toNat).getD w0) < 0))
 ·exact h
 ·intro v hv
  rcases List.mem_or_eq_of_mem_set hv with h1|h1
  ·exact h v h1
  ·cases h1;exact hw
theorem addW_ok {k:Nat} {w:WayT}:∀ {ns:List Int} {out:List (Option WayT)},wayOk k out→(0≤w.1∧w.1≤20000 * (k+1))∧w.2.length≤k→wayOk k (addW out w ns)
 | [],_,h,_=>h
 | n::ns,out,h,hw=>by
   show wayOk k (addW (addStep w out n) w ns)
   exact addW_ok (addStep_ok h hw) hw
theorem getD_ok {k:Nat} {out:List (Option WayT)} (h:wayOk k out) (a:Nat):(0≤((getI out none a).getD w0).1∧((getI out none a).getD w0).1≤20000 * (k+1))∧((getI out none a).getD w0).2.length≤k:=by
 cases hg:getI out none a with
 | none=>exact ⟨⟨Int.le_refl _,by show (0:Int)≤_;omega⟩,Nat.zero_le _⟩
 | some w =>
   refine h w ?_
   by_cases ha:a < out.length
   ·have:getI out none a=out[a]:=by simp [getI,List.getD,List.getElem?_eq_getElem ha]
    rw [← hg,this];exact List.getElem_mem ha
   ·have:getI out none a=none:=by simp [getI,List.getD,List.getElem?_eq_none (Nat.le_of_not_lt ha)]
    rw [this] at hg;cases hg
theorem nextW_ok {k:Nat} {mn mx:Int} {ss:List StepT} {ws:List WinT} (F:FlowSm mn mx ss ws) {out:List (Option WayT)} (h:wayOk k out) {a:Nat} (ha:a < ss.length) :
 (0≤(nextW mn ss out a).1∧(nextW mn ss out a).1≤20000 * ((k+1:Nat)+1))∧(nextW mn ss out a).2.length≤k+1:=by
 have h1:=getD_ok h a
 have h2:=F.st _ (fl_mem (d:=tStep.dflt) ha)
 have h3:=h2.mn
 have h4:=h2.mm
 have h5:=h2.mx
 have h6:=F.mn0
 have h7:=F.mm
 have h8:=F.mx1
 unfold nextW
 refine ⟨⟨?_,?_⟩,?_⟩
 ·show 0≤((getI out none a).getD w0).1+stMn (getI ss tStep.dflt a)+mn
  omega
 ·show ((getI out none a).getD w0).1+stMn (getI ss tStep.dflt a)+mn≤_
  omega
 ·show (((getI out none a).getD w0).2++[(a:Int)]).length≤_
  rw [List.length_append]
  have:=h1.2
  show _+1≤_
  omega
theorem wLoop_ok {mn mx:Int} {ss:List StepT} {ws:List WinT} (F:FlowSm mn mx ss ws):∀ (f k:Nat) (out:List (Option WayT)) (done:List Bool),out.length=ss.length→wayOk k out→(wLoop mn ss f out done).length=ss.length∧wayOk (k+f) (wLoop mn ss f out done)
 | 0,k,out,done,hl,h=>⟨hl,h⟩
 | f+1,k,out,done,hl,h=>by
   unfold wLoop
   cases hp:decide (pickW out done out.length < 0)
   ·rcases pickW_spec (out:=out) (done:=done) out.length with h1|⟨a,h1,h2,_⟩
    ·rw [h1] at hp;exact absurd hp (by decide)
    ·have hat:(pickW out done out.length).toNat=a:=by rw [h1];rfl
     rw [hat]
     have:=wLoop_ok F f (k+1) (addW out (nextW mn ss out a) (afterL (getI ss tStep.dflt a))) (done.set a true) (by rw [addW_len,hl]) (addW_ok (wayOk_mono (by omega) h) (nextW_ok F h (by omega)))
     rw [show k+(f+1)=k+1+f by omega]
     exact this
   ·exact ⟨hl,wayOk_mono (by omega) h⟩
theorem start_ok {mn mx:Int} {ss:List StepT} {ws:List WinT} (F:FlowSm mn mx ss ws) (f:Int):(startW mn ss f).length=ss.length∧wayOk 0 (startW mn ss f):=by
 unfold startW
 refine ⟨by rw [addW_len,List.length_replicate],addW_ok (fun w hw=>?_) ⟨⟨F.mn0,?_⟩,Nat.le_refl _⟩⟩
 ·have:=List.eq_of_mem_replicate hw
  cases this
 ·have:=F.mm
  have:=F.mx1
  show mn≤_
  omega
theorem waysF_ok {mn mx:Int} {ss:List StepT} {ws:List WinT} (F:FlowSm mn mx ss ws) (f:Int):(waysF mn ss f).length=ss.length∧wayOk 41 (waysF mn ss f):=by
 obtain ⟨h1,h2⟩:=start_ok F f
 obtain ⟨h3,h4⟩:=wLoop_ok F (ss.length+1) 0 _ (List.replicate ss.length false) h1 h2
 exact ⟨h3,wayOk_mono (by have:=F.n2;omega) h4⟩
theorem count_set {l:List Bool} {a:Nat} (ha:a < l.length) (h:getI l false a=false):(l.set a true).count true=l.count true+1:=by
 have h1:l[a]=false:=by
  have:getI l false a=l[a]:=by simp [getI,List.getD,List.getElem?_eq_getElem ha]
  rw [← this];exact h
 rw [List.count_set ha,h1]
 simp
end Go.AM.YtbepaplaahcnkaaGreat.Fl
end

section
namespace Go.AM.YtbepaplaahcnkaaGreat
open Go.Proofs
set_option maxRecDepth 100000
set_option maxHeartbeats 4000000
structure Cal (xss:List (List Bk.El)):Prop where
 len:xss.length=60
 small:∀ xs∈xss,List.length (α:=Bk.El) xs≤1000000
theorem Cal.get {xss:List (List Bk.El)} (h:Cal xss) {i:Nat} (hi:i < 60):(getI xss [] i)∈xss∧(getI xss [] i).length≤1000000:=by
 have h1:i < xss.length:=by rw [h.len];exact hi
 have h2:getI xss [] i=xss[i]:=by simp [getI,List.getD,List.getElem?_eq_getElem h1]
 rw [h2]
 exact ⟨List.getElem_mem h1,h.small _ (List.getElem_mem h1)⟩
def toolL (xss:List (List Bk.El)) (tl:Int):List Bk.El:=getI xss [] tl.toNat
end Go.AM.YtbepaplaahcnkaaGreat
end

section
namespace Go.AM.YtbepaplaahcnkaaGreat
open Go.Proofs
set_option maxRecDepth 100000
set_option maxHeartbeats 4000000
def listF (xss:List (List Bk.El)) (tl:Int):List Bk.El:=if toolB tl=true then toolL xss tl else []
def listS:Spec:=plain fun
 | [.nilptr,.int .i64 tl]=>some ⟨True,.own 0,[.seq Bk []],false⟩
 | [.ext (.cref (.pair (.int .i64) (.pair (.int .i64) (.pair (.int .i64) (.int .i64)))) xss 0),.int .i64 tl]=>some ⟨Cal xss,.own 0,[.seq Bk (listF xss tl)],false⟩
 | _=>none
def lenF (xss:List (List Bk.El)):Nat:=(xss.map List.length).sum
def lenS:Spec:=plain fun
 | [.nilptr]=>outV True (.int .i64 0)
 | [.ext (.cref (.pair (.int .i64) (.pair (.int .i64) (.pair (.int .i64) (.int .i64)))) xss 0)]=>outV (Cal xss) (.int .i64 (lenF xss))
 | _=>none
theorem take_succ_getI {α:Type} {xs:List α} {d:α} {j:Nat} (h:j < xs.length):xs.take (j+1)=xs.take j++[getI xs d j]:=by
 have:getI xs d j=xs[j]:=by simp [getI,List.getD,List.getElem?_eq_getElem h]
 rw [List.take_succ_eq_append_getElem h,this]
end Go.AM.YtbepaplaahcnkaaGreat
end

section
namespace Go.AM.YtbepaplaahcnkaaGreat
open Go.Proofs
set_option maxRecDepth 100000
set_option maxHeartbeats 4000000
end Go.AM.YtbepaplaahcnkaaGreat
end

section
namespace Go.AM.YtbepaplaahcnkaaGreat.Pl
open Go.Proofs
abbrev tStage:Ty:=.pair (.int .i64) (.pair (.int .i64) (.pair (.pair (.int .i64) (.int .i64)) (.pair (.int .i64) (.int .i64))))
abbrev tWin:Ty:=.pair (.int .i64) (.pair (.int .i64) (.int .i64))
abbrev tVisit:Ty:=.pair (.int .i64) (.pair (.int .i64) (.pair (.int .i64) (.int .i64)))
end Go.AM.YtbepaplaahcnkaaGreat.Pl
end

section
namespace Go.AM.YtbepaplaahcnkaaGreat.Pl
open Go.Proofs
set_option maxRecDepth 100000
set_option maxHeartbeats 4000000
def withinF (n lo hi:Int):Bool:=decide (lo≤n)&&decide (n≤hi)
def withinS:Spec:=plain fun
 | [.int .i64 n,.int .i64 lo,.int .i64 hi]=>outV True (.bool (withinF n lo hi))
 | _=>none
theorem withinOk:SpecSound Tryz.prog 87 withinS:=by
 refine sound0 sigNil Tryz.func87 (c:=body Tryz.f87) rfl (by kernel_rfl) ?_
 intro args out hf hpre
 split at hf <;> try (cases hf;done)
 cases hf
 refine ⟨Nat.le_of_ble_eq_true rfl,?_⟩
 conv=>whnf
 exact ⟨[],_,rfl,rfl,rfl,trivial,rfl,rfl,rfl,fun _=>⟨rfl,rfl,rfl⟩⟩
def noneS:Spec:=plain fun
 | []=>outV True (.agg [.int .i64 (-1),.int .i64 0])
 | _=>none
theorem noneOk:SpecSound Tryz.prog 156 noneS:=by
 refine sound0 sigNil Tryz.func156 (c:=body Tryz.f156) rfl (by kernel_rfl) ?_
 intro args out hf hpre
 split at hf <;> try (cases hf;done)
 cases hf
 refine ⟨Nat.le_of_ble_eq_true rfl,?_⟩
 conv=>whnf
 exact ⟨[],_,rfl,rfl,aI rfl (aI rfl trivial),trivial,rfl,rfl,rfl,fun _=>⟨rfl,rfl,rfl⟩⟩
def pickF (c n:Int):Int:=(if c < 0 then -(c+1) else c) % n
def sigW:List (Nat × Spec):=[(87,withinS)]
theorem sigWOk:SigOk Tryz.prog (look sigW):=sigCons sigNil Tryz.func87 (by kernel_rfl) (c:=body Tryz.f87) rfl withinOk
def isSlotF (tool start dur:Int):Bool:=withinF tool 0 59&&withinF start 0 (1000000 - dur)
def isSlotS:Spec:=plain fun
 | [.agg [.int .i64 tool,.int .i64 start],.int .i64 dur]=>outV (Sm dur) (.bool (isSlotF tool start dur))
 | _=>none
theorem isSlotOk:SpecSound Tryz.prog 153 isSlotS:=by
 refine sound0 sigWOk Tryz.func153 (c:=body Tryz.f153) rfl (by kernel_rfl) ?_
 intro args out hf hpre
 split at hf <;> try (cases hf;done)
 rename_i tool start dur
 cases hf
 refine ⟨Nat.le_of_ble_eq_true rfl,?_⟩
 obtain ⟨h1,h2⟩:=hpre
 conv=>whnf
 refine aI trivial ?_
 conv=>whnf
 refine aI ?_ ?_
 ·conv=>whnf
  intro _;trivial
 conv=>whnf
 refine ⟨[],_,rfl,rfl,eBool ?_,trivial,rfl,rfl,rfl,fun _=>⟨rfl,rfl,rfl⟩⟩
 simp (disch:=omega) only [wrapId]
 rfl
def sigT:List (Nat × Spec):=[(153,isSlotS),(87,withinS)]
theorem sigTOk:SigOk Tryz.prog (look sigT):=sigCons sigWOk Tryz.func153 (by kernel_rfl) (c:=body Tryz.f153) rfl isSlotOk
def isStageF (mn mx mt ms st ss:Int):Bool:=withinF mn 1 mx&&decide (mx≤10000)&&isSlotF mt ms mx&&isSlotF st ss mx&&decide (mt≠st)
def isStageS:Spec:=plain fun
 | [.agg [.int .i64 mn,.int .i64 mx,.int .i64 mt,.int .i64 ms,.int .i64 st,.int .i64 ss]]=>outV True (.bool (isStageF mn mx mt ms st ss))
 | _=>none
theorem isStageOk:SpecSound Tryz.prog 90 isStageS:=by
 refine sound0 sigTOk Tryz.func90 (c:=body Tryz.f90) rfl (by kernel_rfl) ?_
 intro args out hf hpre
 split at hf <;> try (cases hf;done)
 rename_i mn mx mt ms st ss
 cases hf
 refine ⟨Nat.le_of_ble_eq_true rfl,?_⟩
 conv=>whnf
 refine aI trivial ?_
 conv=>whnf
 refine bI (fun c1=>?_) (fun c1=>?_)
 ·conv=>whnf
  refine ⟨[],_,rfl,rfl,eBool ?_,trivial,rfl,rfl,rfl,fun _=>⟨rfl,rfl,rfl⟩⟩
  simp only [Bool.or_eq_true,Bool.not_eq_true',decide_eq_true_eq] at c1
  unfold isStageF
  rcases c1 with c1|c1
  ·simp [c1]
  ·have:decide (mx≤10000)=false:=by simp;omega
   simp [this]
 ·simp only [Bool.or_eq_false_iff,Bool.not_eq_false',decide_eq_false_iff_not] at c1
  obtain ⟨c1,c2⟩:=c1
  have c3:=c1
  unfold withinF at c3
  simp only [Bool.and_eq_true,decide_eq_true_eq] at c3
  have hs:Sm mx:=by unfold Sm;omega
  conv=>whnf
  refine aI hs ?_
  conv=>whnf
  refine aI ?_ ?_
  ·conv=>whnf
   intro _;exact hs
  conv=>whnf
  refine ⟨[],_,rfl,rfl,eBool ?_,trivial,rfl,rfl,rfl,fun _=>⟨rfl,rfl,rfl⟩⟩
  unfold isStageF
  rw [c1]
  have:decide (mx≤10000)=true:=by simp;omega
  rw [this]
  rfl
end Go.AM.YtbepaplaahcnkaaGreat.Pl
end

section
namespace Go.AM.YtbepaplaahcnkaaGreat.Pl
open Go.Proofs
set_option maxRecDepth 100000
set_option maxHeartbeats 4000000
def sigStage:List (Nat × Spec):=[(90,isStageS),(153,isSlotS),(87,withinS)]
theorem sigStageOk:SigOk Tryz.prog (look sigStage):=sigCons sigTOk Tryz.func90 (by kernel_rfl) (c:=body Tryz.f90) rfl isStageOk
def badS:Spec:=plain fun
 | [.agg [.int .i64 mn,.int .i64 mx,.int .i64 mt,.int .i64 ms,.int .i64 st,.int .i64 ss]]=>outV True (.bool (!isStageF mn mx mt ms st ss))
 | _=>none
theorem badOk:SpecSound Tryz.prog 89 badS:=by
 refine sound0 sigStageOk Tryz.func89 (c:=body Tryz.f89) rfl (by kernel_rfl) ?_
 intro args out hf hpre
 split at hf <;> try (cases hf;done)
 rename_i mn mx mt ms st ss
 cases hf
 refine ⟨Nat.le_of_ble_eq_true rfl,?_⟩
 conv=>whnf
 refine aI trivial ?_
 conv=>whnf
 exact ⟨[],_,rfl,rfl,rfl,trivial,rfl,rfl,rfl,fun _=>⟨rfl,rfl,rfl⟩⟩
def sigBad:List (Nat × Spec):=[(89,badS)]
theorem sigBadOk:SigOk Tryz.prog (look sigBad):=sigCons sigNil Tryz.func89 (by kernel_rfl) (c:=body Tryz.f89) rfl badOk
def badSt (s:tStage.El):Bool:=!isStageF s.1 s.2.1 s.2.2.1.1 s.2.2.1.2 s.2.2.2.1 s.2.2.2.2
def idxStS:Spec:=plain fun
 | [.sl (.pair (.int .i64) (.pair (.int .i64) (.pair (.pair (.int .i64) (.int .i64)) (.pair (.int .i64) (.int .i64))))) xs,.fn 89 [] []]=>outV (xs.length≤1000000000000) (.int .i64 (idxF badSt xs))
 | _=>none
theorem idxStOk:SpecSound Tryz.prog 152 idxStS:=by
 refine sound0 sigBadOk Tryz.func152 (c:=body Tryz.f152) rfl (by kernel_rfl) ?_
 intro args out hf hpre
 split at hf <;> try (cases hf;done)
 rename_i xs
 cases hf
 change xs.length≤1000000000000 at hpre
 refine ⟨Nat.le_of_ble_eq_true rfl,?_⟩
 conv=>whnf
 refine ⟨Nat,fun i=>⟨19,[(0,⟨[],.sl tStage xs⟩),(1,⟨[],.fn 89 [] []⟩),(7,⟨[],.int .i64 xs.length⟩),(8,⟨[],.int .i64 i⟩)],[],[],[]⟩,
  fun i=>i≤xs.length∧∀ j,j < i→badSt (getI xs tStage.dflt j)=false,fun i=>xs.length - i,0,⟨by omega,fun j hj=>by omega⟩,.same ⟨rfl,rfl,rfl,⟨rfl,rfl,rfl,rfl,trivial⟩,trivial,rfl,rfl,rfl⟩,?_⟩
 intro i ⟨hi,hb⟩
 conv=>whnf
 refine bI (fun c1=>?_) (fun c1=>?_)
 ·simp only [decide_eq_true_eq] at c1
  conv=>whnf
  refine aI (by omega) ?_
  conv=>whnf
  refine aI (by omega) ?_
  conv=>whnf
  refine aI trivial ?_
  conv=>whnf
  refine bI (fun c2=>?_) (fun c2=>?_)
  ·conv=>whnf
   refine ⟨[],_,rfl,rfl,eInt ?_,trivial,rfl,rfl,rfl,fun _=>⟨rfl,rfl,rfl⟩⟩
   exact idxF_found (d:=tStage.dflt) (by omega) hb c2
  ·conv=>whnf
   refine ⟨i+1,⟨by omega,fun j hj=>?_⟩,(by show xs.length - (i+1) < xs.length - i;omega),.same ⟨rfl,rfl,rfl,⟨rfl,rfl,rfl,slotInt rfl (wrapEq (by omega) (by omega) (by omega)),trivial⟩,trivial,rfl,rfl,rfl⟩⟩
   by_cases hji:j=i
   ·subst hji;exact c2
   ·exact hb j (by omega)
 ·simp only [decide_eq_false_iff_not] at c1
  conv=>whnf
  refine ⟨[],_,rfl,rfl,eInt ?_,trivial,rfl,rfl,rfl,fun _=>⟨rfl,rfl,rfl⟩⟩
  exact idxF_none (d:=tStage.dflt) fun j hj=>hb j (by omega)
def sigIdxSt:List (Nat × Spec):=[(152,idxStS)]
theorem sigIdxStOk:SigOk Tryz.prog (look sigIdxSt):=sigCons sigNil Tryz.func152 (by kernel_rfl) (c:=body Tryz.f152) rfl idxStOk
def anyStS:Spec:=plain fun
 | [.sl (.pair (.int .i64) (.pair (.int .i64) (.pair (.pair (.int .i64) (.int .i64)) (.pair (.int .i64) (.int .i64))))) xs,.fn 89 [] []]=>outV (xs.length≤1000000000000) (.bool (xs.any badSt))
 | _=>none
theorem anyStOk:SpecSound Tryz.prog 88 anyStS:=by
 refine sound0 sigIdxStOk Tryz.func88 (c:=body Tryz.f88) rfl (by kernel_rfl) ?_
 intro args out hf hpre
 split at hf <;> try (cases hf;done)
 rename_i xs
 cases hf
 refine ⟨Nat.le_of_ble_eq_true rfl,?_⟩
 conv=>whnf
 refine aI hpre ?_
 conv=>whnf
 refine ⟨[],_,rfl,rfl,eBool ?_,trivial,rfl,rfl,rfl,fun _=>⟨rfl,rfl,rfl⟩⟩
 exact idxF_any.symm
def winF (n:Nat) (l w:tWin.El):Bool :=
 (decide (l.1 < w.1)||(decide (l.1=w.1)&&decide (l.2.1 < w.2.1)))&&decide (0≤w.1)&&decide (w.1 < w.2.1)&&decide (w.2.1 < (n:Int))&&withinF w.2.2 0 1000000
def winS:Spec:=⟨true,fun args rows=>match args,rows with
 | [.agg [.int .i64 a,.int .i64 b,.int .i64 c],.ptr 0 0,.ptr 1 0],[.box [.int .i64 x,.int .i64 y,.int .i64 z],.box [.int .i64 p,.int .i64 q,.int .i64 r,.sl (.pair (.int .i64) (.pair (.int .i64) (.pair (.pair (.int .i64) (.int .i64)) (.pair (.int .i64) (.int .i64))))) xs,.sl (.pair (.int .i64) (.pair (.int .i64) (.int .i64))) ys]] =>
   some ⟨True,.bool (winF xs.length (x,y,z) (a,b,c)),[.box [.int .i64 a,.int .i64 b,.int .i64 c],.box [.int .i64 p,.int .i64 q,.int .i64 r,.sl tStage xs,.sl tWin ys]],true⟩
 | _,_=>none⟩
theorem winOk:SpecSound Tryz.prog 86 winS:=by
 refine sound1 sigWOk Tryz.func86 (c:=body Tryz.f86) rfl (by kernel_rfl) ?_
 intro args rows out hf hpre
 split at hf <;> try (cases hf;done)
 cases hf
 refine ⟨Nat.le_of_ble_eq_true rfl,?_⟩
 conv=>whnf
 refine aI ?_ ?_
 ·conv=>whnf
  intro _;trivial
 conv=>whnf
 exact ⟨[],_,rfl,rfl,rfl,aI (aI rfl (aI rfl (aI rfl trivial))) (aI (aI rfl (aI rfl (aI rfl (aI rfl (aI rfl trivial))))) trivial),rfl,rfl,rfl,fun h=>by cases h⟩
def sigWin:List (Nat × Spec):=[(86,winS)]
theorem sigWinOk:SigOk Tryz.prog (look sigWin):=sigCons sigNil Tryz.func86 (by kernel_rfl) (c:=body Tryz.f86) rfl winOk
def badWinS:Spec:=⟨true,fun args rows=>match args,rows with
 | [.agg [.int .i64 a,.int .i64 b,.int .i64 c],.ptr 0 0],[.box [.fn 86 [] [.ptr 1 0,.ptr 2 0]],.box [.int .i64 x,.int .i64 y,.int .i64 z],.box [.int .i64 p,.int .i64 q,.int .i64 r,.sl (.pair (.int .i64) (.pair (.int .i64) (.pair (.pair (.int .i64) (.int .i64)) (.pair (.int .i64) (.int .i64))))) xs,.sl (.pair (.int .i64) (.pair (.int .i64) (.int .i64))) ys]] =>
   some ⟨True,.bool (!winF xs.length (x,y,z) (a,b,c)),[.box [.fn 86 [] [.ptr 1 0,.ptr 2 0]],.box [.int .i64 a,.int .i64 b,.int .i64 c],.box [.int .i64 p,.int .i64 q,.int .i64 r,.sl tStage xs,.sl tWin ys]],true⟩
 | _,_=>none⟩
theorem badWinOk:SpecSound Tryz.prog 92 badWinS:=by
 refine sound1 sigWinOk Tryz.func92 (c:=body Tryz.f92) rfl (by kernel_rfl) ?_
 intro args rows out hf hpre
 split at hf <;> try (cases hf;done)
 cases hf
 refine ⟨Nat.le_of_ble_eq_true rfl,?_⟩
 conv=>whnf
 refine aI trivial ?_
 conv=>whnf
 exact ⟨[],_,rfl,rfl,rfl,aI (aI (aI rfl (aI trivial (aI (aI rfl rfl) (aI (aI rfl rfl) trivial)))) trivial) (aI (aI rfl (aI rfl (aI rfl trivial))) (aI (aI rfl (aI rfl (aI rfl (aI rfl (aI rfl trivial))))) trivial)),rfl,rfl,rfl,fun h=>by cases h⟩
def sigBadW:List (Nat × Spec):=[(92,badWinS)]
theorem sigBadWOk:SigOk Tryz.prog (look sigBadW):=sigCons sigNil Tryz.func92 (by kernel_rfl) (c:=body Tryz.f92) rfl badWinOk
def ahead (l:tWin.El) (ws:List tWin.El):Nat→tWin.El
 | 0=>l
 | i+1=>getI ws tWin.dflt i
def duo (l:tWin.El):List tWin.El→List (tWin.El × tWin.El)
 | []=>[]
 | w::r=>(l,w)::duo w r
theorem duo_length:∀ {ws:List tWin.El} {l:tWin.El},(duo l ws).length=ws.length
 | [],_=>rfl
 | w::r,l=>by simp [duo,duo_length]
theorem duo_get:∀ {ws:List tWin.El} {l:tWin.El} {i:Nat},i < ws.length→getI (duo l ws) (l,l) i=(ahead l ws i,getI ws tWin.dflt i)
 | [],_,_,h=>by simp at h
 | w::r,l,0,_=>rfl
 | w::r,l,i+1,h=>by
   have h1:=duo_get (ws:=r) (l:=w) (i:=i) (by simpa using h)
   have hd:∀ (d e:tWin.El × tWin.El),getI (duo w r) d i=getI (duo w r) e i:=fun d e=>by
    have:i < (duo w r).length:=by rw [duo_length];simpa using h
    simp [getI,List.getD,List.getElem?_eq_getElem this]
   show getI (duo w r) (l,l) i=_
   rw [hd (l,l) (w,w),h1]
   cases i <;> rfl
def badW (n:Nat) (q:tWin.El × tWin.El):Bool:=!winF n q.1 q.2
def idxWinS:Spec:=⟨true,fun args rows=>match args,rows with
 | [.sl (.pair (.int .i64) (.pair (.int .i64) (.int .i64))) ws,.fn 92 [] [.ptr 0 0]],[.box [.fn 86 [] [.ptr 1 0,.ptr 2 0]],.box [.int .i64 x,.int .i64 y,.int .i64 z],.box [.int .i64 p,.int .i64 q,.int .i64 r,.sl (.pair (.int .i64) (.pair (.int .i64) (.pair (.pair (.int .i64) (.int .i64)) (.pair (.int .i64) (.int .i64))))) xs,.sl (.pair (.int .i64) (.pair (.int .i64) (.int .i64))) ys]] =>
   some ⟨ws.length≤1000000000000,.int .i64 (idxF (badW xs.length) (duo (x,y,z) ws)),[.dead,.dead,.dead],true⟩
 | _,_=>none⟩
theorem idxWinOk:SpecSound Tryz.prog 154 idxWinS:=by
 refine sound1 sigBadWOk Tryz.func154 (c:=body Tryz.f154) rfl (by kernel_rfl) ?_
 intro args rows out hf hpre
 split at hf <;> try (cases hf;done)
 rename_i ws x y z p q r xs ys
 cases hf
 change ws.length≤1000000000000 at hpre
 refine ⟨Nat.le_of_ble_eq_true rfl,?_⟩
 conv=>whnf
 refine ⟨Nat,fun i=>⟨19,[(0,⟨[],.sl tWin ws⟩),(1,⟨[],.fn 92 [] [.ptr 100000 0]⟩),(7,⟨[],.int .i64 ws.length⟩),(8,⟨[],.int .i64 i⟩)],[],[100000,100001,100002],
  [(100000,.box [.fn 86 [] [.ptr 100001 0,.ptr 100002 0]]),(100001,.box [.int .i64 (ahead (x,y,z) ws i).1,.int .i64 (ahead (x,y,z) ws i).2.1,.int .i64 (ahead (x,y,z) ws i).2.2]),(100002,.box [.int .i64 p,.int .i64 q,.int .i64 r,.sl tStage xs,.sl tWin ys])]⟩,
  fun i=>i≤ws.length∧∀ j,j < i→badW xs.length (getI (duo (x,y,z) ws) ((x,y,z),(x,y,z)) j)=false,fun i=>ws.length - i,0,⟨by omega,fun j hj=>by omega⟩,.same ⟨rfl,rfl,rfl,⟨rfl,rfl,rfl,rfl,trivial⟩,⟨rfl,rfl,rfl,trivial⟩,rfl,rfl,rfl⟩,?_⟩
 intro i ⟨hi,hb⟩
 conv=>whnf
 refine bI (fun c1=>?_) (fun c1=>?_)
 ·simp only [decide_eq_true_eq] at c1
  have hlt:i < ws.length:=by omega
  conv=>whnf
  refine aI (by omega) ?_
  conv=>whnf
  refine aI (by omega) ?_
  conv=>whnf
  refine aI trivial ?_
  conv=>whnf
  refine bI (fun c2=>?_) (fun c2=>?_)
  ·conv=>whnf
   refine ⟨[],_,rfl,rfl,eInt ?_,aI trivial (aI trivial (aI trivial trivial)),rfl,rfl,rfl,fun h=>by cases h⟩
   exact idxF_found (d:=((x,y,z),(x,y,z))) (by rw [duo_length];exact hlt) hb (by rw [duo_get hlt];exact c2)
  ·conv=>whnf
   refine ⟨i+1,⟨by omega,fun j hj=>?_⟩,(by show ws.length - (i+1) < ws.length - i;omega),.same ⟨rfl,rfl,rfl,⟨rfl,rfl,rfl,slotInt rfl (wrapEq (by omega) (by omega) (by omega)),trivial⟩,⟨rfl,rfl,rfl,trivial⟩,rfl,rfl,rfl⟩⟩
   by_cases hji:j=i
   ·subst hji;rw [duo_get hlt];exact c2
   ·exact hb j (by omega)
 ·simp only [decide_eq_false_iff_not] at c1
  conv=>whnf
  refine ⟨[],_,rfl,rfl,eInt ?_,aI trivial (aI trivial (aI trivial trivial)),rfl,rfl,rfl,fun h=>by cases h⟩
  exact idxF_none (d:=((x,y,z),(x,y,z))) fun j hj=>hb j (by rw [duo_length] at hj;omega)
def sigIdxW:List (Nat × Spec):=[(154,idxWinS)]
theorem sigIdxWOk:SigOk Tryz.prog (look sigIdxW):=sigCons sigNil Tryz.func154 (by kernel_rfl) (c:=body Tryz.f154) rfl idxWinOk
def anyWinS:Spec:=⟨true,fun args rows=>match args,rows with
 | [.sl (.pair (.int .i64) (.pair (.int .i64) (.int .i64))) ws,.fn 92 [] [.ptr 0 0]],[.box [.fn 86 [] [.ptr 1 0,.ptr 2 0]],.box [.int .i64 x,.int .i64 y,.int .i64 z],.box [.int .i64 p,.int .i64 q,.int .i64 r,.sl (.pair (.int .i64) (.pair (.int .i64) (.pair (.pair (.int .i64) (.int .i64)) (.pair (.int .i64) (.int .i64))))) xs,.sl (.pair (.int .i64) (.pair (.int .i64) (.int .i64))) ys]] =>
   some ⟨ws.length≤1000000000000,.bool ((duo (x,y,z) ws).any (badW xs.length)),[.dead,.dead,.dead],true⟩
 | _,_=>none⟩
theorem anyWinOk:SpecSound Tryz.prog 91 anyWinS:=by
 refine sound1 sigIdxWOk Tryz.func91 (c:=body Tryz.f91) rfl (by kernel_rfl) ?_
 intro args rows out hf hpre
 split at hf <;> try (cases hf;done)
 rename_i ws x y z p q r xs ys
 cases hf
 refine ⟨Nat.le_of_ble_eq_true rfl,?_⟩
 conv=>whnf
 refine aI hpre ?_
 conv=>whnf
 refine ⟨[],_,rfl,rfl,eBool ?_,aI trivial (aI trivial (aI trivial trivial)),rfl,rfl,rfl,fun h=>by cases h⟩
 exact idxF_any.symm
def sigValid:List (Nat × Spec):=[(87,withinS),(88,anyStS),(91,anyWinS)]
theorem sigValidOk:SigOk Tryz.prog (look sigValid):=sigCons (sigCons (sigCons sigNil Tryz.func91 (by kernel_rfl) (c:=body Tryz.f91) rfl anyWinOk) Tryz.func88 (by kernel_rfl) (c:=body Tryz.f88) rfl anyStOk) Tryz.func87 (by kernel_rfl) (c:=body Tryz.f87) rfl withinOk
end Go.AM.YtbepaplaahcnkaaGreat.Pl
end

section
namespace Go.AM.YtbepaplaahcnkaaGreat.Pl
open Go.Proofs
set_option maxRecDepth 100000
set_option maxHeartbeats 4000000
def validF (e a b:Int) (xs:List tStage.El) (ws:List tWin.El):Bool :=
 withinF e 0 1000000&&withinF a 0 b&&decide (b≤10000)&&withinF (xs.length:Int) 1 8&&decide ((ws.length:Int)≤20)&&(!xs.any badSt&&!(duo (-1,0,0) ws).any (badW xs.length))
def validS:Spec:=plain fun
 | [.agg [.int .i64 e,.int .i64 a,.int .i64 b,.sl (.pair (.int .i64) (.pair (.int .i64) (.pair (.pair (.int .i64) (.int .i64)) (.pair (.int .i64) (.int .i64))))) xs,.sl (.pair (.int .i64) (.pair (.int .i64) (.int .i64))) ws]]=>outV True (.bool (validF e a b xs ws))
 | _=>none
theorem validOk:SpecSound Tryz.prog 28 validS:=by
 refine sound0 sigValidOk Tryz.func28 (c:=body Tryz.f28) rfl (by kernel_rfl) ?_
 intro args out hf hpre
 split at hf <;> try (cases hf;done)
 rename_i e a b xs ws
 cases hf
 refine ⟨Nat.le_of_ble_eq_true rfl,?_⟩
 conv=>whnf
 refine aI trivial ?_
 conv=>whnf
 refine aI ?_ ?_
 ·conv=>whnf
  intro _;trivial
 conv=>whnf
 refine bI (fun c1=>?_) (fun c1=>?_)
 ·conv=>whnf
  refine ⟨[],_,rfl,rfl,eBool ?_,trivial,rfl,rfl,rfl,fun _=>⟨rfl,rfl,rfl⟩⟩
  unfold validF
  simp only [Bool.or_eq_true,Bool.not_eq_true',decide_eq_true_eq] at c1
  rcases c1 with (c1|c1)|c1
  ·simp [c1]
  ·simp [c1]
  ·have:decide (b≤10000)=false:=by simp;omega
   simp [this]
 ·simp only [Bool.or_eq_false_iff,Bool.not_eq_false',decide_eq_false_iff_not] at c1
  obtain ⟨⟨c1,c2⟩,c3⟩:=c1
  have c3':decide (b≤10000)=true:=by simp;omega
  conv=>whnf
  refine aI trivial ?_
  conv=>whnf
  refine bI (fun c4=>?_) (fun c4=>?_)
  ·conv=>whnf
   refine ⟨[],_,rfl,rfl,eBool ?_,trivial,rfl,rfl,rfl,fun _=>⟨rfl,rfl,rfl⟩⟩
   unfold validF
   simp only [Bool.or_eq_true,Bool.not_eq_true',decide_eq_true_eq] at c4
   rcases c4 with c4|c4
   ·simp [c4]
   ·have:decide ((ws.length:Int)≤20)=false:=by simp;omega
    rw [this];simp
  ·simp only [Bool.or_eq_false_iff,Bool.not_eq_false',decide_eq_false_iff_not] at c4
   obtain ⟨c4,c5⟩:=c4
   have c5':decide ((ws.length:Int)≤20)=true:=by simp;omega
   have c6:=c4
   unfold withinF at c6
   simp only [Bool.and_eq_true,decide_eq_true_eq] at c6
   conv=>whnf
   refine aI (by show xs.length≤1000000000000;omega) ?_
   conv=>whnf
   refine aI ?_ ?_
   ·conv=>whnf
    intro _
    show ws.length≤1000000000000
    omega
   conv=>whnf
   refine ⟨[],_,rfl,rfl,eBool ?_,trivial,rfl,rfl,rfl,fun _=>⟨rfl,rfl,rfl⟩⟩
   unfold validF
   rw [c1,c2,c3',c4,c5']
   rfl
def sigV:List (Nat × Spec):=[(87,withinS),(28,validS)]
theorem sigVOk:SigOk Tryz.prog (look sigV):=sigCons (sigCons sigNil Tryz.func28 (by kernel_rfl) (c:=body Tryz.f28) rfl validOk) Tryz.func87 (by kernel_rfl) (c:=body Tryz.f87) rfl withinOk
end Go.AM.YtbepaplaahcnkaaGreat.Pl
end

section
namespace Go.AM.YtbepaplaahcnkaaGreat.Pl
open Go.Proofs
set_option maxRecDepth 100000
set_option maxHeartbeats 4000000
end Go.AM.YtbepaplaahcnkaaGreat.Pl
end

section
namespace Go.AM.YtbepaplaahcnkaaGreat.Pl
open Go.Proofs
set_option maxRecDepth 100000
set_option maxHeartbeats 4000000
def sigPoss:List (Nat × Spec):=[(28,validS),(87,withinS),(156,noneS)]
theorem sigPossOk:SigOk Tryz.prog (look sigPoss):=sigCons (sigCons (sigCons sigNil Tryz.func156 (by kernel_rfl) (c:=body Tryz.f156) rfl noneOk) Tryz.func87 (by kernel_rfl) (c:=body Tryz.f87) rfl withinOk) Tryz.func28 (by kernel_rfl) (c:=body Tryz.f28) rfl validOk
def fitsAt (a b:Int) (xs:List tStage.El) (du mo:List Int) (i:Nat):Bool :=
 withinF (getI du 0 i) (getI xs tStage.dflt i).1 (getI xs tStage.dflt i).2.1&&withinF (getI mo 0 i) a b
def possF (e a b:Int) (xs:List tStage.El) (ws:List tWin.El) (du mo:List Int) (de tl fa:Int):Bool :=
 validF e a b xs ws&&decide (du.length=xs.length)&&decide (mo.length=xs.length)&&withinF de a b&&(List.range xs.length).all (fitsAt a b xs du mo) &&
  ((decide (tl=-1)&&decide (fa=0))||(withinF tl 0 59&&withinF fa 0 1000000))
def possS:Spec:=plain fun
 | [.agg [.int .i64 e,.int .i64 a,.int .i64 b,.sl (.pair (.int .i64) (.pair (.int .i64) (.pair (.pair (.int .i64) (.int .i64)) (.pair (.int .i64) (.int .i64))))) xs,.sl (.pair (.int .i64) (.pair (.int .i64) (.int .i64))) ws],
  .agg [.sl (.int .i64) du,.sl (.int .i64) mo,.int .i64 de,.int .i64 tl,.int .i64 fa]]=>outV (xs.length≤1000000000000) (.bool (possF e a b xs ws du mo de tl fa))
 | _=>none
theorem possOk:SpecSound Tryz.prog 96 possS:=by
 refine sound0 sigPossOk Tryz.func96 (c:=body Tryz.f96) rfl (by kernel_rfl) ?_
 intro args out hf hpre
 split at hf <;> try (cases hf;done)
 rename_i e a b xs ws du mo de tl fa
 cases hf
 change xs.length≤1000000000000 at hpre
 refine ⟨Nat.le_of_ble_eq_true rfl,?_⟩
 conv=>whnf
 refine aI trivial ?_
 conv=>whnf
 refine aI ?_ ?_
 ·conv=>whnf
  intro _;trivial
 conv=>whnf
 refine bI (fun c1=>?_) (fun c1=>?_)
 ·conv=>whnf
  refine ⟨[],_,rfl,rfl,eBool ?_,trivial,rfl,rfl,rfl,fun _=>⟨rfl,rfl,rfl⟩⟩
  simp only [Bool.or_eq_true,Bool.not_eq_true',decide_eq_true_eq] at c1
  unfold possF
  rcases c1 with ((c1|c1)|c1)|c1
  ·simp [c1]
  ·have:decide (du.length=xs.length)=false:=by rw [decide_eq_false_iff_not];omega
   rw [this];simp
  ·have:decide (mo.length=xs.length)=false:=by rw [decide_eq_false_iff_not];omega
   rw [this];simp
  ·simp [c1]
 ·simp only [Bool.or_eq_false_iff,Bool.not_eq_false',decide_eq_false_iff_not,Decidable.not_not] at c1
  obtain ⟨⟨⟨c1,c2⟩,c3⟩,c4⟩:=c1
  have l1:du.length=xs.length:=by omega
  have l2:mo.length=xs.length:=by omega
  conv=>whnf
  refine ⟨Nat,fun i=>⟨90,[(2,⟨[],.ptr 2 0⟩),(3,⟨[],.ptr 3 0⟩),(40,⟨[],.sl tStage xs⟩),(41,⟨[],.int .i64 xs.length⟩),(42,⟨[],.int .i64 i⟩)],[],[2,3],
   [(2,.box [.int .i64 e,.int .i64 a,.int .i64 b,.sl tStage xs,.sl tWin ws]),(3,.box [.sl tInt du,.sl tInt mo,.int .i64 de,.int .i64 tl,.int .i64 fa])]⟩,
   fun i=>i≤xs.length∧∀ j,j < i→fitsAt a b xs du mo j=true,fun i=>xs.length - i,0,⟨by omega,fun j hj=>by omega⟩,.same ⟨rfl,rfl,rfl,⟨rfl,rfl,rfl,rfl,rfl,trivial⟩,⟨rfl,rfl,trivial⟩,rfl,rfl,rfl⟩,?_⟩
  intro i ⟨hi,hb⟩
  conv=>whnf
  refine bI (fun c5=>?_) (fun c5=>?_)
  ·simp only [decide_eq_true_eq] at c5
   conv=>whnf
   refine aI (by omega) ?_
   conv=>whnf
   refine aI (by omega) ?_
   conv=>whnf
   refine aI (by omega) ?_
   conv=>whnf
   refine aI (by omega) ?_
   conv=>whnf
   refine aI trivial ?_
   conv=>whnf
   refine aI ?_ ?_
   ·conv=>whnf
    intro _;omega
   conv=>whnf
   refine aI ?_ ?_
   ·conv=>whnf
    intro _;omega
   conv=>whnf
   refine aI ?_ ?_
   ·conv=>whnf
    intro _;trivial
   conv=>whnf
   refine bI (fun c6=>?_) (fun c6=>?_)
   ·conv=>whnf
    refine ⟨[],_,rfl,rfl,eBool ?_,trivial,rfl,rfl,rfl,fun _=>⟨rfl,rfl,rfl⟩⟩
    unfold possF
    have h1:(List.range xs.length).all (fitsAt a b xs du mo)=false:=by
     cases h2:(List.range xs.length).all (fitsAt a b xs du mo) with
     | false=>rfl
     | true =>
       have h3:=List.all_eq_true.1 h2 i (by simp;omega)
       have h4:(!fitsAt a b xs du mo i)=true:=by
        unfold fitsAt
        rw [Bool.not_and]
        exact c6
       rw [h3] at h4;cases h4
    rw [h1];simp
   ·conv=>whnf
    refine ⟨i+1,⟨by omega,fun j hj=>?_⟩,(by show xs.length - (i+1) < xs.length - i;omega),.same ⟨rfl,rfl,rfl,⟨rfl,rfl,rfl,rfl,slotInt rfl (wrapEq (by omega) (by omega) (by omega)),trivial⟩,⟨rfl,rfl,trivial⟩,rfl,rfl,rfl⟩⟩
    by_cases hji:j=i
    ·subst hji
     have h4:(!fitsAt a b xs du mo j)=false:=by
      unfold fitsAt
      rw [Bool.not_and]
      exact c6
     simpa using h4
    ·exact hb j (by omega)
  ·simp only [decide_eq_false_iff_not] at c5
   have hall:(List.range xs.length).all (fitsAt a b xs du mo)=true:=List.all_eq_true.2 fun j hj=>hb j (by simp at hj;omega)
   have d1:decide (du.length=xs.length)=true:=by rw [decide_eq_true_eq];exact l1
   have d2:decide (mo.length=xs.length)=true:=by rw [decide_eq_true_eq];exact l2
   conv=>whnf
   refine aI trivial ?_
   conv=>whnf
   refine aI ?_ ?_
   ·conv=>whnf
    intro _;trivial
   conv=>whnf
   refine aI ?_ ?_
   ·conv=>whnf
    intro _ _;trivial
   conv=>whnf
   refine ⟨[],_,rfl,rfl,eBool ?_,trivial,rfl,rfl,rfl,fun _=>⟨rfl,rfl,rfl⟩⟩
   unfold possF
   rw [c1,d1,d2,c4,hall]
   rfl
def reachedF (mt ms st ss de tl fa t mv du:Int):(Int × Int) × Bool :=
 if tl=mt∧fa < ms+du then
  if fa≤t then ((st,ss),decide (t+mv≤ss))
  else if fa < ms then ((st,ss),decide (max (t+mv) fa+de≤ss))
  else if ms < t+mv then ((mt,ms),false)
  else ((st,ss),decide (fa+de≤ss))
 else ((mt,ms),decide (t+mv≤ms))
def reachedS:Spec:=plain fun
 | [.agg [.int .i64 _,.int .i64 _,.int .i64 mt,.int .i64 ms,.int .i64 st,.int .i64 ss],.agg [.sl (.int .i64) _,.sl (.int .i64) _,.int .i64 de,.int .i64 tl,.int .i64 fa],.int .i64 t,.int .i64 mv,.int .i64 du] =>
   outV (Sm ms∧Sm de∧Sm fa∧Sm t∧Sm mv∧Sm du) (.tup [.agg [.int .i64 (reachedF mt ms st ss de tl fa t mv du).1.1,.int .i64 (reachedF mt ms st ss de tl fa t mv du).1.2],.bool (reachedF mt ms st ss de tl fa t mv du).2])
 | _=>none
theorem reachedOk:SpecSound Tryz.prog 97 reachedS:=by
 refine sound0 sigNil Tryz.func97 (c:=body Tryz.f97) rfl (by kernel_rfl) ?_
 intro args out hf hpre
 split at hf <;> try (cases hf;done)
 rename_i mn mx mt ms st ss x1 x2 de tl fa t mv du
 cases hf
 refine ⟨Nat.le_of_ble_eq_true rfl,?_⟩
 obtain ⟨h1,h2,h3,h4,h5,h6⟩:=hpre
 unfold Sm at h1 h2 h3 h4 h5 h6
 conv=>whnf
 refine bI (fun c1=>?_) (fun c1=>?_)
 ·conv=>whnf
  refine ⟨[],_,rfl,rfl,?_,trivial,rfl,rfl,rfl,fun _=>⟨rfl,rfl,rfl⟩⟩
  refine aI (aI (eInt ?_) (aI (eInt ?_) trivial)) (aI (eBool ?_) trivial)
  all_goals simp (disch:=omega) only [wrapId] at c1 ⊢
  all_goals simp only [Bool.not_eq_true',Bool.and_eq_false_iff,decide_eq_false_iff_not] at c1
  all_goals unfold reachedF
  all_goals (repeat' split) <;> first|rfl|(exfalso;omega)
 ·simp (disch:=omega) only [wrapId] at c1
  simp only [Bool.not_eq_false',Bool.and_eq_true,decide_eq_true_eq] at c1
  conv=>whnf
  refine bI (fun c2=>?_) (fun c2=>?_)
  ·conv=>whnf
   refine ⟨[],_,rfl,rfl,?_,trivial,rfl,rfl,rfl,fun _=>⟨rfl,rfl,rfl⟩⟩
   refine aI (aI (eInt ?_) (aI (eInt ?_) trivial)) (aI (eBool ?_) trivial)
   all_goals simp (disch:=omega) only [wrapId,decide_eq_true_eq] at c2 ⊢
   all_goals unfold reachedF
   all_goals (repeat' split) <;> first|rfl|(exfalso;omega)
  ·simp only [decide_eq_false_iff_not] at c2
   conv=>whnf
   refine bI (fun c3=>?_) (fun c3=>?_)
   ·simp only [decide_eq_true_eq] at c3
    conv=>whnf
    refine ⟨[],_,rfl,rfl,?_,trivial,rfl,rfl,rfl,fun _=>⟨rfl,rfl,rfl⟩⟩
    refine aI (aI (eInt ?_) (aI (eInt ?_) trivial)) (aI (eBool ?_) trivial)
    all_goals try simp (disch:=omega) only [wrapId]
    all_goals unfold reachedF
    all_goals (repeat' split) <;> first|rfl|(exfalso;omega)
   ·simp only [decide_eq_false_iff_not] at c3
    conv=>whnf
    refine bI (fun c4=>?_) (fun c4=>?_)
    ·simp (disch:=omega) only [wrapId,decide_eq_true_eq] at c4
     conv=>whnf
     refine ⟨[],_,rfl,rfl,?_,trivial,rfl,rfl,rfl,fun _=>⟨rfl,rfl,rfl⟩⟩
     refine aI (aI (eInt ?_) (aI (eInt ?_) trivial)) (aI (eBool ?_) trivial)
     all_goals unfold reachedF
     all_goals (repeat' split) <;> first|rfl|(exfalso;omega)
    ·simp (disch:=omega) only [wrapId,decide_eq_false_iff_not] at c4
     conv=>whnf
     refine ⟨[],_,rfl,rfl,?_,trivial,rfl,rfl,rfl,fun _=>⟨rfl,rfl,rfl⟩⟩
     refine aI (aI (eInt ?_) (aI (eInt ?_) trivial)) (aI (eBool ?_) trivial)
     all_goals try simp (disch:=omega) only [wrapId]
     all_goals unfold reachedF
     all_goals (repeat' split) <;> first|rfl|(exfalso;omega)
end Go.AM.YtbepaplaahcnkaaGreat.Pl
end
