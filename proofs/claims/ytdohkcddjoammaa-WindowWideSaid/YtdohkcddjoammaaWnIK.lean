/- Follow; the laws' times. -/
import Derived.Test.YtdohkcddjoammaaPw30
import Derived.Test.YtdohkcddjoammaaWnDjK
import Derived.Test.YtdohkcddjoammaaAmRenK
set_option linter.all false
namespace Go.AM.Ytdohkcddjoammaa.Fl
open Go.Proofs
set_option maxRecDepth 100000
set_option maxHeartbeats 4000000
theorem aftL_len:∀ {l:List Int} {b:Int},(aftL b l).length≤l.length+1
  | [],b=>by
    unfold aftL
    cases decide (b≥0) <;> simp
  | n::r,b=>by
    unfold aftL
    cases decide (b≥0)&&decide (b < n)
    · show (n::aftL _ r).length≤_
      rw [List.length_cons,List.length_cons]
      have:=aftL_len (l:=r) (b:=bif decide (b≤n) then -1 else b)
      omega
    · show (b::n::aftL (-1) r).length≤_
      have:(aftL (-1) r).length≤r.length:=by
        have:∀ (r:List Int),(aftL (-1) r).length≤r.length:=fun r=>by
          induction r with
          | nil=>exact Nat.le_refl _
          | cons m r ih =>
            unfold aftL
            show (m::aftL (bif decide ((-1:Int)≤m) then -1 else -1) r).length≤_
            rw [show (bif decide ((-1:Int)≤m) then (-1:Int) else -1)=-1 by cases decide ((-1:Int)≤m) <;> rfl]
            simp only [List.length_cons]
            omega
        exact this r
      simp only [List.length_cons]
      omega
def apSeqS:Spec:=⟨true,fun args rows=>match args,rows with
  | [.nilsl,.fn 61 [] [.ptr 0 0]],[.box [.int .i64 rc,.sl (.int .i64) tl,.int .i64 mn,.int .i64 mx,.sl (.int .i64) nx,.int .i64 bk,.int .i64 lm]] =>
    some ⟨nx.length≤4,.own 1,[.dead,.seq tInt (aftL bk nx)],true⟩
  | _,_=>none⟩
def sigAs:List (Nat × Spec):=[(61,aft1S)]
theorem sigAsOk:SigOk Try.prog (look sigAs):=sigCons sigNil Try.func61 (by kernel_rfl) (c:=body Try.f61) rfl aft1Ok
theorem apSeqOk:SpecSound Try.prog 60 apSeqS:=by
  refine soundR (envOf sigAsOk) Try.func60 (c:=body Try.f60) rfl (by kernel_rfl) rfl ?_
  intro args rows out hf hpre
  split at hf <;> try (cases hf;done)
  rename_i rc tl mn mx nx bk lm
  cases hf
  refine ⟨Nat.le_of_ble_eq_true rfl,initI (args:=[.nilsl,.fn 61 [] [.ptr 0 0]]) (rows:=[.box [.int .i64 rc,.sl tInt tl,.int .i64 mn,.int .i64 mx,.sl tInt nx,.int .i64 bk,.int .i64 lm]]) rfl ?_⟩
  have hnx:List.length (α:=Int) nx≤4:=hpre
  repeat' (first|with_reducible (first|apply pN|apply cN|apply bN|apply cE|apply cR|apply bR|apply lE|apply lR|apply jE|apply jR)|refine zE ?_|refine zP ?_|refine zS ?_|refine zO ?_|refine zB ?_|refine zX ?_|refine zT ?_|refine skipI rfl ?_)
  refine zR ?_
  repeat' (first|with_reducible refine pN ?_|refine pD ?_|fail)
  repeat with_reducible refine cN ?_
  repeat' (first|with_reducible (first|apply pN|apply cN|apply bN|apply cE|apply cR|apply bR|apply lE|apply lR|apply jE|apply jR)|refine zE ?_|refine zP ?_|refine zS ?_|refine zO ?_|refine zB ?_|refine zX ?_|refine zT ?_|refine skipI rfl ?_)
  refine zR ?_
  repeat' (first|with_reducible refine pN ?_|refine pD ?_|fail)
  repeat with_reducible refine cN ?_
  refine renameB 100000 3000 rfl ?_
  refine tidyI [(1,.junk)] [] rfl rfl ?_ ?_
  · repeat' (first|exact trivial|exact rfl|refine ⟨rfl,?_⟩|refine And.intro ?_ ?_)
  repeat' (first|with_reducible (first|apply pN|apply cN|apply bN|apply cE|apply cR|apply bR|apply lE|apply lR|apply jE|apply jR)|refine zE ?_|refine zP ?_|refine pD ?_|refine zS ?_|refine zR ?_|refine zO ?_|refine zB ?_|refine zX ?_|refine zT ?_|refine skipI rfl ?_)
  refine rangeI (tInt) false (fun q=>[(2,.box [.own 55000]),(55000,.seq tInt q)]) (fun _=>none) (aftL bk nx) 6 rfl rfl rfl rfl rfl rfl rfl rfl rfl (fun _=>rfl) (fun _=>rfl) (fun _=>rfl) rfl rfl rfl ?_ ?_ ?_ ?_ ?_ ?_
  · exact ⟨rfl,rfl,rfl,by repeat' (first|exact trivial|exact rfl|refine And.intro ?_ ?_),by repeat' (first|exact trivial|exact rfl|refine And.intro ?_ ?_),rfl,rfl,rfl⟩
  · repeat' (first|exact trivial|exact rfl|refine ⟨rfl,?_⟩|refine And.intro ?_ ?_)
  · rfl
  · intro J
    exact ⟨_,_,rfl,fun h=>h,rfl,rfl⟩
  · intro l q x hq hjq hok
    refine ⟨_,rfl,?_⟩
    have hl:=Nat.le_trans (List.IsPrefix.length_le hq) aftL_len
    rw [List.length_append,List.length_singleton] at hl
    repeat' (first|with_reducible (first|apply pN|apply cN|apply bN|apply cE|apply cR|apply bR|apply lE|apply lR|apply jE|apply jR)|refine zE ?_|refine zP ?_|refine pD ?_|refine zS ?_|refine zR ?_|refine zO ?_|refine zB ?_|refine zX ?_|refine zT ?_|refine skipI rfl ?_)
    refine asN ?_
    repeat' (first|with_reducible (first|apply pN|apply cN|apply bN|apply cE|apply cR|apply bR|apply lE|apply lR|apply jE|apply jR)|refine zE ?_|refine zP ?_|refine pD ?_|refine pC (by first|omega|(show List.length _+_≤_;simp;omega)) ?_|refine zS ?_|refine zR ?_|refine zO ?_|refine zB ?_|refine zX ?_|refine zT ?_|refine skipI rfl ?_)
    refine yN rfl rfl ?_
    repeat' (first|exact trivial|exact rfl|refine ⟨rfl,?_⟩|refine And.intro ?_ ?_)
  · rw [cut_none]
    repeat' (first|with_reducible (first|apply pN|apply cN|apply bN|apply cE|apply cR|apply bR|apply lE|apply lR|apply jE|apply jR)|refine zE ?_|refine zP ?_|refine pD ?_|refine zS ?_|refine zR ?_|refine zO ?_|refine zB ?_|refine zX ?_|refine zT ?_|refine skipI rfl ?_)
    refine endR rfl ?_
    repeat' (first|exact trivial|exact rfl|refine ⟨rfl,?_⟩|refine And.intro ?_ ?_)
def collS:Spec:=⟨true,fun args rows=>match args,rows with
  | [.fn 61 [] [.ptr 0 0]],[.box [.int .i64 rc,.sl (.int .i64) tl,.int .i64 mn,.int .i64 mx,.sl (.int .i64) nx,.int .i64 bk,.int .i64 lm]] =>
    some ⟨nx.length≤4,.own 1,[.dead,.seq tInt (aftL bk nx)],true⟩
  | _,_=>none⟩
def sigCl:List (Nat × Spec):=[(60,apSeqS)]
theorem sigClOk:SigOk Try.prog (look sigCl):=sigCons sigNil Try.func60 (by kernel_rfl) (c:=body Try.f60) rfl apSeqOk
theorem collOk:SpecSound Try.prog 37 collS:=by
  refine soundR (envOf sigClOk) Try.func37 (c:=body Try.f37) rfl (by kernel_rfl) rfl ?_
  intro args rows out hf hpre
  split at hf <;> try (cases hf;done)
  rename_i rc tl mn mx nx bk lm
  cases hf
  refine ⟨Nat.le_of_ble_eq_true rfl,initI (args:=[.fn 61 [] [.ptr 0 0]]) (rows:=[.box [.int .i64 rc,.sl tInt tl,.int .i64 mn,.int .i64 mx,.sl tInt nx,.int .i64 bk,.int .i64 lm]]) rfl ?_⟩
  have hnx:List.length (α:=Int) nx≤4:=hpre
  repeat' (first|with_reducible (first|apply pN|apply cN|apply bN|apply cE|apply cR|apply bR|apply lE|apply lR|apply jE|apply jR)|refine zE ?_|refine zP ?_|refine pD ?_|refine zS ?_|refine zR ?_|refine zO ?_|refine zB ?_|refine zX ?_|refine zT ?_|refine skipI rfl ?_)
  refine endR rfl ?_
  repeat' (first|exact trivial|exact rfl|refine ⟨rfl,?_⟩|refine And.intro ?_ ?_)
def followF (mn mx:Int) (ss:List StepT) (ws:List WinT) (s:Int):List Int:=bif givF mn mx ss ws [s] then afterL (getI ss tStep.dflt s.toNat) else []
def followS:Spec:=plain fun
  | [.agg [.int .i64 mn,.int .i64 mx,.sl (.pair (.int .i64) (.pair (.slice (.int .i64)) (.pair (.int .i64) (.pair (.int .i64) (.pair (.slice (.int .i64)) (.pair (.int .i64) (.int .i64))))))) ss,.sl (.pair (.int .i64) (.pair (.int .i64) (.int .i64))) ws],.int .i64 s] =>
    some ⟨True,.own 0,[.seq tInt (followF mn mx ss ws s)],false⟩
  | _=>none
def sigFw:List (Nat × Spec):=[(36,givS),(38,aftS),(37,collS)]
theorem sigFwOk:SigOk Try.prog (look sigFw):=sigCons (sigCons (sigCons sigNil
  Try.func37 (by kernel_rfl) (c:=body Try.f37) rfl collOk)
  Try.func38 (by kernel_rfl) (c:=body Try.f38) rfl aftOk)
  Try.func36 (by kernel_rfl) (c:=body Try.f36) rfl givOk
theorem giv1_facts {mn mx:Int} {ss:List StepT} {ws:List WinT} {a:Int} (h:givF mn mx ss ws [a]=true):validF mn mx ss ws=true∧0≤a∧a < ss.length:=by
  unfold givF at h
  rw [Bool.and_eq_true,Bool.not_eq_true',List.any_eq_false] at h
  have h1:=h.2 a (by simp)
  unfold badN at h1
  simp only [Bool.or_eq_true,decide_eq_true_eq,not_or] at h1
  exact ⟨h.1,by omega,by omega⟩
theorem followOk:SpecSound Try.prog 22 followS:=by
  refine soundP (envOf sigFwOk) Try.func22 (c:=body Try.f22) rfl (by kernel_rfl) rfl ?_
  intro args out hf hpre
  split at hf <;> try (cases hf;done)
  rename_i mn mx ss ws s
  cases hf
  refine ⟨Nat.le_of_ble_eq_true rfl,initI (args:=[.agg [.int .i64 mn,.int .i64 mx,.sl tStep ss,.sl tWin ws],.int .i64 s]) rfl ?_⟩
  obtain ⟨r,hr⟩:∃ r,r=followF mn mx ss ws s:=⟨_,rfl⟩
  rw [← hr]
  unfold followF at hr
  repeat' (first|with_reducible (first|apply pN|apply cN|apply bN|apply cE|apply cR|apply bR|apply lE|apply lR|apply jE|apply jR)|refine zE ?_|refine zP ?_|refine pD ?_|refine zS ?_|refine zR ?_|refine zO ?_|refine zB ?_|refine zX ?_|refine zT ?_|refine skipI rfl ?_)
  refine condI rfl (fun c1=>?_) (fun c1=>?_)
  · have c1:givF mn mx ss ws [s]=false:=by simpa using c1
    rw [c1] at hr
    rw [show r=[] from hr]
    repeat' (first|with_reducible (first|apply pN|apply cN|apply bN|apply cE|apply cR|apply bR|apply lE|apply lR|apply jE|apply jR)|refine zE ?_|refine zP ?_|refine pD ?_|refine zS ?_|refine zR ?_|refine zO ?_|refine zB ?_|refine zX ?_|refine zT ?_|refine skipI rfl ?_)
    refine endR rfl ?_
    repeat' (first|exact trivial|exact rfl|refine ⟨rfl,?_⟩|refine And.intro ?_ ?_)
  · have c1:givF mn mx ss ws [s]=true:=by simpa using c1
    rw [c1] at hr
    have hr:r=afterL (getI ss tStep.dflt s.toNat):=hr
    obtain ⟨hv,h0,h1⟩:=giv1_facts c1
    have hnl:=((flow_sm hv).st _ (fl_mem (d:=tStep.dflt) (show s.toNat < ss.length by omega))).nl
    have hnl:(getI ss tStep.dflt s.toNat).2.2.2.2.1.length≤4:=hnl
    rw [hr]
    repeat' (first|with_reducible (first|apply pN|apply cN|apply bN|apply cE|apply cR|apply bR|apply lE|apply lR|apply jE|apply jR)|refine zE ?_|refine zP ?_|refine pD ?_|refine pC (by first|omega|exact hnl) ?_|refine zS ?_|refine zR ?_|refine zO ?_|refine zB ?_|refine zX ?_|refine zT ?_|refine skipI rfl ?_)
    refine endR rfl ?_
    repeat' (first|exact trivial|exact rfl|refine ⟨rfl,?_⟩|refine And.intro ?_ ?_)
def tA (mo:List Int) (i:Nat):Int × Int:=bif decide (2 * (i:Int)+1 < (mo.length:Int)) then (pickF (getI mo 0 (2 * (i:Int)).toNat) 30,pickF (getI mo 0 (2 * (i:Int)+1).toNat) 30) else (0,0)
def tmE (mn:Int) (ss:List StepT) (l mo:List Int):Nat→Int
  | 0=>0
  | i+1=>(bif decide ((i:Int) > 0) then tmE mn ss l mo i+mn+(tA mo i).1 else tmE mn ss l mo i)+stMn (stp ss (getI l 0 i).toNat)+(tA mo i).2
def tmB (mn:Int) (ss:List StepT) (l mo:List Int) (i:Nat):Int:=bif decide ((i:Int) > 0) then tmE mn ss l mo i+mn+(tA mo i).1 else tmE mn ss l mo i
theorem tmE_succ {mn:Int} {ss:List StepT} {l mo:List Int} {i:Nat}:tmE mn ss l mo (i+1)=tmB mn ss l mo i+stMn (stp ss (getI l 0 i).toNat)+(tA mo i).2:=rfl
def timA (mn:Int) (ss:List StepT) (l mo:List Int) (i:Nat):VisT:=(getI l 0 i,0,tmB mn ss l mo i,tmE mn ss l mo (i+1))
def timV (mn:Int) (ss:List StepT) (l mo:List Int):List VisT:=(List.range l.length).map (timA mn ss l mo)
theorem tA_b {mo:List Int} {i:Nat}:(0≤(tA mo i).1∧(tA mo i).1 < 30)∧0≤(tA mo i).2∧(tA mo i).2 < 30:=by
  unfold tA
  cases decide (2 * (i:Int)+1 < (mo.length:Int))
  · exact ⟨⟨Int.le_refl _,by show (0:Int) < 30;omega⟩,Int.le_refl _,by show (0:Int) < 30;omega⟩
  · exact ⟨pick_b (by omega),pick_b (by omega)⟩
theorem tm_b {mn mx:Int} {ss:List StepT} {ws:List WinT} (F:FlowSm mn mx ss ws) {l mo:List Int} (hl:∀ s∈l,0≤s∧s < (ss.length:Int)):∀ {i:Nat},i≤l.length→0≤tmE mn ss l mo i∧tmE mn ss l mo i≤20060 * (i:Int)
  | 0,_=>⟨Int.le_refl _,Int.le_refl _⟩
  | i+1,hi=>by
    have ih:=tm_b F hl (mo:=mo) (i:=i) (by omega)
    have ht:=tA_b (mo:=mo) (i:=i)
    have hs:=hl _ (fl_mem (d:=(0:Int)) (show i < l.length by omega))
    have hst:=F.st _ (fl_mem (d:=tStep.dflt) (show (getI l 0 i).toNat < ss.length by omega))
    have h1:1≤stMn (stp ss (getI l 0 i).toNat):=hst.mn
    have h2:stMn (stp ss (getI l 0 i).toNat)≤10000:=Int.le_trans hst.mm hst.mx
    have h3:=F.mn0
    have h4:=F.mm
    have h5:=F.mx1
    unfold tmE
    cases decide ((i:Int) > 0)
    · show 0≤tmE mn ss l mo i+_+_∧tmE mn ss l mo i+_+_≤_
      omega
    · show 0≤tmE mn ss l mo i+mn+(tA mo i).1+_+_∧tmE mn ss l mo i+mn+(tA mo i).1+_+_≤_
      omega
def timVS:Spec:=plain fun
  | [.agg [.int .i64 mn,.int .i64 mx,.sl (.pair (.int .i64) (.pair (.slice (.int .i64)) (.pair (.int .i64) (.pair (.int .i64) (.pair (.slice (.int .i64)) (.pair (.int .i64) (.int .i64))))))) ss,.sl (.pair (.int .i64) (.pair (.int .i64) (.int .i64))) ws],.sl (.int .i64) l,.sl (.int .i64) mo] =>
    some ⟨(validF mn mx ss ws=true∧∀ s∈l,0≤s∧s < (ss.length:Int))∧l.length≤49,.own 0,[.seq tVis (timV mn ss l mo)],false⟩
  | _=>none
theorem timVOk:SpecSound Try.prog 23 timVS:=by
  refine soundP (envOf sigViOk) Try.func23 (c:=body Try.f23) rfl (by kernel_rfl) rfl ?_
  intro args out hf hpre
  split at hf <;> try (cases hf;done)
  rename_i mn mx ss ws l mo
  cases hf
  refine ⟨Nat.le_of_ble_eq_true rfl,initI (args:=[.agg [.int .i64 mn,.int .i64 mx,.sl tStep ss,.sl tWin ws],.sl tInt l,.sl tInt mo]) rfl ?_⟩
  obtain ⟨⟨hv,hin⟩,hll⟩:(validF mn mx ss ws=true∧∀ s∈l,0≤s∧s < (ss.length:Int))∧List.length (α:=Int) l≤49:=hpre
  have F:=flow_sm hv
  repeat' (first|with_reducible (first|apply pN|apply cN|apply bN|apply cE|apply cR|apply bR|apply lE|apply lR|apply jE|apply jR)|refine zE ?_|refine zP ?_|refine pD ?_|refine zS ?_|refine zR ?_|refine zO ?_|refine zB ?_|refine zX ?_|refine zT ?_|refine skipI rfl ?_)
  refine loopI (σ:=Nat) (fun i=>[(7,.own 3000),(8,.int .i64 (tmE mn ss l mo i)),(9,.int .i64 i)]) (fun i=>[(3000,.seq tVis ((List.range i).map (timA mn ss l mo)))]) (fun i=>i≤List.length (α:=Int) l) (fun i=>List.length (α:=Int) l - i) 0 rfl (fun _=>rfl) rfl ?_ ?_ ?_
  · exact Nat.zero_le _
  · repeat' (first|exact trivial|with_reducible exact rfl|refine And.intro ?_ ?_)
    all_goals rfl
  intro i hi
  repeat' (first|with_reducible (first|apply pN|apply cN|apply bN|apply cE|apply cR|apply bR|apply lE|apply lR|apply jE|apply jR)|refine zE ?_|refine zP ?_|refine pD ?_|refine zS ?_|refine zR ?_|refine zO ?_|refine zB ?_|refine zX ?_|refine zT ?_|refine skipI rfl ?_)
  refine condI rfl (fun c1=>?_) (fun c1=>?_)
  · simp only [decide_eq_true_eq] at c1
    have hil:i < List.length (α:=Int) l:=by omega
    have hii:((i:Int)).toNat=i:=by omega
    have hb:=tm_b F hin (mo:=mo) hi
    have ht:=tA_b (mo:=mo) (i:=i)
    have hs:0≤getI (α:=Int) l 0 i∧getI (α:=Int) l 0 i < (List.length (α:=StepT) ss:Int):=hin _ (fl_mem (d:=(0:Int)) hil)
    have hst:=F.st _ (fl_mem (d:=tStep.dflt) (show (getI (α:=Int) l 0 i).toNat < List.length (α:=StepT) ss by omega))
    have h1:1≤stMn (stp ss (getI l 0 i).toNat):=hst.mn
    have h2:stMn (stp ss (getI l 0 i).toNat)≤10000:=Int.le_trans hst.mm hst.mx
    have h3:=F.mn0
    have h4:=F.mm
    have h5:=F.mx1
    have hs1:0≤getI l (Ty.dflt tInt) i:=hs.1
    have hs2:getI l (Ty.dflt tInt) i < (List.length (α:=StepT) ss:Int):=hs.2
    repeat' (first|with_reducible (first|apply pN|apply cN|apply bN|apply cE|apply cR|apply bR|apply lE|apply lR|apply jE|apply jR)|refine zE ?_|refine zP ?_|refine zS ?_|refine zO ?_|refine zB ?_|refine zX ?_|refine zT ?_|refine skipI rfl ?_)
    refine zR ?_
    repeat' (first|with_reducible refine pN ?_|refine pD ?_|fail)
    repeat with_reducible refine cN ?_
    repeat' (first|with_reducible (first|apply pN|apply cN|apply bN|apply cE|apply cR|apply bR|apply lE|apply lR|apply jE|apply jR)|refine zE ?_|refine zP ?_|refine zS ?_|refine zO ?_|refine zB ?_|refine zX ?_|refine zT ?_|refine skipI rfl ?_)
    refine zR ?_
    repeat' (first|with_reducible refine pN ?_|refine pD ?_|fail)
    repeat with_reducible refine cN ?_
    repeat' (first|with_reducible (first|apply pN|apply cN|apply bN|apply cE|apply cR|apply bR|apply lE|apply lR|apply jE|apply jR)|refine zE ?_|refine zP ?_|refine zS ?_|refine zO ?_|refine zB ?_|refine zX ?_|refine zT ?_|refine skipI rfl ?_)
    refine zR ?_
    repeat' (first|with_reducible refine pN ?_|refine pD ?_|refine pC (by (unfold In64;omega)) ?_)
    repeat with_reducible refine cN ?_
    refine joinC (fun z:Int × Int=>[(10,.int .i64 z.1),(11,.int .i64 z.2)]) (fun _=>[]) (fun z=>z=tA mo i) (fun _=>rfl) ?_ (fun z hz=>?_)
    · refine condI rfl (fun c2=>?_) (fun c2=>?_)
      · have c2:decide (2 * (i:Int)+1 < (List.length (α:=Int) mo:Int))=true:=c2
        have c3:=of_decide_eq_true c2
        repeat' (first|with_reducible (first|apply pN|apply cN|apply bN|apply cE|apply cR|apply bR|apply lE|apply lR|apply jE|apply jR)|refine zE ?_|refine zP ?_|refine pD ?_|refine zS ?_|refine zR ?_|refine zO ?_|refine zB ?_|refine zX ?_|refine zT ?_|refine skipI rfl ?_)
        refine meetI (tA mo i) rfl rfl ?_
        repeat' (first|exact trivial|with_reducible exact rfl|refine And.intro ?_ ?_)
        all_goals (first|rfl|(unfold tA;rw [c2];rfl))
      · have c2:decide (2 * (i:Int)+1 < (List.length (α:=Int) mo:Int))=false:=c2
        repeat' (first|with_reducible (first|apply pN|apply cN|apply bN|apply cE|apply cR|apply bR|apply lE|apply lR|apply jE|apply jR)|refine zE ?_|refine zP ?_|refine pD ?_|refine zS ?_|refine zR ?_|refine zO ?_|refine zB ?_|refine zX ?_|refine zT ?_|refine skipI rfl ?_)
        refine meetI (tA mo i) rfl rfl ?_
        repeat' (first|exact trivial|with_reducible exact rfl|refine And.intro ?_ ?_)
        all_goals (first|rfl|(unfold tA;rw [c2];rfl))
    rw [← hz] at ht
    repeat' (first|with_reducible (first|apply pN|apply cN|apply bN|apply cE|apply cR|apply bR|apply lE|apply lR|apply jE|apply jR)|refine zE ?_|refine zP ?_|refine pD ?_|refine zS ?_|refine zR ?_|refine zO ?_|refine zB ?_|refine zX ?_|refine zT ?_|refine skipI rfl ?_)
    refine joinC (fun z:Int=>[(8,.int .i64 z)]) (fun _=>[]) (fun z=>z=tmB mn ss l mo i) (fun _=>rfl) ?_ (fun b hb2=>?_)
    · refine condI rfl (fun c3=>?_) (fun c3=>?_)
      · have c3:decide ((i:Int) > 0)=true:=c3
        repeat' (first|with_reducible (first|apply pN|apply cN|apply bN|apply cE|apply cR|apply bR|apply lE|apply lR|apply jE|apply jR)|refine zE ?_|refine zP ?_|refine pD ?_|refine pC (by (unfold In64;omega)) ?_|refine zS ?_|refine zR ?_|refine zO ?_|refine zB ?_|refine zX ?_|refine zT ?_|refine skipI rfl ?_)
        refine meetI (tmB mn ss l mo i) rfl rfl ?_
        repeat' (first|exact trivial|with_reducible exact rfl|refine And.intro ?_ ?_)
        all_goals (first|rfl|(unfold tmB;rw [c3,hz];rfl))
      · have c3:decide ((i:Int) > 0)=false:=c3
        repeat' (first|with_reducible (first|apply pN|apply cN|apply bN|apply cE|apply cR|apply bR|apply lE|apply lR|apply jE|apply jR)|refine zE ?_|refine zP ?_|refine pD ?_|refine zS ?_|refine zR ?_|refine zO ?_|refine zB ?_|refine zX ?_|refine zT ?_|refine skipI rfl ?_)
        refine meetI (tmB mn ss l mo i) rfl rfl ?_
        repeat' (first|exact trivial|with_reducible exact rfl|refine And.intro ?_ ?_)
        all_goals (first|rfl|(unfold tmB;rw [c3];rfl))
    have hte:=tmE_succ (mn:=mn) (ss:=ss) (l:=l) (mo:=mo) (i:=i)
    have hbe:0≤b∧b≤tmE mn ss l mo i+mn+30:=by
      rw [hb2]
      unfold tmB
      rw [← hz]
      cases decide ((i:Int) > 0)
      · show 0≤tmE mn ss l mo i∧tmE mn ss l mo i≤_
        omega
      · show 0≤tmE mn ss l mo i+mn+z.1∧tmE mn ss l mo i+mn+z.1≤_
        omega
    have hsl:(List.map (timA mn ss l mo) (List.range i)).length=i:=by rw [List.length_map,List.length_range]
    have hq:stMn (stp ss (getI l 0 i).toNat)=(getI ss tStep.dflt (getI l (Ty.dflt tInt) i).toNat).2.2.1:=rfl
    rw [hq] at h1 h2 hte
    rw [← hb2,← hz] at hte
    repeat' (first|with_reducible (first|apply pN|apply cN|apply bN|apply cE|apply cR|apply bR|apply lE|apply lR|apply jE|apply jR)|refine zE ?_|refine zP ?_|refine zS ?_|refine zO ?_|refine zB ?_|refine zX ?_|refine zT ?_|refine skipI rfl ?_)
    refine zR ?_
    repeat' (first|with_reducible refine pN ?_|refine pD ?_|refine pC (by first|(first|omega|(simp only [hii];exact hs1)|(simp only [hii];exact hs2)|(simp only [hii];omega)|(simp only [hii];unfold In64;omega)|(unfold In64;omega))) ?_)
    repeat with_reducible refine cN ?_
    simp only [hii]
    repeat' (first|with_reducible (first|apply pN|apply cN|apply bN|apply cE|apply cR|apply bR|apply lE|apply lR|apply jE|apply jR)|refine zE ?_|refine zP ?_|refine pD ?_|refine pC (by first|omega|(unfold In64;omega)|(simp only [hsl,List.length_cons,List.length_nil];omega)) ?_|refine zS ?_|refine zR ?_|refine zO ?_|refine zB ?_|refine zX ?_|refine zT ?_|refine skipI rfl ?_)
    refine roundI (i+1) rfl ?_ ?_ ?_
    · show i+1≤List.length (α:=Int) l
      omega
    · show List.length (α:=Int) l - (i+1) < List.length (α:=Int) l - i
      omega
    · repeat' (first|exact trivial|with_reducible exact rfl|refine And.intro ?_ ?_)
      all_goals (first|rfl|exact hte|(rw [List.range_succ,List.map_append,List.map_cons];unfold timA;rw [hte,← hb2];rfl))
  · simp only [decide_eq_false_iff_not] at c1
    have e:i=List.length (α:=Int) l:=by omega
    repeat' (first|with_reducible (first|apply pN|apply cN|apply bN|apply cE|apply cR|apply bR|apply lE|apply lR|apply jE|apply jR)|refine zE ?_|refine zP ?_|refine pD ?_|refine zS ?_|refine zR ?_|refine zO ?_|refine zB ?_|refine zX ?_|refine zT ?_|refine skipI rfl ?_)
    refine endR rfl ?_
    repeat' (first|exact trivial|exact rfl|refine ⟨rfl,?_⟩|refine And.intro ?_ ?_)
    unfold timV
    rw [← e]
end Go.AM.Ytdohkcddjoammaa.Fl
