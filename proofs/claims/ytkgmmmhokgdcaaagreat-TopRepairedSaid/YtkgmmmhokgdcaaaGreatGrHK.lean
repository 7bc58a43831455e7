/- Package window: what is wrong with windows. -/
import Derived.Test.YtkgmmmhokgdcaaaGreatGrGK
set_option linter.all false
namespace Go.AM.YtkgmmmhokgdcaaaGreat.Fl
open Go.Proofs
set_option maxRecDepth 100000
set_option maxHeartbeats 4000000
def growS:Spec:=⟨true,fun args rows=>match args,rows with
  | [.nilsl,.int .i64 n],[]=>some ⟨0 < n∧n≤1000,.own 0,[.seq tInt []],true⟩
  | _,_=>none⟩
theorem growOk:SpecSound Tryz.prog 153 growS:=by
  refine soundR (envOf sigNil) Tryz.func153 (c:=body Tryz.f153) rfl (by kernel_rfl) rfl ?_
  intro args rows out hf hpre
  split at hf <;> try (cases hf;done)
  rename_i n
  cases hf
  refine ⟨Nat.le_of_ble_eq_true rfl,initI (args:=[.nilsl,.int .i64 n]) (rows:=[]) rfl ?_⟩
  obtain ⟨h0,h1⟩:=hpre
  repeat' (first|with_reducible (first|apply pN|apply cN|apply bN|apply cE|apply cR|apply bR|apply lE|apply lR|apply jE|apply jR)|refine bE rfl ?_|refine bP rfl ?_|refine pD ?_|refine pC (by (unfold In64;omega)) ?_|refine seqI rfl ?_|refine regI rfl ?_|refine scopeI rfl ?_|refine blockI rfl ?_|refine exitI rfl ?_|refine retI rfl ?_|refine skipI rfl ?_)
  refine condI rfl (fun c1=>?_) (fun c1=>?_)
  · simp only [decide_eq_true_eq] at c1
    exfalso
    omega
  repeat' (first|with_reducible (first|apply pN|apply cN|apply bN|apply cE|apply cR|apply bR|apply lE|apply lR|apply jE|apply jR)|refine bE rfl ?_|refine bP rfl ?_|refine pD ?_|refine pC (by (unfold In64;omega)) ?_|refine seqI rfl ?_|refine regI rfl ?_|refine scopeI rfl ?_|refine blockI rfl ?_|refine exitI rfl ?_|refine retI rfl ?_|refine skipI rfl ?_)
  refine condI rfl (fun c2=>?_) (fun c2=>?_)
  · repeat' (first|with_reducible (first|apply pN|apply cN|apply bN|apply cE|apply cR|apply bR|apply lE|apply lR|apply jE|apply jR)|refine bE rfl ?_|refine bP rfl ?_|refine pD ?_|refine pC (by (show Int.toNat _ * 8≤_;omega)) ?_|refine seqI rfl ?_|refine regI rfl ?_|refine scopeI rfl ?_|refine blockI rfl ?_|refine exitI rfl ?_|refine retI rfl ?_|refine skipI rfl ?_)
    refine endR rfl ?_
    repeat' (first|exact trivial|exact rfl|refine ⟨rfl,?_⟩|refine And.intro ?_ ?_)
  · simp only [decide_eq_false_iff_not] at c2
    exfalso
    omega
def catS:Spec:=plain fun
  | [.sl (.slice (.int .i64)) xss]=>some ⟨1≤xss.flatten.length∧xss.flatten.length≤1000,.own 0,[.seq tInt xss.flatten],false⟩
  | _=>none
def sigCat:List (Nat × Spec):=[(153,growS)]
theorem sigCatOk:SigOk Tryz.prog (look sigCat):=sigCons sigNil Tryz.func153 (by kernel_rfl) (c:=body Tryz.f153) rfl growOk
theorem flat_succ {xss:List (List Int)} {i:Nat} (hi:i < xss.length):(xss.take (i+1)).flatten=(xss.take i).flatten++getI xss [] i:=by
  rw [List.take_succ,List.flatten_append]
  congr 1
  simp [getI,List.getD,List.getElem?_eq_getElem hi]
theorem flat_le {xss:List (List Int)} (i:Nat):(xss.take i).flatten.length≤xss.flatten.length:=by
  conv=>rhs;rw [← List.take_append_drop i xss,List.flatten_append,List.length_append]
  omega
theorem catOk:SpecSound Tryz.prog 119 catS:=by
  refine soundP (envOf sigCatOk) Tryz.func119 (c:=body Tryz.f119) rfl (by kernel_rfl) rfl ?_
  intro args out hf hpre
  split at hf <;> try (cases hf;done)
  rename_i xss
  cases hf
  refine ⟨Nat.le_of_ble_eq_true rfl,initI (args:=[.sl (.slice tInt) xss]) rfl ?_⟩
  obtain ⟨h1,h2⟩:1≤(List.flatten (α:=Int) xss).length∧(List.flatten (α:=Int) xss).length≤1000:=hpre
  refine factSl (t:=0) (ty:=.slice tInt) rfl (fun hxs=>?_)
  have hmx:List.length (α:=List Int) xss≤9223372036854775807:=by have:=hxs.1;unfold maxLen at this;exact this
  repeat' (first|with_reducible (first|apply pN|apply cN|apply bN|apply cE|apply cR|apply bR|apply lE|apply lR|apply jE|apply jR)|refine bE rfl ?_|refine bP rfl ?_|refine pD ?_|refine seqI rfl ?_|refine regI rfl ?_|refine scopeI rfl ?_|refine blockI rfl ?_|refine exitI rfl ?_|refine retI rfl ?_|refine skipI rfl ?_)
  refine loopI (σ:=Nat) (fun i=>[(11,.int .i64 i),(3,.int .i64 (List.length (α:=Int) (List.flatten (List.take (α:=List Int) i xss)):Nat))]) (fun i=>[]) (fun i=>i≤List.length (α:=List Int) xss) (fun i=>List.length (α:=List Int) xss - i) 0 rfl (fun _=>rfl) rfl ?_ ?_ ?_
  · exact Nat.zero_le _
  · repeat' (first|exact trivial|exact rfl|refine ⟨rfl,?_⟩|refine And.intro ?_ ?_)
  intro i hi
  repeat' (first|with_reducible (first|apply pN|apply cN|apply bN|apply cE|apply cR|apply bR|apply lE|apply lR|apply jE|apply jR)|refine bE rfl ?_|refine bP rfl ?_|refine pD ?_|refine seqI rfl ?_|refine regI rfl ?_|refine scopeI rfl ?_|refine blockI rfl ?_|refine exitI rfl ?_|refine retI rfl ?_|refine skipI rfl ?_)
  refine condI rfl (fun c1=>?_) (fun c1=>?_)
  · simp only [decide_eq_true_eq] at c1
    have hil:i < List.length (α:=List Int) xss:=by omega
    have hin:((i:Int)).toNat=i:=by omega
    have hs:=flat_succ hil
    have hle:=flat_le (xss:=xss) (i+1)
    rw [hs,List.length_append] at hle
    have hlen:List.length (α:=Int) (getI xss ((Ty.slice tInt).dflt) i)=(getI xss [] i).length:=rfl
    repeat' (first|with_reducible (first|apply pN|apply cN|apply bN|apply cE|apply cR|apply bR|apply lE|apply lR|apply jE|apply jR)|refine bE rfl ?_|refine bP rfl ?_|refine pD ?_|refine pC (by (simp only [hin,hlen];unfold In64;omega)) ?_|refine seqI rfl ?_|refine regI rfl ?_|refine scopeI rfl ?_|refine blockI rfl ?_|refine exitI rfl ?_|refine retI rfl ?_|refine skipI rfl ?_)
    refine condI rfl (fun c2=>?_) (fun c2=>?_)
    · simp only [decide_eq_true_eq,hin,hlen] at c2
      exfalso
      omega
    repeat' (first|with_reducible (first|apply pN|apply cN|apply bN|apply cE|apply cR|apply bR|apply lE|apply lR|apply jE|apply jR)|refine bE rfl ?_|refine bP rfl ?_|refine pD ?_|refine seqI rfl ?_|refine regI rfl ?_|refine scopeI rfl ?_|refine blockI rfl ?_|refine exitI rfl ?_|refine retI rfl ?_|refine skipI rfl ?_)
    refine roundI (i+1) rfl ?_ ?_ ?_
    · show i+1≤List.length (α:=List Int) xss
      omega
    · show List.length (α:=List Int) xss - (i+1) < List.length (α:=List Int) xss - i
      omega
    · repeat' (first|exact trivial|with_reducible exact rfl|refine And.intro ?_ ?_)
      all_goals (try rfl)
      simp only [hin,hlen]
      rw [hs,List.length_append]
      omega
  · simp only [decide_eq_false_iff_not] at c1
    obtain rfl:i=List.length (α:=List Int) xss:=by omega
    have htk:List.take (α:=List Int) (List.length (α:=List Int) xss) xss=xss:=List.take_length
    rw [htk]
    repeat' (first|with_reducible (first|apply pN|apply cN|apply bN|apply cE|apply cR|apply bR|apply lE|apply lR|apply jE|apply jR)|refine bE rfl ?_|refine bP rfl ?_|refine pD ?_|refine pC (by (show (0:Int) < _∧_≤_;omega)) ?_|refine seqI rfl ?_|refine regI rfl ?_|refine scopeI rfl ?_|refine blockI rfl ?_|refine exitI rfl ?_|refine retI rfl ?_|refine skipI rfl ?_)
    refine loopI (σ:=Nat) (fun i=>[(27,.int .i64 i),(6,.own 24000)]) (fun i=>[(24000,.seq tInt (List.flatten (List.take (α:=List Int) i xss)))]) (fun i=>i≤List.length (α:=List Int) xss) (fun i=>List.length (α:=List Int) xss - i) 0 rfl (fun _=>rfl) rfl ?_ ?_ ?_
    · exact Nat.zero_le _
    · repeat' (first|exact trivial|exact rfl|refine ⟨rfl,?_⟩|refine And.intro ?_ ?_)
    intro i hi
    repeat' (first|with_reducible (first|apply pN|apply cN|apply bN|apply cE|apply cR|apply bR|apply lE|apply lR|apply jE|apply jR)|refine bE rfl ?_|refine bP rfl ?_|refine pD ?_|refine seqI rfl ?_|refine regI rfl ?_|refine scopeI rfl ?_|refine blockI rfl ?_|refine exitI rfl ?_|refine retI rfl ?_|refine skipI rfl ?_)
    refine condI rfl (fun c1=>?_) (fun c1=>?_)
    · simp only [decide_eq_true_eq] at c1
      have hil:i < List.length (α:=List Int) xss:=by omega
      have hin:((i:Int)).toNat=i:=by omega
      have hs:=flat_succ hil
      have hle:=flat_le (xss:=xss) (i+1)
      rw [hs,List.length_append] at hle
      have hlen:List.length (α:=Int) (getI xss ((Ty.slice tInt).dflt) i)=(getI xss [] i).length:=rfl
      repeat' (first|with_reducible (first|apply pN|apply cN|apply bN|apply cE|apply cR|apply bR|apply lE|apply lR|apply jE|apply jR)|refine bE rfl ?_|refine bP rfl ?_|refine pD ?_|refine pC (by first|(simp only [hin,hlen];first|omega|(unfold In64;omega))) ?_|refine seqI rfl ?_|refine regI rfl ?_|refine scopeI rfl ?_|refine blockI rfl ?_|refine exitI rfl ?_|refine retI rfl ?_|refine skipI rfl ?_)
      refine roundI (i+1) rfl ?_ ?_ ?_
      · show i+1≤List.length (α:=List Int) xss
        omega
      · show List.length (α:=List Int) xss - (i+1) < List.length (α:=List Int) xss - i
        omega
      · repeat' (first|exact trivial|with_reducible exact rfl|refine And.intro ?_ ?_)
        all_goals (try rfl)
        all_goals (simp only [hin];rw [hs];rfl)
    · simp only [decide_eq_false_iff_not] at c1
      obtain rfl:i=List.length (α:=List Int) xss:=by omega
      rw [htk]
      repeat' (first|with_reducible (first|apply pN|apply cN|apply bN|apply cE|apply cR|apply bR|apply lE|apply lR|apply jE|apply jR)|refine bE rfl ?_|refine bP rfl ?_|refine pD ?_|refine seqI rfl ?_|refine regI rfl ?_|refine scopeI rfl ?_|refine blockI rfl ?_|refine exitI rfl ?_|refine retI rfl ?_|refine skipI rfl ?_)
      refine endR rfl ?_
      repeat' (first|exact trivial|exact rfl|refine ⟨rfl,?_⟩|refine And.intro ?_ ?_)
def probF (mn mx:Int) (ss:List StepT) (ws:List WinT) (w:WinT):(Int × List Int) × Bool :=
  match wayGet mn mx ss ws w.1 w.2.1 with
  | none=>((4,[w.1,w.2.1]),true)
  | some v=>bif decide (w.2.2 < v.1) then ((3,w.1::(v.2++[w.2.1])),true) else ((0,[]),false)
theorem get_len {mn mx:Int} {ss:List StepT} {ws:List WinT} {a b:Int} {v:WayT} (h:wayGet mn mx ss ws a b=some v):v.2.length≤41:=by
  unfold wayGet at h
  cases hg:givF mn mx ss ws [a,b]
  · rw [hg] at h;cases h
  · rw [hg] at h
    have h:getI (waysF mn ss a) none b.toNat=some v:=h
    have:=(getD_ok (waysF_ok (flow_sm (giv_facts hg).1) a).2 b.toNat).2
    rw [h] at this
    exact this
def probS:Spec:=⟨true,fun args rows=>match args,rows with
  | [.agg [.int .i64 mn,.int .i64 mx,.sl (.pair (.int .i64) (.pair (.slice (.int .i64)) (.pair (.int .i64) (.pair (.int .i64) (.pair (.slice (.int .i64)) (.pair (.int .i64) (.int .i64))))))) ss,.sl (.pair (.int .i64) (.pair (.int .i64) (.int .i64))) ws],.agg [.int .i64 a,.int .i64 b,.int .i64 l]],[] =>
    some ⟨True,.tup [.agg [.int .i64 (probF mn mx ss ws (a,b,l)).1.1,.sl tInt (probF mn mx ss ws (a,b,l)).1.2],.bool (probF mn mx ss ws (a,b,l)).2],[],true⟩
  | _,_=>none⟩
def sigProb:List (Nat × Spec):=[(117,wayS),(118,quickS),(119,catS)]
theorem sigProbOk:SigOk Tryz.prog (look sigProb):=sigCons (sigCons (sigCons sigNil
  Tryz.func119 (by kernel_rfl) (c:=body Tryz.f119) rfl catOk)
  Tryz.func118 (by kernel_rfl) (c:=body Tryz.f118) rfl quickOk)
  Tryz.func117 (by kernel_rfl) (c:=body Tryz.f117) rfl wayOk'
theorem probOk:SpecSound Tryz.prog 63 probS:=by
  refine soundR (envOf sigProbOk) Tryz.func63 (c:=body Tryz.f63) rfl (by kernel_rfl) rfl ?_
  intro args rows out hf hpre
  split at hf <;> try (cases hf;done)
  rename_i mn mx ss ws a b l
  cases hf
  refine ⟨Nat.le_of_ble_eq_true rfl,initI (args:=[.agg [.int .i64 mn,.int .i64 mx,.sl tStep ss,.sl tWin ws],.agg [.int .i64 a,.int .i64 b,.int .i64 l]]) (rows:=[]) rfl ?_⟩
  obtain ⟨r,hr⟩:∃ r,r=probF mn mx ss ws (a,b,l):=⟨_,rfl⟩
  rw [← hr]
  unfold probF at hr
  dsimp only at hr
  repeat' (first|with_reducible (first|apply pN|apply cN|apply bN|apply cE|apply cR|apply bR|apply lE|apply lR|apply jE|apply jR)|refine bE rfl ?_|refine bP rfl ?_|refine pD ?_|refine seqI rfl ?_|refine regI rfl ?_|refine scopeI rfl ?_|refine blockI rfl ?_|refine exitI rfl ?_|refine retI rfl ?_|refine skipI rfl ?_)
  refine condI rfl (fun c1=>?_) (fun c1=>?_)
  · cases hg:wayGet mn mx ss ws a b with
    | some v=>rw [hg] at c1;cases c1
    | none =>
      rw [hg] at hr
      rw [hr]
      repeat' (first|with_reducible (first|apply pN|apply cN|apply bN|apply cE|apply cR|apply bR|apply lE|apply lR|apply jE|apply jR)|refine bE rfl ?_|refine bP rfl ?_|refine seqI rfl ?_|refine scopeI rfl ?_|refine blockI rfl ?_|refine exitI rfl ?_|refine retI rfl ?_|refine skipI rfl ?_)
      refine regI rfl ?_
      repeat' (first|with_reducible refine pN ?_|refine pD ?_)
      repeat with_reducible refine cN ?_
      refine freezeI 25 rfl ?_
      repeat' (first|with_reducible (first|apply pN|apply cN|apply bN|apply cE|apply cR|apply bR|apply lE|apply lR|apply jE|apply jR)|refine bE rfl ?_|refine bP rfl ?_|refine pD ?_|refine seqI rfl ?_|refine regI rfl ?_|refine scopeI rfl ?_|refine blockI rfl ?_|refine exitI rfl ?_|refine retI rfl ?_|refine skipI rfl ?_)
      refine endR rfl ?_
      repeat' (first|exact trivial|exact rfl|refine ⟨rfl,?_⟩|refine And.intro ?_ ?_)
  · cases hg:wayGet mn mx ss ws a b with
    | none=>rw [hg] at c1;cases c1
    | some v =>
      rw [hg] at hr
      have hl:=get_len hg
      repeat' (first|with_reducible (first|apply pN|apply cN|apply bN|apply cE|apply cR|apply bR|apply lE|apply lR|apply jE|apply jR)|refine bE rfl ?_|refine bP rfl ?_|refine pD ?_|refine seqI rfl ?_|refine regI rfl ?_|refine scopeI rfl ?_|refine blockI rfl ?_|refine exitI rfl ?_|refine retI rfl ?_|refine skipI rfl ?_)
      simp only [hg]
      refine condI rfl (fun c2=>?_) (fun c2=>?_)
      · have c2:decide (l < v.1)=true:=c2
        have hr:r=bif decide (l < v.1) then ((3,a::(v.2++[b])),true) else ((0,[]),false):=hr
        rw [c2] at hr
        rw [hr]
        repeat' (first|with_reducible (first|apply pN|apply cN|apply bN|apply cE|apply cR|apply bR|apply lE|apply lR|apply jE|apply jR)|refine bE rfl ?_|refine bP rfl ?_|refine seqI rfl ?_|refine scopeI rfl ?_|refine blockI rfl ?_|refine exitI rfl ?_|refine retI rfl ?_|refine skipI rfl ?_)
        refine regI rfl ?_
        repeat' (first|with_reducible refine pN ?_|refine pD ?_|refine pC (by (show 1≤List.length _∧List.length _≤_;simp;omega)) ?_)
        repeat with_reducible refine cN ?_
        refine freezeI 48 rfl ?_
        repeat' (first|with_reducible (first|apply pN|apply cN|apply bN|apply cE|apply cR|apply bR|apply lE|apply lR|apply jE|apply jR)|refine bE rfl ?_|refine bP rfl ?_|refine pD ?_|refine seqI rfl ?_|refine regI rfl ?_|refine scopeI rfl ?_|refine blockI rfl ?_|refine exitI rfl ?_|refine retI rfl ?_|refine skipI rfl ?_)
        refine endR rfl ?_
        repeat' (first|exact trivial|exact rfl|refine ⟨rfl,?_⟩|refine And.intro ?_ ?_)
      · have c2:decide (l < v.1)=false:=c2
        have hr:r=bif decide (l < v.1) then ((3,a::(v.2++[b])),true) else ((0,[]),false):=hr
        rw [c2] at hr
        rw [hr]
        repeat' (first|with_reducible (first|apply pN|apply cN|apply bN|apply cE|apply cR|apply bR|apply lE|apply lR|apply jE|apply jR)|refine bE rfl ?_|refine bP rfl ?_|refine pD ?_|refine seqI rfl ?_|refine regI rfl ?_|refine scopeI rfl ?_|refine blockI rfl ?_|refine exitI rfl ?_|refine retI rfl ?_|refine skipI rfl ?_)
        refine endR rfl ?_
        repeat' (first|exact trivial|exact rfl|refine ⟨rfl,?_⟩|refine And.intro ?_ ?_)
def checkW (mn mx:Int) (ss:List StepT) (ws:List WinT):List WinT→Int × List Int
  | []=>(0,[])
  | w::r=>bif (probF mn mx ss ws w).2 then (probF mn mx ss ws w).1 else checkW mn mx ss ws r
def checkF (mn mx:Int) (ss:List StepT) (ws:List WinT):Int × List Int:=bif validF mn mx ss ws then checkW mn mx ss ws ws else (0,[])
def wcheckS:Spec:=⟨true,fun args rows=>match args,rows with
  | [.agg [.int .i64 mn,.int .i64 mx,.sl (.pair (.int .i64) (.pair (.slice (.int .i64)) (.pair (.int .i64) (.pair (.int .i64) (.pair (.slice (.int .i64)) (.pair (.int .i64) (.int .i64))))))) ss,.sl (.pair (.int .i64) (.pair (.int .i64) (.int .i64))) ws]],[] =>
    some ⟨True,.agg [.int .i64 (checkF mn mx ss ws).1,.sl tInt (checkF mn mx ss ws).2],[],true⟩
  | _,_=>none⟩
def sigWc:List (Nat × Spec):=[(62,fvalidS),(63,probS)]
theorem sigWcOk:SigOk Tryz.prog (look sigWc):=sigCons (sigCons sigNil
  Tryz.func63 (by kernel_rfl) (c:=body Tryz.f63) rfl probOk)
  Tryz.func62 (by kernel_rfl) (c:=body Tryz.f62) rfl fvalidOk
theorem wcheckOk:SpecSound Tryz.prog 30 wcheckS:=by
  refine soundR (envOf sigWcOk) Tryz.func30 (c:=body Tryz.f30) rfl (by kernel_rfl) rfl ?_
  intro args rows out hf hpre
  split at hf <;> try (cases hf;done)
  rename_i mn mx ss ws
  cases hf
  refine ⟨Nat.le_of_ble_eq_true rfl,initI (args:=[.agg [.int .i64 mn,.int .i64 mx,.sl tStep ss,.sl tWin ws]]) (rows:=[]) rfl ?_⟩
  obtain ⟨r,hr⟩:∃ r,r=checkF mn mx ss ws:=⟨_,rfl⟩
  rw [← hr]
  unfold checkF at hr
  repeat' (first|with_reducible (first|apply pN|apply cN|apply bN|apply cE|apply cR|apply bR|apply lE|apply lR|apply jE|apply jR)|refine bE rfl ?_|refine bP rfl ?_|refine pD ?_|refine seqI rfl ?_|refine regI rfl ?_|refine scopeI rfl ?_|refine blockI rfl ?_|refine exitI rfl ?_|refine retI rfl ?_|refine skipI rfl ?_)
  refine condI rfl (fun c1=>?_) (fun c1=>?_)
  · have c1:validF mn mx ss ws=false:=by simpa using c1
    rw [c1] at hr
    rw [show r=(0,[]) from hr]
    repeat' (first|with_reducible (first|apply pN|apply cN|apply bN|apply cE|apply cR|apply bR|apply lE|apply lR|apply jE|apply jR)|refine bE rfl ?_|refine bP rfl ?_|refine pD ?_|refine seqI rfl ?_|refine regI rfl ?_|refine scopeI rfl ?_|refine blockI rfl ?_|refine exitI rfl ?_|refine retI rfl ?_|refine skipI rfl ?_)
    refine endR rfl ?_
    repeat' (first|exact trivial|exact rfl|refine ⟨rfl,?_⟩|refine And.intro ?_ ?_)
  have c1:validF mn mx ss ws=true:=by simpa using c1
  rw [c1] at hr
  have hr:r=checkW mn mx ss ws ws:=hr
  have hwl:=(flow_sm c1).wl
  repeat' (first|with_reducible (first|apply pN|apply cN|apply bN|apply cE|apply cR|apply bR|apply lE|apply lR|apply jE|apply jR)|refine bE rfl ?_|refine bP rfl ?_|refine pD ?_|refine seqI rfl ?_|refine regI rfl ?_|refine scopeI rfl ?_|refine blockI rfl ?_|refine exitI rfl ?_|refine retI rfl ?_|refine skipI rfl ?_)
  refine loopI (σ:=Nat) (fun i=>[(14,.int .i64 i)]) (fun i=>[]) (fun i=>i≤ws.length∧r=checkW mn mx ss ws (ws.drop i)) (fun i=>ws.length - i) 0 rfl (fun _=>rfl) rfl ?_ ?_ ?_
  · exact ⟨Nat.zero_le _,hr⟩
  · repeat' (first|exact trivial|exact rfl|refine ⟨rfl,?_⟩|refine And.intro ?_ ?_)
  rintro i ⟨hi,hq⟩
  repeat' (first|with_reducible (first|apply pN|apply cN|apply bN|apply cE|apply cR|apply bR|apply lE|apply lR|apply jE|apply jR)|refine bE rfl ?_|refine bP rfl ?_|refine pD ?_|refine seqI rfl ?_|refine regI rfl ?_|refine scopeI rfl ?_|refine blockI rfl ?_|refine exitI rfl ?_|refine retI rfl ?_|refine skipI rfl ?_)
  refine condI rfl (fun c3=>?_) (fun c3=>?_)
  · simp only [decide_eq_true_eq] at c3
    have hil:i < ws.length:=by omega
    have hin:((i:Int)).toNat=i:=by omega
    rw [show ws.drop i=getI ws tWin.dflt i::ws.drop (i+1) by rw [List.drop_eq_getElem_cons hil];simp [getI,List.getD,List.getElem?_eq_getElem hil]] at hq
    unfold checkW at hq
    repeat' (first|with_reducible (first|apply pN|apply cN|apply bN|apply cE|apply cR|apply bR|apply lE|apply lR|apply jE|apply jR)|refine bE rfl ?_|refine bP rfl ?_|refine pD ?_|refine seqI rfl ?_|refine regI rfl ?_|refine scopeI rfl ?_|refine blockI rfl ?_|refine exitI rfl ?_|refine retI rfl ?_|refine skipI rfl ?_)
    refine condI rfl (fun c4=>?_) (fun c4=>?_)
    · have h9:(probF mn mx ss ws (getI ws tWin.dflt i)).2=true:=by simp only [hin] at c4;exact c4
      rw [h9] at hq
      have hq:r=(probF mn mx ss ws (getI ws tWin.dflt i)).1:=hq
      rw [hq]
      repeat' (first|with_reducible (first|apply pN|apply cN|apply bN|apply cE|apply cR|apply bR|apply lE|apply lR|apply jE|apply jR)|refine bE rfl ?_|refine bP rfl ?_|refine pD ?_|refine seqI rfl ?_|refine regI rfl ?_|refine scopeI rfl ?_|refine blockI rfl ?_|refine exitI rfl ?_|refine retI rfl ?_|refine skipI rfl ?_)
      refine endR rfl ?_
      repeat' (first|exact trivial|exact rfl|refine ⟨rfl,?_⟩|refine And.intro ?_ ?_)
      all_goals (simp only [hin];rfl)
    · have h9:(probF mn mx ss ws (getI ws tWin.dflt i)).2=false:=by simp only [hin] at c4;exact c4
      rw [h9] at hq
      repeat' (first|with_reducible (first|apply pN|apply cN|apply bN|apply cE|apply cR|apply bR|apply lE|apply lR|apply jE|apply jR)|refine bE rfl ?_|refine bP rfl ?_|refine pD ?_|refine seqI rfl ?_|refine regI rfl ?_|refine scopeI rfl ?_|refine blockI rfl ?_|refine exitI rfl ?_|refine retI rfl ?_|refine skipI rfl ?_)
      refine roundI (i+1) rfl ?_ ?_ ?_
      · exact ⟨by show i+1≤ws.length;omega,hq⟩
      · show ws.length - (i+1) < ws.length - i
        omega
      · repeat' (first|exact trivial|with_reducible exact rfl|refine And.intro ?_ ?_)
        all_goals rfl
  · simp only [decide_eq_false_iff_not] at c3
    rw [List.drop_eq_nil_of_le (show ws.length≤i by omega)] at hq
    rw [show r=(0,[]) from hq]
    repeat' (first|with_reducible (first|apply pN|apply cN|apply bN|apply cE|apply cR|apply bR|apply lE|apply lR|apply jE|apply jR)|refine bE rfl ?_|refine bP rfl ?_|refine pD ?_|refine seqI rfl ?_|refine regI rfl ?_|refine scopeI rfl ?_|refine blockI rfl ?_|refine exitI rfl ?_|refine retI rfl ?_|refine skipI rfl ?_)
    refine endR rfl ?_
    repeat' (first|exact trivial|exact rfl|refine ⟨rfl,?_⟩|refine And.intro ?_ ?_)
end Go.AM.YtkgmmmhokgdcaaaGreat.Fl
