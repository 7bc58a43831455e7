/- GrA, GrB, AmRange, AmRange2. -/
import Derived.Test.YtbepaplaahcnkaaGreatPc17
import Derived.Test.YtbepaplaahcnkaaGreatPc16

set_option linter.all false
section
namespace Go.AM.YtbepaplaahcnkaaGreat.Fl
open Go.Proofs
set_option maxRecDepth 100000
set_option maxHeartbeats 4000000
abbrev tWay:Ty:=.pair (.int .i64) (.slice (.int .i64))
abbrev WayT:=Int × List Int
def orF (l:List Int):Int:=match l.find? (fun x=>!decide (x=0)) with
 | some x=>x
 | none=>0
def orS:Spec:=plain fun
 | [.sl (.int .i64) l]=>outV True (.int .i64 (orF l))
 | _=>none
theorem orF_step {l:List Int} {i:Nat} (hi:i < l.length):orF (l.drop i)=bif decide (getI l 0 i=0) then orF (l.drop (i+1)) else getI l 0 i:=by
 rw [show l.drop i=getI l 0 i::l.drop (i+1) by rw [List.drop_eq_getElem_cons hi];simp [getI,List.getD,List.getElem?_eq_getElem hi]]
 unfold orF
 rw [List.find?_cons]
 cases decide (getI l 0 i=0) <;> rfl
theorem orOk:SpecSound Tryz.prog 71 orS:=by
 refine soundP (envOf sigNil) Tryz.func71 (c:=body Tryz.f71) rfl (by kernel_rfl) rfl ?_
 intro args out hf hpre
 split at hf <;> try (cases hf;done)
 rename_i l
 cases hf
 refine ⟨Nat.le_of_ble_eq_true rfl,initI (args:=[.sl tInt l]) rfl ?_⟩
 refine factSl (t:=0) (ty:=tInt) rfl (fun hxs=>?_)
 have hmx:List.length (α:=Int) l≤9223372036854775807:=by have:=hxs.1;unfold maxLen at this;exact this
 obtain ⟨r,hr⟩:∃ r,r=orF l:=⟨_,rfl⟩
 rw [← hr]
 repeat' (first|refine zN ?_|refine zE ?_|refine zP ?_|refine pD ?_|refine zQ ?_|refine zR ?_|refine zW ?_)
 refine loopI (σ:=Nat) (fun i=>[(8,.int .i64 i)]) (fun i=>[]) (fun i=>i≤List.length (α:=Int) l∧r=orF (List.drop (α:=Int) i l)) (fun i=>List.length (α:=Int) l - i) 0 rfl (fun _=>rfl) rfl ?_ ?_ ?_
 ·exact ⟨Nat.zero_le _,hr⟩
 ·repeat' (first|exact trivial|exact rfl|refine ⟨rfl,?_⟩|refine And.intro ?_ ?_)
 rintro i ⟨hi,hb⟩
 repeat' (first|refine zN ?_|refine zE ?_|refine zP ?_|refine pD ?_|refine zQ ?_|refine zR ?_|refine zW ?_)
 refine condI rfl (fun c1=>?_) (fun c1=>?_)
 ·simp only [decide_eq_true_eq] at c1
  have hil:i < List.length (α:=Int) l:=by omega
  have hin:((i:Int)).toNat=i:=by omega
  rw [orF_step hil] at hb
  repeat' (first|refine zN ?_|refine zE ?_|refine zP ?_|refine pD ?_|refine zQ ?_|refine zR ?_|refine zW ?_)
  refine condI rfl (fun c2=>?_) (fun c2=>?_)
  ·simp only [hin] at c2
   have h9:decide (getI l 0 i=0)=false:=decide_eq_false (of_decide_eq_true c2)
   rw [h9] at hb
   repeat' (first|refine zN ?_|refine zE ?_|refine zP ?_|refine pD ?_|refine zQ ?_|refine zR ?_|refine zW ?_)
   refine endR rfl ?_
   repeat' (first|exact trivial|exact rfl|refine ⟨rfl,?_⟩|refine And.intro ?_ ?_)
   exact hb
  ·simp only [hin] at c2
   have h9:decide (getI l 0 i=0)=true:=decide_eq_true (Decidable.not_not.mp (of_decide_eq_false c2))
   rw [h9] at hb
   repeat' (first|refine zN ?_|refine zE ?_|refine zP ?_|refine pD ?_|refine zQ ?_|refine zR ?_|refine zW ?_)
   refine roundI (i+1) rfl ?_ ?_ ?_
   ·exact ⟨by show i+1≤List.length (α:=Int) l;omega,hb⟩
   ·show List.length (α:=Int) l - (i+1) < List.length (α:=Int) l - i
    omega
   ·repeat' (first|exact trivial|with_reducible exact rfl|refine And.intro ?_ ?_)
    all_goals rfl
 ·simp only [decide_eq_false_iff_not] at c1
  rw [List.drop_eq_nil_of_le (by omega)] at hb
  repeat' (first|refine zN ?_|refine zE ?_|refine zP ?_|refine pD ?_|refine zQ ?_|refine zR ?_|refine zW ?_)
  refine endR rfl ?_
  repeat' (first|exact trivial|exact rfl|refine ⟨rfl,?_⟩|refine And.intro ?_ ?_)
  exact hb
def lexI:List Int→List Int→Int
 | [],[]=>0
 | [],_::_=>-1
 | _::_,[]=>1
 | a::l,b::r=>bif decide (cmpI a b=0) then lexI l r else cmpI a b
def lexS:Spec:=plain fun
 | [.sl (.int .i64) l,.sl (.int .i64) r]=>outV True (.int .i64 (lexI l r))
 | _=>none
theorem drop_get {l:List Int} {i:Nat} (hi:i < l.length):l.drop i=getI l 0 i::l.drop (i+1):=by
 rw [List.drop_eq_getElem_cons hi];simp [getI,List.getD,List.getElem?_eq_getElem hi]
theorem lexOk:SpecSound Tryz.prog 190 lexS:=by
 refine soundP (envOf sigCmpOk) Tryz.func190 (c:=body Tryz.f190) rfl (by kernel_rfl) rfl ?_
 intro args out hf hpre
 split at hf <;> try (cases hf;done)
 rename_i l m
 cases hf
 refine ⟨Nat.le_of_ble_eq_true rfl,initI (args:=[.sl tInt l,.sl tInt m]) rfl ?_⟩
 refine factSl (t:=0) (ty:=tInt) rfl (fun hxs=>?_)
 have hmx:List.length (α:=Int) l≤9223372036854775807:=by have:=hxs.1;unfold maxLen at this;exact this
 refine factSl (t:=1) (ty:=tInt) rfl (fun hys=>?_)
 have hmy:List.length (α:=Int) m≤9223372036854775807:=by have:=hys.1;unfold maxLen at this;exact this
 obtain ⟨r,hr⟩:∃ r,r=lexI l m:=⟨_,rfl⟩
 rw [← hr]
 repeat' (first|refine zN ?_|refine zE ?_|refine zP ?_|refine pD ?_|refine zQ ?_|refine zR ?_|refine zW ?_)
 refine loopI (σ:=Nat) (fun i=>[(11,.int .i64 i)]) (fun i=>[]) (fun i=>(i≤List.length (α:=Int) l∧i≤List.length (α:=Int) m)∧r=lexI (List.drop (α:=Int) i l) (List.drop (α:=Int) i m)) (fun i=>List.length (α:=Int) l - i) 0 rfl (fun _=>rfl) rfl ?_ ?_ ?_
 ·exact ⟨⟨Nat.zero_le _,Nat.zero_le _⟩,hr⟩
 ·repeat' (first|exact trivial|exact rfl|refine ⟨rfl,?_⟩|refine And.intro ?_ ?_)
 rintro i ⟨⟨hi,hi2⟩,hb⟩
 repeat' (first|refine zN ?_|refine zE ?_|refine zP ?_|refine pD ?_|refine zQ ?_|refine zR ?_|refine zW ?_)
 refine condI rfl (fun c1=>?_) (fun c1=>?_)
 ·simp only [decide_eq_true_eq] at c1
  have hil:i < List.length (α:=Int) l:=by omega
  have hin:((i:Int)).toNat=i:=by omega
  rw [drop_get hil] at hb
  repeat' (first|refine zN ?_|refine zE ?_|refine zP ?_|refine pD ?_|refine zQ ?_|refine zR ?_|refine zW ?_)
  refine condI rfl (fun c2=>?_) (fun c2=>?_)
  ·simp only [decide_eq_true_eq] at c2
   rw [List.drop_eq_nil_of_le (show List.length (α:=Int) m≤i by omega)] at hb
   repeat' (first|refine zN ?_|refine zE ?_|refine zP ?_|refine pD ?_|refine zQ ?_|refine zR ?_|refine zW ?_)
   refine endR rfl ?_
   repeat' (first|exact trivial|exact rfl|refine ⟨rfl,?_⟩|refine And.intro ?_ ?_)
   exact hb
  ·simp only [decide_eq_false_iff_not] at c2
   have him:i < List.length (α:=Int) m:=by omega
   rw [drop_get him] at hb
   have hb:r=bif decide (cmpI (getI l 0 i) (getI m 0 i)=0) then lexI (l.drop (i+1)) (m.drop (i+1)) else cmpI (getI l 0 i) (getI m 0 i):=hb
   repeat' (first|refine zN ?_|refine zE ?_|refine zP ?_|refine pD ?_|refine zQ ?_|refine zR ?_|refine zW ?_)
   refine condI rfl (fun c3=>?_) (fun c3=>?_)
   ·simp only [hin] at c3
    have h9:decide (cmpI (getI l 0 i) (getI m 0 i)=0)=false:=decide_eq_false (of_decide_eq_true c3)
    rw [h9] at hb
    repeat' (first|refine zN ?_|refine zE ?_|refine zP ?_|refine pD ?_|refine zQ ?_|refine zR ?_|refine zW ?_)
    refine endR rfl ?_
    repeat' (first|exact trivial|exact rfl|refine ⟨rfl,?_⟩|refine And.intro ?_ ?_)
    exact hb
   ·simp only [hin] at c3
    have h9:decide (cmpI (getI l 0 i) (getI m 0 i)=0)=true:=decide_eq_true (Decidable.not_not.mp (of_decide_eq_false c3))
    rw [h9] at hb
    repeat' (first|refine zN ?_|refine zE ?_|refine zP ?_|refine pD ?_|refine zQ ?_|refine zR ?_|refine zW ?_)
    refine roundI (i+1) rfl ?_ ?_ ?_
    ·exact ⟨⟨by show i+1≤List.length (α:=Int) l;omega,by show i+1≤List.length (α:=Int) m;omega⟩,hb⟩
    ·show List.length (α:=Int) l - (i+1) < List.length (α:=Int) l - i
     omega
    ·repeat' (first|exact trivial|with_reducible exact rfl|refine And.intro ?_ ?_)
     all_goals rfl
 ·simp only [decide_eq_false_iff_not] at c1
  rw [List.drop_eq_nil_of_le (show List.length (α:=Int) l≤i by omega)] at hb
  repeat' (first|refine zN ?_|refine zE ?_|refine zP ?_|refine pD ?_|refine zQ ?_|refine zR ?_|refine zW ?_)
  refine condI rfl (fun c2=>?_) (fun c2=>?_)
  ·simp only [decide_eq_true_eq] at c2
   rw [drop_get (show i < List.length (α:=Int) m by omega)] at hb
   repeat' (first|refine zN ?_|refine zE ?_|refine zP ?_|refine pD ?_|refine zQ ?_|refine zR ?_|refine zW ?_)
   refine endR rfl ?_
   repeat' (first|exact trivial|exact rfl|refine ⟨rfl,?_⟩|refine And.intro ?_ ?_)
   exact hb
  ·simp only [decide_eq_false_iff_not] at c2
   rw [List.drop_eq_nil_of_le (show List.length (α:=Int) m≤i by omega)] at hb
   repeat' (first|refine zN ?_|refine zE ?_|refine zP ?_|refine pD ?_|refine zQ ?_|refine zR ?_|refine zW ?_)
   refine endR rfl ?_
   repeat' (first|exact trivial|exact rfl|refine ⟨rfl,?_⟩|refine And.intro ?_ ?_)
   exact hb
def ordF (v w:WayT):Int:=orF [cmpI v.1 w.1,cmpI v.2.length w.2.length,lexI v.2 w.2]
def ordS:Spec:=plain fun
 | [.agg [.int .i64 t,.sl (.int .i64) l],.agg [.int .i64 u,.sl (.int .i64) m]]=>outV True (.int .i64 (ordF (t,l) (u,m)))
 | _=>none
def sigOrd:List (Nat × Spec):=[(72,cmpS),(190,lexS),(71,orS)]
theorem sigOrdOk:SigOk Tryz.prog (look sigOrd):=sigCons (sigCons (sigCons sigNil
 Tryz.func71 (by kernel_rfl) (c:=body Tryz.f71) rfl orOk)
 Tryz.func190 (by kernel_rfl) (c:=body Tryz.f190) rfl lexOk)
 Tryz.func72 (by kernel_rfl) (c:=body Tryz.f72) rfl cmpOk
theorem ordOk:SpecSound Tryz.prog 179 ordS:=by
 refine soundP (envOf sigOrdOk) Tryz.func179 (c:=body Tryz.f179) rfl (by kernel_rfl) rfl ?_
 intro args out hf hpre
 split at hf <;> try (cases hf;done)
 rename_i t l u m
 cases hf
 refine ⟨Nat.le_of_ble_eq_true rfl,initI (args:=[.agg [.int .i64 t,.sl tInt l],.agg [.int .i64 u,.sl tInt m]]) rfl ?_⟩
 repeat' (first|refine zN ?_|refine zE ?_|refine zP ?_|refine pD ?_|refine zQ ?_|refine zR ?_|refine zW ?_)
 refine endR rfl ?_
 repeat' (first|exact trivial|exact rfl|refine ⟨rfl,?_⟩|refine And.intro ?_ ?_)
end Go.AM.YtbepaplaahcnkaaGreat.Fl
end

section
namespace Go.AM.YtbepaplaahcnkaaGreat.Fl
open Go.Proofs
set_option maxRecDepth 100000
set_option maxHeartbeats 4000000
def badN (k:Nat) (n:Int):Bool:=decide (n < 0)||decide (n≥(k:Int))
def giv1S:Spec:=⟨true,fun args rows=>match args,rows with
 | [.int .i64 n,.ptr 0 0],[.box [.int .i64 mn,.int .i64 mx,.sl (.pair (.int .i64) (.pair (.slice (.int .i64)) (.pair (.int .i64) (.pair (.int .i64) (.pair (.slice (.int .i64)) (.pair (.int .i64) (.int .i64))))))) ss,.sl (.pair (.int .i64) (.pair (.int .i64) (.int .i64))) ws]] =>
   some ⟨True,.bool (badN ss.length n),[.box [.int .i64 mn,.int .i64 mx,.sl tStep ss,.sl tWin ws]],true⟩
 | _,_=>none⟩
theorem giv1Ok:SpecSound Tryz.prog 178 giv1S:=by
 refine soundR (envOf sigNil) Tryz.func178 (c:=body Tryz.f178) rfl (by kernel_rfl) rfl ?_
 intro args rows out hf hpre
 split at hf <;> try (cases hf;done)
 rename_i n mn mx ss ws
 cases hf
 refine ⟨Nat.le_of_ble_eq_true rfl,initI (args:=[.int .i64 n,.ptr 0 0]) (rows:=[.box [.int .i64 mn,.int .i64 mx,.sl tStep ss,.sl tWin ws]]) rfl ?_⟩
 repeat' (first|refine zN ?_|refine zE ?_|refine zP ?_|refine pD ?_|refine zQ ?_|refine zR ?_|refine zW ?_)
 refine endR rfl ?_
 repeat' (first|exact trivial|exact rfl|refine ⟨rfl,?_⟩|refine And.intro ?_ ?_)
def gidxS:Spec:=⟨true,fun args rows=>match args,rows with
 | [.sl (.int .i64) xs,.fn 178 [] [.ptr 0 0]],[.box [.int .i64 mn,.int .i64 mx,.sl (.pair (.int .i64) (.pair (.slice (.int .i64)) (.pair (.int .i64) (.pair (.int .i64) (.pair (.slice (.int .i64)) (.pair (.int .i64) (.int .i64))))))) ss,.sl (.pair (.int .i64) (.pair (.int .i64) (.int .i64))) ws]] =>
   some ⟨True,.int .i64 (idxF (badN ss.length) xs),[.box [.int .i64 mn,.int .i64 mx,.sl tStep ss,.sl tWin ws]],true⟩
 | _,_=>none⟩
def sigGi:List (Nat × Spec):=[(178,giv1S)]
theorem sigGiOk:SigOk Tryz.prog (look sigGi):=sigCons sigNil Tryz.func178 (by kernel_rfl) (c:=body Tryz.f178) rfl giv1Ok
theorem gidxOk:SpecSound Tryz.prog 189 gidxS:=by
 refine soundR (envOf sigGiOk) Tryz.func189 (c:=body Tryz.f189) rfl (by kernel_rfl) rfl ?_
 intro args rows out hf hpre
 split at hf <;> try (cases hf;done)
 rename_i xs mn mx ss ws
 cases hf
 refine ⟨Nat.le_of_ble_eq_true rfl,initI (args:=[.sl tInt xs,.fn 178 [] [.ptr 0 0]]) (rows:=[.box [.int .i64 mn,.int .i64 mx,.sl tStep ss,.sl tWin ws]]) rfl ?_⟩
 refine factSl (t:=0) (ty:=tInt) rfl (fun hxs=>?_)
 have hmx:List.length (α:=Int) xs≤9223372036854775807:=by have:=hxs.1;unfold maxLen at this;exact this
 repeat' (first|refine zN ?_|refine zE ?_|refine zP ?_|refine pD ?_|refine zQ ?_|refine zR ?_|refine zW ?_)
 refine loopI (σ:=Nat) (fun i=>[(8,.int .i64 i)]) (fun i=>[]) (fun i=>i≤List.length (α:=Int) xs∧∀ j,j < i→badN ss.length (getI xs 0 j)=false) (fun i=>List.length (α:=Int) xs - i) 0 rfl (fun _=>rfl) rfl ?_ ?_ ?_
 ·exact ⟨Nat.zero_le _,fun j hj=>by omega⟩
 ·repeat' (first|exact trivial|exact rfl|refine ⟨rfl,?_⟩|refine And.intro ?_ ?_)
 rintro i ⟨hi,hb⟩
 repeat' (first|refine zN ?_|refine zE ?_|refine zP ?_|refine pD ?_|refine zQ ?_|refine zR ?_|refine zW ?_)
 refine condI rfl (fun c1=>?_) (fun c1=>?_)
 ·simp only [decide_eq_true_eq] at c1
  have hil:i < List.length (α:=Int) xs:=by omega
  have hin:((i:Int)).toNat=i:=by omega
  repeat' (first|refine zN ?_|refine zE ?_|refine zP ?_|refine pD ?_|refine zQ ?_|refine zR ?_|refine zW ?_)
  refine condI rfl (fun c2=>?_) (fun c2=>?_)
  ·simp only [hin] at c2
   repeat' (first|refine zN ?_|refine zE ?_|refine zP ?_|refine pD ?_|refine zQ ?_|refine zR ?_|refine zW ?_)
   refine endR rfl ?_
   repeat' (first|exact trivial|exact rfl|refine ⟨rfl,?_⟩|refine And.intro ?_ ?_)
   exact idxF_found (p:=badN ss.length) (d:=(0:Int)) hil hb c2
  ·simp only [hin] at c2
   repeat' (first|refine zN ?_|refine zE ?_|refine zP ?_|refine pD ?_|refine zQ ?_|refine zR ?_|refine zW ?_)
   refine roundI (i+1) rfl ?_ ?_ ?_
   ·refine ⟨by show i+1≤List.length (α:=Int) xs;omega,fun j hj=>?_⟩
    by_cases hji:j=i
    ·subst hji;exact c2
    ·exact hb j (by omega)
   ·show List.length (α:=Int) xs - (i+1) < List.length (α:=Int) xs - i
    omega
   ·repeat' (first|exact trivial|with_reducible exact rfl|refine And.intro ?_ ?_)
    all_goals rfl
 ·simp only [decide_eq_false_iff_not] at c1
  repeat' (first|refine zN ?_|refine zE ?_|refine zP ?_|refine pD ?_|refine zQ ?_|refine zR ?_|refine zW ?_)
  refine endR rfl ?_
  repeat' (first|exact trivial|exact rfl|refine ⟨rfl,?_⟩|refine And.intro ?_ ?_)
  exact idxF_none (p:=badN ss.length) (d:=(0:Int)) fun j hj=>hb j (by omega)
def ganyS:Spec:=⟨true,fun args rows=>match args,rows with
 | [.sl (.int .i64) xs,.fn 178 [] [.ptr 0 0]],[.box [.int .i64 mn,.int .i64 mx,.sl (.pair (.int .i64) (.pair (.slice (.int .i64)) (.pair (.int .i64) (.pair (.int .i64) (.pair (.slice (.int .i64)) (.pair (.int .i64) (.int .i64))))))) ss,.sl (.pair (.int .i64) (.pair (.int .i64) (.int .i64))) ws]] =>
   some ⟨True,.bool (xs.any (badN ss.length)),[.box [.int .i64 mn,.int .i64 mx,.sl tStep ss,.sl tWin ws]],true⟩
 | _,_=>none⟩
def sigGa:List (Nat × Spec):=[(189,gidxS)]
theorem sigGaOk:SigOk Tryz.prog (look sigGa):=sigCons sigNil Tryz.func189 (by kernel_rfl) (c:=body Tryz.f189) rfl gidxOk
theorem ganyOk:SpecSound Tryz.prog 177 ganyS:=by
 refine soundR (envOf sigGaOk) Tryz.func177 (c:=body Tryz.f177) rfl (by kernel_rfl) rfl ?_
 intro args rows out hf hpre
 split at hf <;> try (cases hf;done)
 rename_i xs mn mx ss ws
 cases hf
 refine ⟨Nat.le_of_ble_eq_true rfl,initI (args:=[.sl tInt xs,.fn 178 [] [.ptr 0 0]]) (rows:=[.box [.int .i64 mn,.int .i64 mx,.sl tStep ss,.sl tWin ws]]) rfl ?_⟩
 repeat' (first|refine zN ?_|refine zE ?_|refine zP ?_|refine pD ?_|refine zQ ?_|refine zR ?_|refine zW ?_)
 refine endR rfl ?_
 repeat' (first|exact trivial|exact rfl|refine ⟨rfl,?_⟩|refine And.intro ?_ ?_)
 all_goals exact (idx_any _).symm
def givF (mn mx:Int) (ss:List StepT) (ws:List WinT) (l:List Int):Bool:=validF mn mx ss ws&&!l.any (badN ss.length)
def givS:Spec:=plain fun
 | [.agg [.int .i64 mn,.int .i64 mx,.sl (.pair (.int .i64) (.pair (.slice (.int .i64)) (.pair (.int .i64) (.pair (.int .i64) (.pair (.slice (.int .i64)) (.pair (.int .i64) (.int .i64))))))) ss,.sl (.pair (.int .i64) (.pair (.int .i64) (.int .i64))) ws],.sl (.int .i64) l]=>outV True (.bool (givF mn mx ss ws l))
 | _=>none
def sigGv:List (Nat × Spec):=[(25,fvalidS),(177,ganyS)]
theorem sigGvOk:SigOk Tryz.prog (look sigGv):=sigCons (sigCons sigNil
 Tryz.func177 (by kernel_rfl) (c:=body Tryz.f177) rfl ganyOk)
 Tryz.func25 (by kernel_rfl) (c:=body Tryz.f25) rfl fvalidOk
theorem givOk:SpecSound Tryz.prog 145 givS:=by
 refine soundP (envOf sigGvOk) Tryz.func145 (c:=body Tryz.f145) rfl (by kernel_rfl) rfl ?_
 intro args out hf hpre
 split at hf <;> try (cases hf;done)
 rename_i mn mx ss ws l
 cases hf
 refine ⟨Nat.le_of_ble_eq_true rfl,initI (args:=[.agg [.int .i64 mn,.int .i64 mx,.sl tStep ss,.sl tWin ws],.sl tInt l]) rfl ?_⟩
 repeat' (first|refine zN ?_|refine zE ?_|refine zP ?_|refine pD ?_|refine zQ ?_|refine zR ?_|refine zW ?_)
 refine endR rfl ?_
 repeat' (first|exact trivial|exact rfl|refine ⟨rfl,?_⟩|refine And.intro ?_ ?_)
end Go.AM.YtbepaplaahcnkaaGreat.Fl
end

section
namespace Go.AM
def cut {α:Type} (c:List α→Bool):List α→List α→List α × Bool
 | p,[]=>(p,true)
 | p,x::L=>bif c (p++[x]) then cut c (p++[x]) L else (p++[x],false)
def YGo {t:Ty} (Y:YD t):List t.El→List t.El→Prop
 | _,[]=>True
 | p,x::L=>Y.ok (p++[x])∧(Y.cont (p++[x])=true→YGo Y (p++[x]) L)
theorem cut_all {α:Type} {c:List α→Bool}:∀ {L p:List α},(∀ q x,q++[x] <+: p++L→p.length≤q.length→c (q++[x])=true)→cut c p L=(p++L,true)
 | [],p,_=>by simp [cut]
 | x::L,p,h=>by
   simp only [cut]
   rw [h p x ⟨L,by simp⟩ (Nat.le_refl _)]
   simp only [cond_true]
   rw [cut_all (p:=p++[x]) (L:=L) (fun q y h1 h2=>h q y (by simpa using h1) (by simp at h2;omega))]
   simp
def okOf {α:Type} (L:List α) (jump:List α→Option AExit) (q:List α):Prop:=q <+: L∧jump q.dropLast=none
def contOf {α:Type} (jump:List α→Option AExit) (q:List α):Bool:=(jump q).isNone
theorem go_of {t:Ty} {L:List t.El} {jump:List t.El→Option AExit} (J:List t.El→(Nat→Prop)→(Nat→Prop)→World→Prop):∀ {L' p:List t.El},p++L'=L→jump p=none→YGo (t:=t) ⟨okOf L jump,contOf jump,J⟩ p L'
 | [],_,_,_=>trivial
 | x::L',p,h,hj=>by
   refine ⟨⟨⟨L',by simpa using h⟩,by simpa using hj⟩,fun hc=>go_of J (by simpa using h) ?_⟩
   simpa [contOf] using hc
def codeOfX:AExit→Code
 | .normal=>.skip
 | .exit i=>.exit i
 | .ret=>.ret
def recOf (fn:FuncId) (T:Array Value) (ps:Array Tmp) (asg bd:Code) (D:Nat):Option AExit→Loop
 | none=>{ state:=.ready,pending:=none,fn,tmps:=T,params:=ps,assign:=asg,body:=bd,defers:=D }
 | some e=>{ state:=.done,pending:=some (codeOfX e),fn,tmps:=T,params:=ps,assign:=asg,body:=bd,defers:=D }
def JOf {α:Type} (Cl:Ctx) (pown:Nat→Prop) (l:Nat) (rc:Option AExit→Loop) (ks:List Nat) (rows:List α→List (Nat × AObj)) (jump:List α→Option AExit) (p:List α) (O R:Nat→Prop) (w:World):Prop :=
 ∃ g Rc,HeapR Cl g Rc (fun r=>mem ks r=true) (look (rows p)) w∧w.heap[l]?=some (.loop (rc (jump p)))∧¬ Rc l∧(∀ r o,look (rows p) r=some o→¬ Own g w r o l) ∧
  (∀ b,Rc b→O b∨R b)∧(∀ r o b,look (rows p) r=some o→Own g w r o b→O b)∧(∀ b,b < Cl.w0.heap.size→¬ Cl.R0 b→¬ pown b→O b)∧∀ b,O b→b < w.heap.size
def yPost {α:Type} (jump:List α→Option AExit) (ks:List Nat) (rows:List (Nat × AObj)) (q:List α) (e:AExit) (s:St):Prop:=match e with
 | .normal=>jump q=none∧SubA s ⟨s.n,[],[],ks,rows⟩
 | e=>jump q=some e∧SubA s ⟨s.n,[],[],ks,rows⟩
def parS (t:Ty) (two:Bool) (x:t.El) (ps:List Nat):Option (List (Nat × Ent)):=match two with
 | false=>match ps with
   | [q]=>some [(q,⟨[],encV t x⟩)]
   | _=>none
 | true=>match t,x,ps with
   | .pair a b,x,[q1,q2]=>some [(q2,⟨[],encV b x.2⟩),(q1,⟨[],encV a x.1⟩)]
   | _,_,_=>none
theorem yargs_ok {R:Nat→Prop} {w:World} {t:Ty} {two:Bool} {x:t.El} {vs:List Value} (h:YArgs R w t two x vs):OkEl t x:=by
 cases two with
 | false =>
   unfold YArgs at h
   obtain ⟨us,h1,_⟩:=h
   exact RelEl_ok h1
 | true =>
   cases t with
   | pair a b =>
     obtain ⟨us,us',h1,h2,_⟩:=h
     exact ⟨RelEl_ok h1,RelEl_ok h2⟩
   | _=>exact h.elim
theorem yargs_mono {R R':Nat→Prop} {w:World} {t:Ty} {two:Bool} {x:t.El} {vs:List Value} (hR:∀ b,R b→R' b) (h:YArgs R w t two x vs):YArgs R' w t two x vs:=by
 cases two with
 | false =>
   unfold YArgs at h ⊢
   obtain ⟨us,h1,h2⟩:=h
   exact ⟨us,RelEl_mono hR (fun _ _=>rfl) h1,h2⟩
 | true =>
   cases t with
   | pair a b =>
     obtain ⟨us,us',h1,h2,h3⟩:=h
     exact ⟨us,us',RelEl_mono hR (fun _ _=>rfl) h1,RelEl_mono hR (fun _ _=>rfl) h2,h3⟩
   | _=>exact h.elim
theorem par_rel {C:Ctx} {g:Nat→Gh} {R:Nat→Prop} {w:World} {n:Nat} {slots:List (Nat × Ent)} {ks:List Nat} {rows:List (Nat × AObj)} {T:Array Value} {df:List Deferred} {t:Ty} {two:Bool} {x:t.El} {ps:Array Tmp} {sl:List (Nat × Ent)} {vals:List Value}
 (hrel:Rel C g R ⟨n,slots,[],ks,rows⟩ ⟨T,df⟩ w) (hs:parS t two x ps.toList=some sl) (hy:YArgs R w t two x vals) (hps:∀ q∈ps.toList,q < n) :
 vals.length=ps.size∧Rel C g R ⟨n,sl++slots,[],ks,rows⟩ ⟨(ps.zip vals.toArray).foldl (fun tmps (t,a)=>tmps.setIfInBounds t a) T,df⟩ w:=by
 have one:∀ {T:Array Value} {slots:List (Nat × Ent)} {t:Ty} {x:t.El} {us:List Value} {q:Nat},Rel C g R ⟨n,slots,[],ks,rows⟩ ⟨T,df⟩ w→RelEl R w t x us→q < n→Rel C g R ⟨n,(q,⟨[],encV t x⟩)::slots,[],ks,rows⟩ ⟨T.setIfInBounds q (valOf t us),df⟩ w:=by
  intro T slots t x us q h1 h2 h3
  exact h1.put q ⟨[],encV t x⟩ (valOf t us) [] h3 (by simp [mem]) (fun _ h=>h) (fun u y h=>by simp at h) ⟨fun _=>encV_rel h2,fun h=>absurd (fun t x h=>by simp at h) h⟩
 obtain ⟨pl⟩:=ps
 dsimp only at hs hps
 cases two with
 | false =>
   unfold parS at hs
   unfold YArgs at hy
   dsimp only at hs
   split at hs <;> try (cases hs;done)
   rename_i q
   cases hs
   obtain ⟨us,h1,rfl⟩:=hy
   exact ⟨rfl,by simpa using one hrel h1 (hps q (by simp))⟩
 | true =>
   cases t with
   | pair a b =>
     unfold parS at hs
     dsimp only at hs
     split at hs <;> try (cases hs;done)
     rename_i a' b' x' q1 q2 heq hx
     cases heq
     cases hx
     cases hs
     obtain ⟨us,us',h1,h2,rfl⟩:=hy
     exact ⟨rfl,by simpa using one (one hrel h1 (hps q1 (by simp))) h2 (hps q2 (by simp))⟩
   | _=>exact hy.elim
end Go.AM
end

section
namespace Go.AM
section
variable {tt:TT} {S:Nat→Option Spec}
abbrev Env.inRound (E:Env PG tt S) (l:Nat):Env PG tt S:=⟨E.hT,E.hS,E.hm,some l⟩
def asPost (E:Env PG tt S) (K:List Nat) (bd:Code) (Q:AExit→St→Prop) (e:AExit) (s:St):Prop:=match e with
 | .normal=>WP E K bd s Q
 | _=>False
theorem own_eq {g:Nat→Gh} {w:World} {l:Nat} {ob:Obj} {r:Nat} {o:AObj} (h:¬ Own g w r o l) (b:Nat):Own g (w.putObj l ob) r o b↔Own g w r o b :=
 Own_mono rfl (fun b hb=>World.putObj_heap_other fun (e:b=l)=>h (e ▸ hb)) b
theorem yld_law (E:Env PG tt S) (K:List Nat) {t:Ty} {two:Bool} {asg bd:Code} {ps:Array Tmp} {n:Nat} {slots:List (Nat × Ent)} {ks:List Nat} {rows:List t.El→List (Nat × AObj)} {jump:List t.El→Option AExit} {ok:List t.El→Prop}
 {Cl:Ctx} {pown:Nat→Prop} {l D:Nat} {fn:FuncId} {T:Array Value} (hca:codeOk asg=true) (hcb:codeOk bd=true)
 (hok:∀ p x,ok (p++[x])→jump p=none) (hround:∀ p x,ok (p++[x])→OkEl t x→∃ sl,parS t two x ps.toList=some sl∧WP (E.inRound l) K asg ⟨n,sl++slots,[],ks,rows p⟩ (asPost (E.inRound l) K bd (yPost jump ks (rows (p++[x])) (p++[x]))))
 (hn:T.size=n) (hps:∀ q∈ps.toList,q < n)
 (hslots:∀ te e,look slots te=some e→e.path=[]∧AV.within (fun k=>Nat.ble 100000 k) e.av=true∧∃ v,T[te]?=some v∧RelV Cl.g0 (fun r=>mem ks r=true) Cl.R0 Cl.w0 e.av v)
 (hlt:l < Cl.w0.heap.size) (hlR:¬ Cl.R0 l) (hlp:¬ pown l) (hlC:Cl.pas l) (hpo:∀ b,pown b→Cl.pas b) (hRp:∀ b,Cl.R0 b→b < Cl.w0.heap.size∧¬ Cl.pas b) :
 YLaw two ⟨ok,contOf jump,JOf Cl pown l (recOf fn T ps asg bd D) ks rows jump⟩ l:=by
 refine ⟨?_,?_,?_⟩
 ·-- what turns elsewhere is of no matter
  rintro p O R R' w w' hR hO hRc hw ⟨g,Rc,h1,h2,h3,h4,h5,h6,h7,h8⟩
  have hag:∀ b,O b∨R b→w'.heap[b]?=w.heap[b]?:=fun b hb=>hb.elim (hO b) (hRc b)
  have hown:∀ r o b,look (rows p) r=some o→(Own g w' r o b↔Own g w r o b):=fun r o b ho=>Own_mono rfl (fun b hb=>hag b (.inl (h6 r o b ho hb))) b
  refine ⟨g,Rc,h1.move hw (fun b hb=>hag b (h5 b hb)) (fun r o b ho hb=>hag b (.inl (h6 r o b ho hb))) (fun b hb hp=>?_),?_,h3,fun r o ho hb=>h4 r o ho ((hown r o l ho).1 hb),fun b hb=>(h5 b hb).imp_right (hR b),fun r o b ho hb=>h6 r o b ho ((hown r o b ho).1 hb),h7,fun b hb=>Nat.lt_of_lt_of_le (h8 b hb) hw.2.2.2⟩
  ·by_cases h0:Cl.R0 b
   ·exact hag b (h5 b (h1.rsub b h0))
   ·exact hag b (.inl (h7 b hb h0 fun h=>hp (hpo b h)))
  ·exact (hO l (h7 l hlt hlR hlp)).trans h2
 ·rintro p O R w b ⟨g,Rc,h1,h2,h3,h4,h5,h6,h7,h8⟩ hb
  exact h8 b hb
 ·rintro p x vals O R w ro ⟨g,Rc,hh,hrec,hRl,hOl,hRc,hOw,hst,hOlt⟩ hokx hOR hRlt hargs
  have hj:jump p=none:=hok p x hokx
  rw [hj] at hrec
  have hl0:l < w.heap.size:=Nat.lt_of_lt_of_le hlt hh.hsize
  have hOl':O l:=hst l hlt hlR hlp
  obtain ⟨sl,hsl,hwp⟩:=hround p x hokx (yargs_ok hargs)
  obtain ⟨Rd,hRd⟩:∃ Rd:Nat→Prop,Rd=fun b=>Rc b∨R b:=⟨_,rfl⟩
  have hRcd:∀ b,Rc b→Rd b:=fun b h=>by rw [hRd];exact .inl h
  have hRRd:∀ b,R b→Rd b:=fun b h=>by rw [hRd];exact .inr h
  have hRdo:∀ b,Rd b→Rc b∨R b:=fun b h=>by rw [hRd] at h;exact h
  have hh1:HeapR Cl g Rd (fun r=>mem ks r=true) (look (rows p)) w:=by
   refine hh.weakenR hRcd (fun b h=>(hRdo b h).elim (hh.rlt b) (hRlt b)) (fun b h hb=>?_) (fun r o b ho hb h=>?_)
   ·rcases hRdo b h with h|h
    ·exact hh.rnew b h hb
    ·refine Classical.byContradiction fun hn=>hOR b (hst b hb (fun h0=>hn (.inl h0)) (fun h0=>hn (.inr (hpo b h0)))) h
   ·rcases hRdo b h with h|h
    ·exact (hh.own r o b ho hb).1 h
    ·exact hOR b (hOw r o b ho hb) h
  have hRdl:¬ Rd l:=fun h=>(hRdo l h).elim hRl (hOR l hOl')
  obtain ⟨Ca,hCa⟩:∃ Ca:Ctx,Ca=⟨w,fun b=>∃ r o,look (rows p) r=some o∧Own g w r o b,Rd,Cl.g0,[]⟩:=⟨_,rfl⟩
  have hCw:Ca.w0=w:=by rw [hCa]
  have hCR:Ca.R0=Rd:=by rw [hCa]
  have hCg:Ca.g0=Cl.g0:=by rw [hCa]
  have hCp:∀ b,Ca.pas b↔∃ r o,look (rows p) r=some o∧Own g w r o b:=fun b=>by rw [hCa]
  have hha:HeapR Ca g Rd (fun r=>mem ks r=true) (look (rows p)) w:=hh1.root hCw hCR (fun r o b ho hb=>(hCp b).2 ⟨r,o,ho,hb⟩) (fun r hr hk=>by rw [hCg];exact hh1.gfix r hr hk)
  have hCl:¬ Ca.pas l:=fun h=>by obtain ⟨r,o,h1,h2⟩:=(hCp l).1 h;exact hOl r o h1 h2
  have hCO:∀ b,Ca.pas b→O b:=fun b h=>by obtain ⟨r,o,h1,h2⟩:=(hCp b).1 h;exact hOw r o b h1 h2
  have hCC:∀ b,Ca.pas b→Cl.w0.heap.size≤b∨Cl.pas b:=fun b h=>by obtain ⟨r,o,h1,h2⟩:=(hCp b).1 h;exact (hh1.own r o b h1 h2).2
  have hrel0:Rel Ca g Rd ⟨n,slots,[],ks,rows p⟩ ⟨T,[]⟩ w:=by
   refine ⟨hn,by rw [hCa],fun te e he=>?_,fun te e he u y hy=>?_,hha⟩
   ·obtain ⟨h1,h2,v,h3,h4⟩:=hslots te e he
    refine ⟨fun _=>⟨v,h3,hh1.stable h4 h2 (fun _ h=>h) hRp⟩,fun h=>absurd (fun t x h=>by rw [h1] at h;simp at h) h⟩
   ·rw [(hslots te e he).1] at hy;simp at hy
  obtain ⟨hlen,hrel1⟩:=par_rel hrel0 hsl (yargs_mono hRRd hargs) hps
  refine ⟨fn,_,asg,bd,run_yield hrec (by simpa [recOf] using hlen),?_⟩
  refine roundIn_of_wpIn (F:=FR ro) trivial ?_
  refine hwp hca Ca g Rd _ w _ hrel1 ?_
  intro C1 e s g1 R1 a1 w1 hx1 hz1 hr1
  cases e with
  | exit i=>exact hz1.elim
  | ret=>exact hz1.elim
  | normal =>
  have hb1:HeapR Ca g1 R1 (fun r=>mem s.ks r=true) (look s.rows) w1:=hx1.heap hr1.heap
  have hl1:l < Ca.w0.heap.size:=by rw [hCw];exact hl0
  have hRl1:¬ R1 l:=hb1.notR hl1 hCl (by rw [hCR];exact hRdl)
  have hOl1:=hb1.notOwn hl1 hCl
  have hrec1:w1.heap[l]?=some (.loop (recOf fn T ps asg bd D none)):=by rw [hb1.frame l hl1 hCl,hCw];exact hrec
  have hw1:SameW w w1:=⟨by rw [hb1.os,hCw],by rw [hb1.tape,hCw],by rw [hb1.output,hCw],by have:=hb1.hsize;rwa [hCw] at this⟩
  show ∃ w₂,(Instr.beginRound l).run PG w1=.ok () w₂∧_
  refine ⟨_,run_beginRound hrec1 rfl,?_⟩
  obtain ⟨w2,hw2⟩:∃ w2,w2=w1.putObj l (.loop { recOf fn T ps asg bd D none with state:=.busy }):=⟨_,rfl⟩
  rw [← hw2]
  have hc1:HeapR Cl g1 R1 (fun r=>mem s.ks r=true) (look s.rows) w1:=hh1.unroot hb1 hCw hCR hCC (fun r hr hk=>by rw [hb1.gfix r hr hk,hCg])
  have hc2:HeapR Cl g1 R1 (fun r=>mem s.ks r=true) (look s.rows) w2:=by rw [hw2];exact hc1.putFree hRl1 hOl1 (fun _=>hlC)
  have hs2:w2.heap.size=w1.heap.size:=by rw [hw2,World.putObj_size]
  have hO12:∀ r o b,look s.rows r=some o→(Own g1 w2 r o b↔Own g1 w1 r o b):=fun r o b ho=>by rw [hw2];exact own_eq (hOl1 r o ho) b
  obtain ⟨Cb,hCb⟩:∃ Cb:Ctx,Cb=⟨w2,fun b=>∃ r o,look s.rows r=some o∧Own g1 w2 r o b,R1,Cl.g0,a1.defers⟩:=⟨_,rfl⟩
  have hBw:Cb.w0=w2:=by rw [hCb]
  have hBR:Cb.R0=R1:=by rw [hCb]
  have hBg:Cb.g0=Cl.g0:=by rw [hCb]
  have hBp:∀ b,Cb.pas b↔∃ r o,look s.rows r=some o∧Own g1 w2 r o b:=fun b=>by rw [hCb]
  have hhb:HeapR Cb g1 R1 (fun r=>mem s.ks r=true) (look s.rows) w2:=hc2.root hBw hBR (fun r o b ho hb=>(hBp b).2 ⟨r,o,ho,hb⟩) (fun r hr hk=>by rw [hBg];exact hc2.gfix r hr hk)
  have hBl:¬ Cb.pas l:=fun h=>by
   obtain ⟨r,o,h1,h2⟩:=(hBp l).1 h
   exact hOl1 r o h1 ((hO12 r o l h1).1 h2)
  have hBC:∀ b,Cb.pas b→Cl.w0.heap.size≤b∨Cl.pas b:=fun b h=>by obtain ⟨r,o,h1,h2⟩:=(hBp b).1 h;exact (hc2.own r o b h1 h2).2
  have hBO:∀ b,Cb.pas b→O b∨w.heap.size≤b:=fun b h=>by
   obtain ⟨r,o,h1,h2⟩:=(hBp b).1 h
   rcases (hb1.own r o b h1 ((hO12 r o b h1).1 h2)).2 with h3|h3
   ·rw [hCw] at h3;exact .inr h3
   ·exact .inl (hCO b h3)
  have hR1O:∀ b,R1 b→R b∨O b∨w.heap.size≤b:=fun b h=>by
   by_cases hb:b < w.heap.size
   ·rcases hb1.rnew b h (by rw [hCw];exact hb) with h3|h3
    ·rw [hCR] at h3
     rcases hRdo b h3 with h4|h4
     ·rcases hRc b h4 with h5|h5
      ·exact .inr (.inl h5)
      ·exact .inl h5
     ·exact .inl h4
    ·exact .inr (.inl (hCO b h3))
   ·exact .inr (.inr (by omega))
  have hrelb:Rel Cb g1 R1 s a1 w2:=by
   refine ⟨hr1.size,by rw [hCb],fun te e he=>?_,hr1.gts,hhb⟩
   obtain ⟨h1,h2⟩:=hr1.slots te e he
   refine ⟨fun hp=>?_,h2⟩
   obtain ⟨v,h3,h4⟩:=h1 hp
   refine ⟨v,h3,RelV_mono (fun _ _=>rfl) (fun _ h=>h) (fun _ h=>h) (fun ad had=>cell_of_heap ?_) h4⟩
   rw [hw2]
   exact World.putObj_heap_other fun (e:ad.block=l)=>hRl1 (e ▸ had)
  refine hz1 hcb Cb g1 R1 a1 w2 _ hrelb ?_
  intro C2 e s' g2 R2 a2 w3 hx2 hz2 hr2
  have hl2:l < Cb.w0.heap.size:=by rw [hBw,hs2];exact Nat.lt_of_lt_of_le hl0 hw1.2.2.2
  have hsub:(jump (p++[x])=none∧e=.normal∨∃ y,jump (p++[x])=some y∧e=y∧e≠.normal)∧SubA s' ⟨s'.n,[],[],ks,rows (p++[x])⟩:=by
   cases e with
   | normal=>exact ⟨.inl ⟨hz2.1,rfl⟩,hz2.2⟩
   | exit i=>exact ⟨.inr ⟨_,hz2.1,rfl,by simp⟩,hz2.2⟩
   | ret=>exact ⟨.inr ⟨_,hz2.1,rfl,by simp⟩,hz2.2⟩
  obtain ⟨hjx,hsa⟩:=hsub
  obtain ⟨g3,hr3⟩:=subA_sound hsa hr2
  have hb3:HeapR Cb g3 R2 (fun r=>mem ks r=true) (look (rows (p++[x]))) w3:=hx2.heap hr3.heap
  have hRl3:¬ R2 l:=hb3.notR hl2 hBl (by rw [hBR];exact hRl1)
  have hOl3:=hb3.notOwn hl2 hBl
  have hrec3:w3.heap[l]?=some (.loop { recOf fn T ps asg bd D none with state:=.busy }):=by rw [hb3.frame l hl2 hBl,hBw,hw2];exact World.putObj_heap_same (Nat.lt_of_lt_of_le hl0 hw1.2.2.2)
  have hw3:SameW w2 w3:=⟨by rw [hb3.os,hBw],by rw [hb3.tape,hBw],by rw [hb3.output,hBw],by have:=hb3.hsize;rwa [hBw] at this⟩
  have hc3:HeapR Cl g3 R2 (fun r=>mem ks r=true) (look (rows (p++[x]))) w3:=hc2.unroot hb3 hBw hBR hBC (fun r hr hk=>by rw [hb3.gfix r hr hk,hBg])
  have fin:∀ ob:Loop,ob=recOf fn T ps asg bd D (jump (p++[x]))→∀ v,v=Value.bool (contOf jump (p++[x]))→(Ending.returned v=.returned (.bool (contOf jump (p++[x])))∧∃ O',JOf Cl pown l (recOf fn T ps asg bd D) ks rows jump (p++[x]) O' R (w3.putObj l (.loop ob))∧(∀ b,O' b→¬ R b)∧(∀ b,O' b→O b∨w.heap.size≤b)∧SameW w (w3.putObj l (.loop ob))∧(∀ b,b < w.heap.size→¬ O b→(w3.putObj l (.loop ob)).heap[b]?=w.heap[b]?)):=by
   intro ob hob v hv
   subst hv
   refine ⟨rfl,?_⟩
   obtain ⟨w4,hw4⟩:∃ w4,w4=w3.putObj l (.loop ob):=⟨_,rfl⟩
   rw [← hw4]
   have hl3:l < w3.heap.size:=Nat.lt_of_lt_of_le (by rw [hBw] at hl2;exact hl2) hw3.2.2.2
   have hc4:HeapR Cl g3 R2 (fun r=>mem ks r=true) (look (rows (p++[x]))) w4:=by rw [hw4];exact hc3.putFree hRl3 hOl3 (fun _=>hlC)
   have hO34:∀ r o b,look (rows (p++[x])) r=some o→(Own g3 w4 r o b↔Own g3 w3 r o b):=fun r o b ho=>by rw [hw4];exact own_eq (hOl3 r o ho) b
   have hs4:w4.heap.size=w3.heap.size:=by rw [hw4,World.putObj_size]
   have hR2O:∀ b,R2 b→R b∨O b∨w.heap.size≤b:=fun b h=>by
    by_cases hb:b < w2.heap.size
    ·rcases hb3.rnew b h (by rw [hBw];exact hb) with h3|h3
     ·rw [hBR] at h3;exact hR1O b h3
     ·exact .inr (hBO b h3)
    ·have:=hw1.2.2.2
     exact .inr (.inr (by omega))
   have hRR2:∀ b,R b→R2 b:=fun b h=>by
    have h1:R1 b:=hb1.rsub b (by rw [hCR];exact hRRd b h)
    exact hb3.rsub b (by rw [hBR];exact h1)
   have hlt4:w.heap.size≤w4.heap.size:=by have:=hw1.2.2.2;have:=hw3.2.2.2;omega
   refine ⟨fun b=>O b∨(∃ r o,look (rows (p++[x])) r=some o∧Own g3 w4 r o b)∨(R2 b∧¬ R b),⟨g3,R2,hc4,?_,hRl3,fun r o ho hb=>hOl3 r o ho ((hO34 r o l ho).1 hb),fun b hb=>?_,fun r o b ho hb=>.inr (.inl ⟨r,o,ho,hb⟩),fun b h1 h2 h3=>.inl (hst b h1 h2 h3),fun b hb=>?_⟩,fun b hb=>?_,fun b hb=>?_,?_,fun b hb hnO=>?_⟩
   ·rw [hw4,World.putObj_heap_same hl3,hob]
   ·by_cases h:R b
    ·exact .inr h
    ·exact .inl (.inr (.inr ⟨hb,h⟩))
   ·rcases hb with hb|⟨r,o,h1,h2⟩|⟨h1,_⟩
    ·exact Nat.lt_of_lt_of_le (hOlt b hb) hlt4
    ·exact Own_lt (hc4.held r o h1) h2
    ·exact hc4.rlt b h1
   ·rcases hb with hb|⟨r,o,h1,h2⟩|⟨_,h1⟩
    ·exact hOR b hb
    ·exact fun h=>(hc4.own r o b h1 h2).1 (hRR2 b h)
    ·exact h1
   ·rcases hb with hb|⟨r,o,h1,h2⟩|⟨h1,h2⟩
    ·exact .inl hb
    ·rcases (hb3.own r o b h1 ((hO34 r o b h1).1 h2)).2 with h3|h3
     ·rw [hBw] at h3
      have:=hw1.2.2.2
      exact .inr (by omega)
     ·exact hBO b h3
    ·rcases hR2O b h1 with h3|h3
     ·exact absurd h3 h2
     ·exact h3
   ·refine hw1.trans (SameW.trans ?_ (hw3.trans ?_))
    ·rw [hw2];exact sameW_put _ _ _
    ·rw [hw4];exact sameW_put _ _ _
   ·have hbl:b≠l:=fun e=>hnO (e ▸ hOl')
    have hb1':b < w1.heap.size:=Nat.lt_of_lt_of_le hb hw1.2.2.2
    have hnb:¬ Cb.pas b:=fun h=>(hBO b h).elim hnO (by omega)
    have hna:¬ Ca.pas b:=fun h=>hnO (hCO b h)
    rw [hw4,World.putObj_heap_other hbl,hb3.frame b (by rw [hBw,hs2];exact hb1') hnb,hBw,hw2,World.putObj_heap_other hbl,hb1.frame b (by rw [hCw];exact hb) hna,hCw]
  cases e with
  | normal =>
    have hj2:jump (p++[x])=none:=by
     rcases hjx with ⟨h,_⟩|⟨y,_,_,h⟩
     ·exact h
     ·exact absurd rfl h
    refine ⟨_,_,run_endRound none hrec3,?_⟩
    refine fin _ ?_ _ ?_
    ·rw [hj2];rfl
    ·simp [contOf,hj2]
  | exit i =>
    have hj2:jump (p++[x])=some (.exit i):=by
     rcases hjx with ⟨_,h⟩|⟨y,h,h',_⟩
     ·cases h
     ·rw [h,h']
    refine ⟨_,_,run_endRound (some (.exit i)) hrec3,?_⟩
    refine fin _ ?_ _ ?_
    ·rw [hj2];rfl
    ·simp [contOf,hj2]
  | ret =>
    have hj2:jump (p++[x])=some .ret:=by
     rcases hjx with ⟨_,h⟩|⟨y,h,h',_⟩
     ·cases h
     ·rw [h,h']
    refine ⟨_,_,run_endRound (some .ret) hrec3,?_⟩
    refine fin _ ?_ _ ?_
    ·rw [hj2];rfl
    ·simp [contOf,hj2]
end
end Go.AM
end
