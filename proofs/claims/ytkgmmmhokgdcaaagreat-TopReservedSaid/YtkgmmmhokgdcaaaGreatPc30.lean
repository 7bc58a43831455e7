/- GrB, GrC, GrD, GrE. -/
import Derived.Test.YtkgmmmhokgdcaaaGreatPc29
import Derived.Test.YtkgmmmhokgdcaaaGreatPc24

section
set_option linter.all false
namespace Go.AM.YtkgmmmhokgdcaaaGreat.Fl
open Go.Proofs
set_option maxRecDepth 100000
set_option maxHeartbeats 4000000
def badN (k:Nat) (n:Int):Bool:=decide (n < 0)||decide (n≥(k:Int))
def giv1S:Spec:=⟨true,fun args rows=>match args,rows with
 | [.int .i64 n,.ptr 0 0],[.box [.int .i64 mn,.int .i64 mx,.sl (.pair (.int .i64) (.pair (.slice (.int .i64)) (.pair (.int .i64) (.pair (.int .i64) (.pair (.slice (.int .i64)) (.pair (.int .i64) (.int .i64))))))) ss,.sl (.pair (.int .i64) (.pair (.int .i64) (.int .i64))) ws]] =>
   some ⟨True,.bool (badN ss.length n),[.box [.int .i64 mn,.int .i64 mx,.sl tStep ss,.sl tWin ws]],true⟩
 | _,_=>none⟩
theorem giv1Ok:SpecSound Tryz.prog 160 giv1S:=by
 refine soundR (envOf sigNil) Tryz.func160 (c:=body Tryz.f160) rfl (by kernel_rfl) rfl ?_
 intro args rows out hf hpre
 split at hf <;> try (cases hf;done)
 rename_i n mn mx ss ws
 cases hf
 refine ⟨Nat.le_of_ble_eq_true rfl,initI (args:=[.int .i64 n,.ptr 0 0]) (rows:=[.box [.int .i64 mn,.int .i64 mx,.sl tStep ss,.sl tWin ws]]) rfl ?_⟩
 repeat' (first|refine zN ?_|refine zE ?_|refine zP ?_|refine pD ?_|refine zS ?_|refine zR ?_|refine zO ?_|refine zB ?_|refine zX ?_|refine zT ?_|refine skipI rfl ?_)
 refine endR rfl ?_
 repeat' (first|exact trivial|exact rfl|refine ⟨rfl,?_⟩|refine And.intro ?_ ?_)
def gidxS:Spec:=⟨true,fun args rows=>match args,rows with
 | [.sl (.int .i64) xs,.fn 160 [] [.ptr 0 0]],[.box [.int .i64 mn,.int .i64 mx,.sl (.pair (.int .i64) (.pair (.slice (.int .i64)) (.pair (.int .i64) (.pair (.int .i64) (.pair (.slice (.int .i64)) (.pair (.int .i64) (.int .i64))))))) ss,.sl (.pair (.int .i64) (.pair (.int .i64) (.int .i64))) ws]] =>
   some ⟨True,.int .i64 (idxF (badN ss.length) xs),[.box [.int .i64 mn,.int .i64 mx,.sl tStep ss,.sl tWin ws]],true⟩
 | _,_=>none⟩
def sigGi:List (Nat × Spec):=[(160,giv1S)]
theorem sigGiOk:SigOk Tryz.prog (look sigGi):=sigCons sigNil Tryz.func160 (by kernel_rfl) (c:=body Tryz.f160) rfl giv1Ok
theorem gidxOk:SpecSound Tryz.prog 134 gidxS:=by
 refine soundR (envOf sigGiOk) Tryz.func134 (c:=body Tryz.f134) rfl (by kernel_rfl) rfl ?_
 intro args rows out hf hpre
 split at hf <;> try (cases hf;done)
 rename_i xs mn mx ss ws
 cases hf
 refine ⟨Nat.le_of_ble_eq_true rfl,initI (args:=[.sl tInt xs,.fn 160 [] [.ptr 0 0]]) (rows:=[.box [.int .i64 mn,.int .i64 mx,.sl tStep ss,.sl tWin ws]]) rfl ?_⟩
 refine factSl (t:=0) (ty:=tInt) rfl (fun hxs=>?_)
 have hmx:List.length (α:=Int) xs≤9223372036854775807:=by have:=hxs.1;unfold maxLen at this;exact this
 repeat' (first|refine zN ?_|refine zE ?_|refine zP ?_|refine pD ?_|refine zS ?_|refine zR ?_|refine zO ?_|refine zB ?_|refine zX ?_|refine zT ?_|refine skipI rfl ?_)
 refine loopI (σ:=Nat) (fun i=>[(8,.int .i64 i)]) (fun i=>[]) (fun i=>i≤List.length (α:=Int) xs∧∀ j,j < i→badN ss.length (getI xs 0 j)=false) (fun i=>List.length (α:=Int) xs - i) 0 rfl (fun _=>rfl) rfl ?_ ?_ ?_
 ·exact ⟨Nat.zero_le _,fun j hj=>by omega⟩
 ·repeat' (first|exact trivial|exact rfl|refine ⟨rfl,?_⟩|refine And.intro ?_ ?_)
 rintro i ⟨hi,hb⟩
 repeat' (first|refine zN ?_|refine zE ?_|refine zP ?_|refine pD ?_|refine zS ?_|refine zR ?_|refine zO ?_|refine zB ?_|refine zX ?_|refine zT ?_|refine skipI rfl ?_)
 refine condI rfl (fun c1=>?_) (fun c1=>?_)
 ·simp only [decide_eq_true_eq] at c1
  have hil:i < List.length (α:=Int) xs:=by omega
  have hin:((i:Int)).toNat=i:=by omega
  repeat' (first|refine zN ?_|refine zE ?_|refine zP ?_|refine pD ?_|refine zS ?_|refine zR ?_|refine zO ?_|refine zB ?_|refine zX ?_|refine zT ?_|refine skipI rfl ?_)
  refine condI rfl (fun c2=>?_) (fun c2=>?_)
  ·simp only [hin] at c2
   repeat' (first|refine zN ?_|refine zE ?_|refine zP ?_|refine pD ?_|refine zS ?_|refine zR ?_|refine zO ?_|refine zB ?_|refine zX ?_|refine zT ?_|refine skipI rfl ?_)
   refine endR rfl ?_
   repeat' (first|exact trivial|exact rfl|refine ⟨rfl,?_⟩|refine And.intro ?_ ?_)
   exact idxF_found (p:=badN ss.length) (d:=(0:Int)) hil hb c2
  ·simp only [hin] at c2
   repeat' (first|refine zN ?_|refine zE ?_|refine zP ?_|refine pD ?_|refine zS ?_|refine zR ?_|refine zO ?_|refine zB ?_|refine zX ?_|refine zT ?_|refine skipI rfl ?_)
   refine roundI (i+1) rfl ?_ ?_ ?_
   ·refine ⟨by show i+1≤List.length (α:=Int) xs;omega,fun j hj=>?_⟩
    by_cases hji:j=i
    ·subst hji;exact c2
    ·exact hb j (by omega)
   ·show List.length (α:=Int) xs - (i+1) < List.length (α:=Int) xs - i
    omega
   ·repeat' (first|exact trivial|with_reducible exact rfl|refine And.intro ?_ ?_)
    all_goals rfl
 ·simp only [decide_eq_false_iff_not] at c1
  repeat' (first|refine zN ?_|refine zE ?_|refine zP ?_|refine pD ?_|refine zS ?_|refine zR ?_|refine zO ?_|refine zB ?_|refine zX ?_|refine zT ?_|refine skipI rfl ?_)
  refine endR rfl ?_
  repeat' (first|exact trivial|exact rfl|refine ⟨rfl,?_⟩|refine And.intro ?_ ?_)
  exact idxF_none (p:=badN ss.length) (d:=(0:Int)) fun j hj=>hb j (by omega)
def ganyS:Spec:=⟨true,fun args rows=>match args,rows with
 | [.sl (.int .i64) xs,.fn 160 [] [.ptr 0 0]],[.box [.int .i64 mn,.int .i64 mx,.sl (.pair (.int .i64) (.pair (.slice (.int .i64)) (.pair (.int .i64) (.pair (.int .i64) (.pair (.slice (.int .i64)) (.pair (.int .i64) (.int .i64))))))) ss,.sl (.pair (.int .i64) (.pair (.int .i64) (.int .i64))) ws]] =>
   some ⟨True,.bool (xs.any (badN ss.length)),[.box [.int .i64 mn,.int .i64 mx,.sl tStep ss,.sl tWin ws]],true⟩
 | _,_=>none⟩
def sigGa:List (Nat × Spec):=[(134,gidxS)]
theorem sigGaOk:SigOk Tryz.prog (look sigGa):=sigCons sigNil Tryz.func134 (by kernel_rfl) (c:=body Tryz.f134) rfl gidxOk
theorem ganyOk:SpecSound Tryz.prog 92 ganyS:=by
 refine soundR (envOf sigGaOk) Tryz.func92 (c:=body Tryz.f92) rfl (by kernel_rfl) rfl ?_
 intro args rows out hf hpre
 split at hf <;> try (cases hf;done)
 rename_i xs mn mx ss ws
 cases hf
 refine ⟨Nat.le_of_ble_eq_true rfl,initI (args:=[.sl tInt xs,.fn 160 [] [.ptr 0 0]]) (rows:=[.box [.int .i64 mn,.int .i64 mx,.sl tStep ss,.sl tWin ws]]) rfl ?_⟩
 repeat' (first|refine zN ?_|refine zE ?_|refine zP ?_|refine pD ?_|refine zS ?_|refine zR ?_|refine zO ?_|refine zB ?_|refine zX ?_|refine zT ?_|refine skipI rfl ?_)
 refine endR rfl ?_
 repeat' (first|exact trivial|exact rfl|refine ⟨rfl,?_⟩|refine And.intro ?_ ?_)
 all_goals exact (idx_any _).symm
def givF (mn mx:Int) (ss:List StepT) (ws:List WinT) (l:List Int):Bool:=validF mn mx ss ws&&!l.any (badN ss.length)
def givS:Spec:=plain fun
 | [.agg [.int .i64 mn,.int .i64 mx,.sl (.pair (.int .i64) (.pair (.slice (.int .i64)) (.pair (.int .i64) (.pair (.int .i64) (.pair (.slice (.int .i64)) (.pair (.int .i64) (.int .i64))))))) ss,.sl (.pair (.int .i64) (.pair (.int .i64) (.int .i64))) ws],.sl (.int .i64) l]=>outV True (.bool (givF mn mx ss ws l))
 | _=>none
def sigGv:List (Nat × Spec):=[(62,fvalidS),(92,ganyS)]
theorem sigGvOk:SigOk Tryz.prog (look sigGv):=sigCons (sigCons sigNil
 Tryz.func92 (by kernel_rfl) (c:=body Tryz.f92) rfl ganyOk)
 Tryz.func62 (by kernel_rfl) (c:=body Tryz.f62) rfl fvalidOk
theorem givOk:SpecSound Tryz.prog 151 givS:=by
 refine soundP (envOf sigGvOk) Tryz.func151 (c:=body Tryz.f151) rfl (by kernel_rfl) rfl ?_
 intro args out hf hpre
 split at hf <;> try (cases hf;done)
 rename_i mn mx ss ws l
 cases hf
 refine ⟨Nat.le_of_ble_eq_true rfl,initI (args:=[.agg [.int .i64 mn,.int .i64 mx,.sl tStep ss,.sl tWin ws],.sl tInt l]) rfl ?_⟩
 repeat' (first|refine zN ?_|refine zE ?_|refine zP ?_|refine pD ?_|refine zS ?_|refine zR ?_|refine zO ?_|refine zB ?_|refine zX ?_|refine zT ?_|refine skipI rfl ?_)
 refine endR rfl ?_
 repeat' (first|exact trivial|exact rfl|refine ⟨rfl,?_⟩|refine And.intro ?_ ?_)
end Go.AM.YtkgmmmhokgdcaaaGreat.Fl
end

section
set_option linter.all false
namespace Go.AM.YtkgmmmhokgdcaaaGreat.Fl
open Go.Proofs
set_option maxRecDepth 100000
set_option maxHeartbeats 4000000
def aftL:Int→List Int→List Int
 | b,[]=>bif decide (b≥0) then [b] else []
 | b,n::r=>bif decide (b≥0)&&decide (b < n) then b::n::aftL (-1) r else n::aftL (bif decide (b≤n) then -1 else b) r
def afterL (s:StepT):List Int:=aftL (stBk s) (stNx s)
def aft1S:Spec:=⟨true,fun args rows=>match args,rows with
 | [.own 0,.ptr 2 0],[.yp 1,.yld (.int .i64) false Y p,.box [.int .i64 rc,.sl (.int .i64) tl,.int .i64 mn,.int .i64 mx,.sl (.int .i64) nx,.int .i64 bk,.int .i64 lm]] =>
   some ⟨YGo Y p (aftL bk nx),.tup [],
    [.yp 3,.dead,.box [.int .i64 rc,.sl tInt tl,.int .i64 mn,.int .i64 mx,.sl tInt nx,.int .i64 bk,.int .i64 lm],.yld tInt false Y (cut Y.cont p (aftL bk nx)).1],true⟩
 | _,_=>none⟩
theorem aft1Ok:SpecSound Tryz.prog 170 aft1S:=by
 refine soundR (envOf sigNil) Tryz.func170 (c:=body Tryz.f170) rfl (by kernel_rfl) rfl ?_
 intro args rows out hf hpre
 split at hf <;> try (cases hf;done)
 rename_i Y p rc tl mn mx nx bk lm
 cases hf
 refine ⟨Nat.le_of_ble_eq_true rfl,initI (args:=[.own 0,.ptr 2 0]) (rows:=[.yp 1,.yld tInt false Y p,.box [.int .i64 rc,.sl tInt tl,.int .i64 mn,.int .i64 mx,.sl tInt nx,.int .i64 bk,.int .i64 lm]]) rfl ?_⟩
 obtain ⟨tot,htot⟩:∃ tot,tot=(cut Y.cont p (aftL bk nx)).1:=⟨_,rfl⟩
 rw [← htot]
 refine factBoxL (r:=100002) (j:=4) (ty:=tInt) rfl rfl (fun hxs=>?_)
 have hmx:List.length (α:=Int) nx≤9223372036854775807:=by have:=hxs.1;unfold maxLen at this;exact this
 refine renameI 100001 3000 rfl ?_
 repeat' (first|refine zN ?_|refine zE ?_|refine zP ?_|refine pD ?_|refine zS ?_|refine zR ?_|refine zO ?_|refine zB ?_|refine zX ?_|refine zT ?_|refine skipI rfl ?_)
 refine loopI (σ:=Nat × List Int × Int) (fun s=>[(11,.int .i64 s.1),(3,.int .i64 s.2.2)]) (fun s=>[(100000,.yp 3000),(3000,.yld tInt false Y s.2.1)]) (fun s=>s.1≤List.length (α:=Int) nx∧YGo Y s.2.1 (aftL s.2.2 (List.drop (α:=Int) s.1 nx))∧tot=(cut Y.cont s.2.1 (aftL s.2.2 (List.drop (α:=Int) s.1 nx))).1) (fun s=>List.length (α:=Int) nx - s.1) (0,p,bk) rfl (fun _=>rfl) rfl ?_ ?_ ?_
 ·exact ⟨Nat.zero_le _,hpre,htot⟩
 ·repeat' (first|exact trivial|exact rfl|refine ⟨rfl,?_⟩|refine And.intro ?_ ?_)
 rintro ⟨i,q,b⟩ ⟨hi,hA,hB⟩
 dsimp only at hi hA hB ⊢
 repeat' (first|refine zN ?_|refine zE ?_|refine zP ?_|refine pD ?_|refine zS ?_|refine zR ?_|refine zO ?_|refine zB ?_|refine zX ?_|refine zT ?_|refine skipI rfl ?_)
 refine condI rfl (fun c1=>?_) (fun c1=>?_)
 ·simp only [decide_eq_true_eq] at c1
  have hil:i < List.length (α:=Int) nx:=by omega
  have hin:((i:Int)).toNat=i:=by omega
  rw [drop_get hil] at hA hB
  unfold aftL at hA hB
  repeat' (first|refine zN ?_|refine zE ?_|refine zP ?_|refine zS ?_|refine zO ?_|refine zB ?_|refine zX ?_|refine zT ?_|refine skipI rfl ?_)
  refine zR ?_
  repeat' (first|with_reducible refine pN ?_|refine pD ?_|fail)
  repeat with_reducible refine cN ?_
  cases hc:(decide (b≥0)&&decide (b < getI nx 0 i))
  ·rw [hc] at hA hB
   obtain ⟨hA1,hA2⟩:Y.ok (q++[getI nx 0 i])∧(Y.cont (q++[getI nx 0 i])=true→YGo Y (q++[getI nx 0 i]) (aftL (bif decide (b≤getI nx 0 i) then -1 else b) (nx.drop (i+1)))):=hA
   have hB:tot=(bif Y.cont (q++[getI nx 0 i]) then cut Y.cont (q++[getI nx 0 i]) (aftL (bif decide (b≤getI nx 0 i) then -1 else b) (nx.drop (i+1))) else (q++[getI nx 0 i],false)).1:=hB
   repeat' (first|with_reducible refine cN ?_|refine skipI rfl ?_|refine zS ?_|fail)
   refine regH [(22,false)] rfl ?_
   repeat' (first|with_reducible refine pN ?_|refine pC (by first|exact True.intro|exact rfl|(simp only [hin];exact hc)|(intros;omega)) ?_)
   repeat' (first|refine zN ?_|refine zE ?_|refine zP ?_|refine pD ?_|refine zS ?_|refine zR ?_|refine zO ?_|refine zB ?_|refine zX ?_|refine zT ?_|refine skipI rfl ?_)
   refine condF rfl ?_
   repeat' (first|refine zN ?_|refine zE ?_|refine zP ?_|refine pD ?_|refine zS ?_|refine zR ?_|refine zO ?_|refine zB ?_|refine zX ?_|refine zT ?_|refine skipI rfl ?_)
   refine condI rfl (fun c2=>?_) (fun c2=>?_)
   ·simp only [hin] at c2
    have c2:decide (b≤getI nx 0 i)=true:=c2
    rw [c2] at hA2 hB
    obtain ⟨q2,rfl⟩:∃ q2,q2=q:=⟨_,rfl⟩
    obtain ⟨b2,hb2⟩:∃ b2:Int,b2=-1:=⟨_,rfl⟩
    have hA2:Y.cont (q2++[getI nx 0 i])=true→YGo Y (q2++[getI nx 0 i]) (aftL b2 (nx.drop (i+1))):=by rw [hb2];exact hA2
    have hB:tot=(bif Y.cont (q2++[getI nx 0 i]) then cut Y.cont (q2++[getI nx 0 i]) (aftL b2 (nx.drop (i+1))) else (q2++[getI nx 0 i],false)).1:=by rw [hb2];exact hB
    repeat' (first|refine zN ?_|refine zE ?_|refine zP ?_|refine pD ?_|refine pC (by exact hA1) ?_|refine zS ?_|refine zR ?_|refine zO ?_|refine zB ?_|refine zX ?_|refine zT ?_|refine skipI rfl ?_)
    refine condI rfl (fun c5=>?_) (fun c5=>?_)
    ·simp only [hin] at c5
     have c5':Y.cont (q2++[getI nx 0 i])=false:=(Bool.not_eq_true' _).mp c5
     rw [c5'] at hB
     repeat' (first|refine zN ?_|refine zE ?_|refine zP ?_|refine pD ?_|refine zS ?_|refine zR ?_|refine zO ?_|refine zB ?_|refine zX ?_|refine zT ?_|refine skipI rfl ?_)
     refine endR rfl ?_
     repeat' (first|exact trivial|exact rfl|refine ⟨rfl,?_⟩|refine And.intro ?_ ?_)
     simp only [hin]
     exact hB
    ·simp only [hin] at c5
     have c5':Y.cont (q2++[getI nx 0 i])=true:=(Bool.not_eq_false' _).mp c5
     rw [c5'] at hB
     repeat' (first|refine zN ?_|refine zE ?_|refine zP ?_|refine pD ?_|refine zS ?_|refine zR ?_|refine zO ?_|refine zB ?_|refine zX ?_|refine zT ?_|refine skipI rfl ?_)
     refine roundI (i+1,q2++[getI nx 0 i],b2) rfl ?_ ?_ ?_
     ·exact ⟨by show i+1≤List.length (α:=Int) nx;omega,hA2 c5',hB⟩
     ·show List.length (α:=Int) nx - (i+1) < List.length (α:=Int) nx - i
      omega
     ·repeat' (first|exact trivial|with_reducible exact rfl|refine And.intro ?_ ?_)
      all_goals (simp only [hin];first|rfl|exact hb2)
   ·simp only [hin] at c2
    have c2:decide (b≤getI nx 0 i)=false:=c2
    rw [c2] at hA2 hB
    obtain ⟨q2,rfl⟩:∃ q2,q2=q:=⟨_,rfl⟩
    obtain ⟨b2,hb2⟩:∃ b2:Int,b2=b:=⟨_,rfl⟩
    have hA2:Y.cont (q2++[getI nx 0 i])=true→YGo Y (q2++[getI nx 0 i]) (aftL b2 (nx.drop (i+1))):=by rw [hb2];exact hA2
    have hB:tot=(bif Y.cont (q2++[getI nx 0 i]) then cut Y.cont (q2++[getI nx 0 i]) (aftL b2 (nx.drop (i+1))) else (q2++[getI nx 0 i],false)).1:=by rw [hb2];exact hB
    repeat' (first|refine zN ?_|refine zE ?_|refine zP ?_|refine pD ?_|refine pC (by exact hA1) ?_|refine zS ?_|refine zR ?_|refine zO ?_|refine zB ?_|refine zX ?_|refine zT ?_|refine skipI rfl ?_)
    refine condI rfl (fun c5=>?_) (fun c5=>?_)
    ·simp only [hin] at c5
     have c5':Y.cont (q2++[getI nx 0 i])=false:=(Bool.not_eq_true' _).mp c5
     rw [c5'] at hB
     repeat' (first|refine zN ?_|refine zE ?_|refine zP ?_|refine pD ?_|refine zS ?_|refine zR ?_|refine zO ?_|refine zB ?_|refine zX ?_|refine zT ?_|refine skipI rfl ?_)
     refine endR rfl ?_
     repeat' (first|exact trivial|exact rfl|refine ⟨rfl,?_⟩|refine And.intro ?_ ?_)
     simp only [hin]
     exact hB
    ·simp only [hin] at c5
     have c5':Y.cont (q2++[getI nx 0 i])=true:=(Bool.not_eq_false' _).mp c5
     rw [c5'] at hB
     repeat' (first|refine zN ?_|refine zE ?_|refine zP ?_|refine pD ?_|refine zS ?_|refine zR ?_|refine zO ?_|refine zB ?_|refine zX ?_|refine zT ?_|refine skipI rfl ?_)
     refine roundI (i+1,q2++[getI nx 0 i],b2) rfl ?_ ?_ ?_
     ·exact ⟨by show i+1≤List.length (α:=Int) nx;omega,hA2 c5',hB⟩
     ·show List.length (α:=Int) nx - (i+1) < List.length (α:=Int) nx - i
      omega
     ·repeat' (first|exact trivial|with_reducible exact rfl|refine And.intro ?_ ?_)
      all_goals (simp only [hin];first|rfl|exact hb2)
  ·rw [hc] at hA hB
   obtain ⟨hk1,hk2⟩:Y.ok (q++[b])∧(Y.cont (q++[b])=true→YGo Y (q++[b]) (getI nx 0 i::aftL (-1) (nx.drop (i+1)))):=hA
   have hB:tot=(bif Y.cont (q++[b]) then cut Y.cont (q++[b]) (getI nx 0 i::aftL (-1) (nx.drop (i+1))) else (q++[b],false)).1:=hB
   have hbn:b < getI nx 0 i:=by rw [Bool.and_eq_true] at hc;exact of_decide_eq_true hc.2
   repeat' (first|with_reducible refine cN ?_|refine skipI rfl ?_|refine zS ?_|fail)
   refine regH [(22,true)] rfl ?_
   repeat' (first|with_reducible refine pN ?_|refine pC (by first|exact True.intro|exact hk1|(intros;exact hk1)|exact rfl|(simp only [hin];exact hc)|(intros;omega)) ?_)
   repeat' (first|refine zN ?_|refine zE ?_|refine zP ?_|refine pD ?_|refine zS ?_|refine zR ?_|refine zO ?_|refine zB ?_|refine zX ?_|refine zT ?_|refine skipI rfl ?_)
   refine condI rfl (fun c3=>?_) (fun c3=>?_)
   ·have c3':Y.cont (q++[b])=false:=(Bool.not_eq_true' _).mp c3
    rw [c3'] at hB
    repeat' (first|refine zN ?_|refine zE ?_|refine zP ?_|refine pD ?_|refine zS ?_|refine zR ?_|refine zO ?_|refine zB ?_|refine zX ?_|refine zT ?_|refine skipI rfl ?_)
    refine endR rfl ?_
    repeat' (first|exact trivial|exact rfl|refine ⟨rfl,?_⟩|refine And.intro ?_ ?_)
    exact hB
   ·have c3':Y.cont (q++[b])=true:=(Bool.not_eq_false' _).mp c3
    rw [c3'] at hB
    have hk2:=hk2 c3'
    obtain ⟨q2,hq2⟩:∃ q2,q2=q++[b]:=⟨_,rfl⟩
    rw [← hq2] at hk2 hB
    obtain ⟨hA1,hA2⟩:Y.ok (q2++[getI nx 0 i])∧(Y.cont (q2++[getI nx 0 i])=true→YGo Y (q2++[getI nx 0 i]) (aftL (-1) (nx.drop (i+1)))):=hk2
    have hB:tot=(bif Y.cont (q2++[getI nx 0 i]) then cut Y.cont (q2++[getI nx 0 i]) (aftL (-1) (nx.drop (i+1))) else (q2++[getI nx 0 i],false)).1:=hB
    obtain ⟨b2,hb2⟩:∃ b2:Int,b2=-1:=⟨_,rfl⟩
    rw [← hb2] at hA2 hB
    repeat' (first|refine zN ?_|refine zE ?_|refine zP ?_|refine pD ?_|refine zS ?_|refine zR ?_|refine zO ?_|refine zB ?_|refine zX ?_|refine zT ?_|refine skipI rfl ?_)
    refine condI rfl (fun _=>?_) (fun c4=>?_)
    ·rw [← hq2]
     repeat' (first|refine zN ?_|refine zE ?_|refine zP ?_|refine pD ?_|refine pC (by exact hA1) ?_|refine zS ?_|refine zR ?_|refine zO ?_|refine zB ?_|refine zX ?_|refine zT ?_|refine skipI rfl ?_)
     refine condI rfl (fun c5=>?_) (fun c5=>?_)
     ·simp only [hin] at c5
      have c5':Y.cont (q2++[getI nx 0 i])=false:=(Bool.not_eq_true' _).mp c5
      rw [c5'] at hB
      repeat' (first|refine zN ?_|refine zE ?_|refine zP ?_|refine pD ?_|refine zS ?_|refine zR ?_|refine zO ?_|refine zB ?_|refine zX ?_|refine zT ?_|refine skipI rfl ?_)
      refine endR rfl ?_
      repeat' (first|exact trivial|exact rfl|refine ⟨rfl,?_⟩|refine And.intro ?_ ?_)
      simp only [hin]
      exact hB
     ·simp only [hin] at c5
      have c5':Y.cont (q2++[getI nx 0 i])=true:=(Bool.not_eq_false' _).mp c5
      rw [c5'] at hB
      repeat' (first|refine zN ?_|refine zE ?_|refine zP ?_|refine pD ?_|refine zS ?_|refine zR ?_|refine zO ?_|refine zB ?_|refine zX ?_|refine zT ?_|refine skipI rfl ?_)
      refine roundI (i+1,q2++[getI nx 0 i],b2) rfl ?_ ?_ ?_
      ·exact ⟨by show i+1≤List.length (α:=Int) nx;omega,hA2 c5',hB⟩
      ·show List.length (α:=Int) nx - (i+1) < List.length (α:=Int) nx - i
       omega
      ·repeat' (first|exact trivial|with_reducible exact rfl|refine And.intro ?_ ?_)
       all_goals (simp only [hin];first|rfl|exact hb2)
    ·exfalso
     simp only [hin] at c4
     have:=of_decide_eq_false c4
     exact this (Int.le_of_lt hbn)
 ·simp only [decide_eq_false_iff_not] at c1
  rw [List.drop_eq_nil_of_le (show List.length (α:=Int) nx≤i by omega)] at hA hB
  unfold aftL at hA hB
  repeat' (first|refine zN ?_|refine zE ?_|refine zP ?_|refine pD ?_|refine zS ?_|refine zR ?_|refine zO ?_|refine zB ?_|refine zX ?_|refine zT ?_|refine skipI rfl ?_)
  refine condI rfl (fun c2=>?_) (fun c2=>?_)
  ·have c2:decide (b≥0)=true:=c2
   rw [c2] at hA hB
   obtain ⟨hk1,hk2⟩:Y.ok (q++[b])∧(Y.cont (q++[b])=true→True):=hA
   have hB:tot=(bif Y.cont (q++[b]) then (q++[b],true) else (q++[b],false)).1:=hB
   repeat' (first|refine zN ?_|refine zE ?_|refine zP ?_|refine pD ?_|refine pC (by exact hk1) ?_|refine zS ?_|refine zR ?_|refine zO ?_|refine zB ?_|refine zX ?_|refine zT ?_|refine skipI rfl ?_)
   refine endN rfl ?_
   repeat' (first|exact trivial|with_reducible exact rfl|refine And.intro ?_ ?_)
   rw [hB]
   cases Y.cont (q++[b]) <;> rfl
  ·have c2:decide (b≥0)=false:=c2
   rw [c2] at hA hB
   repeat' (first|refine zN ?_|refine zE ?_|refine zP ?_|refine pD ?_|refine zS ?_|refine zR ?_|refine zO ?_|refine zB ?_|refine zX ?_|refine zT ?_|refine skipI rfl ?_)
   refine endN rfl ?_
   repeat' (first|exact trivial|with_reducible exact rfl|refine And.intro ?_ ?_)
   exact hB
def aftS:Spec:=⟨true,fun args rows=>match args,rows with
 | [.agg [.int .i64 rc,.sl (.int .i64) tl,.int .i64 mn,.int .i64 mx,.sl (.int .i64) nx,.int .i64 bk,.int .i64 lm]],[] =>
   some ⟨True,.fn 170 [] [.ptr 0 0],[.box [.int .i64 rc,.sl tInt tl,.int .i64 mn,.int .i64 mx,.sl tInt nx,.int .i64 bk,.int .i64 lm]],true⟩
 | _,_=>none⟩
theorem aftOk:SpecSound Tryz.prog 163 aftS:=by
 refine soundR (envOf sigNil) Tryz.func163 (c:=body Tryz.f163) rfl (by kernel_rfl) rfl ?_
 intro args rows out hf hpre
 split at hf <;> try (cases hf;done)
 rename_i rc tl mn mx nx bk lm
 cases hf
 refine ⟨Nat.le_of_ble_eq_true rfl,initI (args:=[.agg [.int .i64 rc,.sl tInt tl,.int .i64 mn,.int .i64 mx,.sl tInt nx,.int .i64 bk,.int .i64 lm]]) (rows:=[]) rfl ?_⟩
 repeat' (first|refine zN ?_|refine zE ?_|refine zP ?_|refine pD ?_|refine zS ?_|refine zR ?_|refine zO ?_|refine zB ?_|refine zX ?_|refine zT ?_|refine skipI rfl ?_)
 refine endR rfl ?_
 repeat' (first|exact trivial|exact rfl|refine ⟨rfl,?_⟩|refine And.intro ?_ ?_)
end Go.AM.YtkgmmmhokgdcaaaGreat.Fl
end

section
set_option linter.all false
namespace Go.AM.YtkgmmmhokgdcaaaGreat.Fl
open Go.Proofs
set_option maxRecDepth 100000
set_option maxHeartbeats 4000000
def w0:WayT:=tWay.dflt
def addStep (w:WayT) (out:List (Option WayT)) (n:Int):List (Option WayT) :=
 bif (getI out none n.toNat).isNone||decide (ordF w ((getI out none n.toNat).getD w0) < 0) then out.set n.toNat (some w) else out
def addW (out:List (Option WayT)) (w:WayT) (ns:List Int):List (Option WayT):=ns.foldl (addStep w) out
theorem addW_snoc {out:List (Option WayT)} {w:WayT} {p:List Int} {x:Int}:addW out w (p++[x])=addStep w (addW out w p) x:=by
 unfold addW;rw [List.foldl_append];rfl
theorem addStep_len {out:List (Option WayT)} {w:WayT} {n:Int}:(addStep w out n).length=out.length:=by
 unfold addStep
 cases (getI out none n.toNat).isNone||decide (ordF w ((getI out none n.toNat).getD w0) < 0) <;> simp
theorem addW_len {w:WayT}:∀ {p:List Int} {out:List (Option WayT)},(addW out w p).length=out.length
 | [],_=>rfl
 | n::p,out=>by
   show (addW (addStep w out n) w p).length=_
   rw [addW_len,addStep_len]
theorem cut_none {α:Type} {L:List α}:(cut (contOf (fun _:List α=>(none:Option AExit))) [] L).1=L:=by
 rw [cut_all (fun _ _ _ _=>rfl)];rfl
theorem some_of {α:Type} {y:Option α} (h:y.isNone=false):y.isSome=true:=by cases y <;> simp_all
def add1S:Spec:=⟨true,fun args rows=>match args,rows with
 | [.agg [.int .i64 t,.own 0],.agg [.int .i64 rc,.sl (.int .i64) tl,.int .i64 mn,.int .i64 mx,.sl (.int .i64) nx,.int .i64 bk,.int .i64 lm],.ptr 1 0,.ptr 2 0],[.seq (.int .i64) xs,.box [.own 3],.box [.fn 161 [] []],.seq (.opt (.pair (.int .i64) (.slice (.int .i64)))) out] =>
   some ⟨∀ n∈aftL bk nx,0≤n∧n < out.length,.tup [],[.dead,.box [.own 3],.box [.fn 161 [] []],.seq (.opt tWay) (addW out (t,xs) (aftL bk nx))],true⟩
 | [.agg [.int .i64 t,.nilsl],.agg [.int .i64 rc,.sl (.int .i64) tl,.int .i64 mn,.int .i64 mx,.sl (.int .i64) nx,.int .i64 bk,.int .i64 lm],.ptr 0 0,.ptr 1 0],[.box [.own 2],.box [.fn 161 [] []],.seq (.opt (.pair (.int .i64) (.slice (.int .i64)))) out] =>
   some ⟨∀ n∈aftL bk nx,0≤n∧n < out.length,.tup [],[.box [.own 2],.box [.fn 161 [] []],.seq (.opt tWay) (addW out (t,[]) (aftL bk nx))],true⟩
 | _,_=>none⟩
def sigAdd:List (Nat × Spec):=[(161,ordS),(163,aftS),(170,aft1S)]
theorem sigAddOk:SigOk Tryz.prog (look sigAdd):=sigCons (sigCons (sigCons sigNil
 Tryz.func170 (by kernel_rfl) (c:=body Tryz.f170) rfl aft1Ok)
 Tryz.func163 (by kernel_rfl) (c:=body Tryz.f163) rfl aftOk)
 Tryz.func161 (by kernel_rfl) (c:=body Tryz.f161) rfl ordOk
theorem add1Ok:SpecSound Tryz.prog 162 add1S:=by
 refine soundR (envOf sigAddOk) Tryz.func162 (c:=body Tryz.f162) rfl (by kernel_rfl) rfl ?_
 intro args rows out hf hpre
 split at hf <;> try (cases hf;done)
 ·rename_i t rc tl mn mx nx bk lm xs out
  cases hf
  refine ⟨Nat.le_of_ble_eq_true rfl,initI (args:=[.agg [.int .i64 t,.own 0],.agg [.int .i64 rc,.sl tInt tl,.int .i64 mn,.int .i64 mx,.sl tInt nx,.int .i64 bk,.int .i64 lm],.ptr 1 0,.ptr 2 0]) (rows:=[.seq tInt xs,.box [.own 3],.box [.fn 161 [] []],.seq (.opt tWay) out]) rfl ?_⟩
  refine freezeI 100000 rfl ?_
  repeat' (first|refine zN ?_|refine zE ?_|refine zP ?_|refine pD ?_|refine zS ?_|refine zR ?_|refine zO ?_|refine zB ?_|refine zX ?_|refine zT ?_|refine skipI rfl ?_)
  refine rangeI (tInt) false (fun q=>[(100003,.seq (.opt tWay) (addW out (t,xs) q))]) (fun _=>none) (aftL bk nx) 8 rfl rfl rfl rfl rfl rfl rfl rfl rfl (fun _=>rfl) (fun _=>rfl) (fun _=>rfl) rfl rfl rfl ?_ ?_ ?_ ?_ ?_ ?_
  ·exact ⟨rfl,rfl,rfl,by repeat' (first|exact trivial|exact rfl|refine And.intro ?_ ?_),by repeat' (first|exact trivial|exact rfl|refine And.intro ?_ ?_),rfl,rfl,rfl⟩
  ·repeat' (first|exact trivial|exact rfl|refine ⟨rfl,?_⟩|refine And.intro ?_ ?_)
  ·rfl
  ·intro J
   exact ⟨_,_,rfl,fun h=>h,rfl,rfl⟩
  ·intro l q x hq hjq hok
   refine ⟨_,rfl,?_⟩
   have hx:=hpre x (hq.subset (by simp))
   obtain ⟨o2,ho2⟩:∃ o2,o2=addW out (t,xs) q:=⟨_,rfl⟩
   have hlen:o2.length=out.length:=by rw [ho2,addW_len]
   rw [addW_snoc,← ho2]
   repeat' (first|refine zN ?_|refine zE ?_|refine zP ?_|refine pD ?_|refine zS ?_|refine zR ?_|refine zO ?_|refine zB ?_|refine zX ?_|refine zT ?_|refine skipI rfl ?_)
   refine asN ?_
   repeat' (first|refine zN ?_|refine zE ?_|refine zP ?_|refine pD ?_|refine pC (by first|exact some_of|(intros;exact True.intro)|omega) ?_|refine zS ?_|refine zR ?_|refine zO ?_|refine zB ?_|refine zX ?_|refine zT ?_|refine skipI rfl ?_)
   refine condI rfl (fun c3=>?_) (fun c3=>?_)
   ·repeat' (first|refine zN ?_|refine zE ?_|refine zP ?_|refine pD ?_|refine pC (by first|omega|(intros;omega)) ?_|refine zS ?_|refine zR ?_|refine zO ?_|refine zB ?_|refine zX ?_|refine zT ?_|refine skipI rfl ?_)
    refine yN rfl rfl ?_
    unfold addStep
    repeat' (first|exact trivial|exact rfl|refine ⟨rfl,?_⟩|refine And.intro ?_ ?_)
    rw [show ((getI o2 none (Int.toNat x)).isNone||decide (ordF (t,xs) ((getI o2 none (Int.toNat x)).getD w0) < 0))=true from c3]
    rfl
   ·repeat' (first|refine zN ?_|refine zE ?_|refine zP ?_|refine pD ?_|refine zS ?_|refine zR ?_|refine zO ?_|refine zB ?_|refine zX ?_|refine zT ?_|refine skipI rfl ?_)
    refine yN rfl rfl ?_
    unfold addStep
    repeat' (first|exact trivial|exact rfl|refine ⟨rfl,?_⟩|refine And.intro ?_ ?_)
    rw [show ((getI o2 none (Int.toNat x)).isNone||decide (ordF (t,xs) ((getI o2 none (Int.toNat x)).getD w0) < 0))=false from c3]
    rfl
  ·rw [cut_none]
   repeat' (first|refine zN ?_|refine zE ?_|refine zP ?_|refine pD ?_|refine zS ?_|refine zR ?_|refine zO ?_|refine zB ?_|refine zX ?_|refine zT ?_|refine skipI rfl ?_)
   refine endN rfl ?_
   repeat' (first|exact trivial|with_reducible exact rfl|refine And.intro ?_ ?_)
 ·rename_i t rc tl mn mx nx bk lm out
  cases hf
  refine ⟨Nat.le_of_ble_eq_true rfl,initI (args:=[.agg [.int .i64 t,.nilsl],.agg [.int .i64 rc,.sl tInt tl,.int .i64 mn,.int .i64 mx,.sl tInt nx,.int .i64 bk,.int .i64 lm],.ptr 0 0,.ptr 1 0]) (rows:=[.box [.own 2],.box [.fn 161 [] []],.seq (.opt tWay) out]) rfl ?_⟩
  refine tidyI [(0,.agg [.int .i64 t,.sl tInt []])] [] rfl rfl ?_ ?_
  ·repeat' (first|exact trivial|exact rfl|refine ⟨rfl,?_⟩|refine And.intro ?_ ?_)
  repeat' (first|refine zN ?_|refine zE ?_|refine zP ?_|refine pD ?_|refine zS ?_|refine zR ?_|refine zO ?_|refine zB ?_|refine zX ?_|refine zT ?_|refine skipI rfl ?_)
  refine rangeI (tInt) false (fun q=>[(100002,.seq (.opt tWay) (addW out (t,[]) q))]) (fun _=>none) (aftL bk nx) 8 rfl rfl rfl rfl rfl rfl rfl rfl rfl (fun _=>rfl) (fun _=>rfl) (fun _=>rfl) rfl rfl rfl ?_ ?_ ?_ ?_ ?_ ?_
  ·exact ⟨rfl,rfl,rfl,by repeat' (first|exact trivial|exact rfl|refine And.intro ?_ ?_),by repeat' (first|exact trivial|exact rfl|refine And.intro ?_ ?_),rfl,rfl,rfl⟩
  ·repeat' (first|exact trivial|exact rfl|refine ⟨rfl,?_⟩|refine And.intro ?_ ?_)
  ·rfl
  ·intro J
   exact ⟨_,_,rfl,fun h=>h,rfl,rfl⟩
  ·intro l q x hq hjq hok
   refine ⟨_,rfl,?_⟩
   have hx:=hpre x (hq.subset (by simp))
   obtain ⟨o2,ho2⟩:∃ o2,o2=addW out (t,[]) q:=⟨_,rfl⟩
   have hlen:o2.length=out.length:=by rw [ho2,addW_len]
   rw [addW_snoc,← ho2]
   repeat' (first|refine zN ?_|refine zE ?_|refine zP ?_|refine pD ?_|refine zS ?_|refine zR ?_|refine zO ?_|refine zB ?_|refine zX ?_|refine zT ?_|refine skipI rfl ?_)
   refine asN ?_
   repeat' (first|refine zN ?_|refine zE ?_|refine zP ?_|refine pD ?_|refine pC (by first|exact some_of|(intros;exact True.intro)|omega) ?_|refine zS ?_|refine zR ?_|refine zO ?_|refine zB ?_|refine zX ?_|refine zT ?_|refine skipI rfl ?_)
   refine condI rfl (fun c3=>?_) (fun c3=>?_)
   ·repeat' (first|refine zN ?_|refine zE ?_|refine zP ?_|refine pD ?_|refine pC (by first|omega|(intros;omega)) ?_|refine zS ?_|refine zR ?_|refine zO ?_|refine zB ?_|refine zX ?_|refine zT ?_|refine skipI rfl ?_)
    refine yN rfl rfl ?_
    unfold addStep
    repeat' (first|exact trivial|exact rfl|refine ⟨rfl,?_⟩|refine And.intro ?_ ?_)
    rw [show ((getI o2 none (Int.toNat x)).isNone||decide (ordF (t,[]) ((getI o2 none (Int.toNat x)).getD w0) < 0))=true from c3]
    rfl
   ·repeat' (first|refine zN ?_|refine zE ?_|refine zP ?_|refine pD ?_|refine zS ?_|refine zR ?_|refine zO ?_|refine zB ?_|refine zX ?_|refine zT ?_|refine skipI rfl ?_)
    refine yN rfl rfl ?_
    unfold addStep
    repeat' (first|exact trivial|exact rfl|refine ⟨rfl,?_⟩|refine And.intro ?_ ?_)
    rw [show ((getI o2 none (Int.toNat x)).isNone||decide (ordF (t,[]) ((getI o2 none (Int.toNat x)).getD w0) < 0))=false from c3]
    rfl
  ·rw [cut_none]
   repeat' (first|refine zN ?_|refine zE ?_|refine zP ?_|refine pD ?_|refine zS ?_|refine zR ?_|refine zO ?_|refine zB ?_|refine zX ?_|refine zT ?_|refine skipI rfl ?_)
   refine endN rfl ?_
   repeat' (first|exact trivial|with_reducible exact rfl|refine And.intro ?_ ?_)
end Go.AM.YtkgmmmhokgdcaaaGreat.Fl
end

section
set_option linter.all false
namespace Go.AM.YtkgmmmhokgdcaaaGreat.Fl
open Go.Proofs
set_option maxRecDepth 100000
set_option maxHeartbeats 4000000
theorem inW_iff {n lo hi:Int}:inW n lo hi=true↔lo≤n∧n≤hi:=by
 unfold inW;rw [Bool.and_eq_true,decide_eq_true_eq,decide_eq_true_eq]
theorem ascF_in {l:List Int} {lo hi:Int} (h:ascF l lo hi=true):∀ n∈l,lo≤n∧n≤hi:=by
 intro n hn
 unfold ascF at h
 rw [Bool.not_eq_true',List.any_eq_false] at h
 obtain ⟨i,hi,rfl⟩:=List.getElem_of_mem hn
 have h1:=h i (List.mem_range.2 hi)
 unfold ascBad at h1
 rw [Bool.or_eq_true,not_or,Bool.not_eq_true',Bool.not_eq_false] at h1
 have h2:=inW_iff.1 h1.1
 have h3:getI l 0 i=l[i]:=by simp [getI,List.getD,List.getElem?_eq_getElem hi]
 rw [h3] at h2
 exact h2
structure StepSm (n:Nat) (s:StepT):Prop where
 mn:1≤stMn s
 mm:stMn s≤stMx s
 mx:stMx s≤10000
 nx:∀ m∈stNx s,0≤m∧m < n
 nl:(stNx s).length≤4
 tl:1≤(stTl s).length∧(stTl s).length≤8
 bk:(stBk s=-1∧stLm s=0)∨(0≤stBk s∧stBk s < n∧1≤stLm s∧stLm s≤9)
 rc:1≤stRc s∧stRc s≤1000000
 ts:∀ m∈stTl s,0≤m∧m≤59
theorem step_sm {n:Nat} {s:StepT} (h:stepF s n=true):StepSm n s:=by
 unfold stepF at h
 simp only [Bool.and_eq_true,Bool.or_eq_true,decide_eq_true_eq,inW_iff] at h
 obtain ⟨⟨⟨⟨⟨⟨⟨h1,h2⟩,h3⟩,h4⟩,h5⟩,h6⟩,h7⟩,h8⟩:=h
 refine ⟨h6,h7,h8,fun m hm=>?_,by omega,by omega,?_,h3,ascF_in h4⟩
 ·have:=ascF_in h5 m hm
  omega
 ·rcases h1 with h1|h1
  ·exact .inl h1
  ·exact .inr (by omega)
structure FlowSm (mn mx:Int) (ss:List StepT) (ws:List WinT):Prop where
 mn0:0≤mn
 mm:mn≤mx
 mx1:mx≤10000
 n1:1≤ss.length
 n2:ss.length≤40
 wl:ws.length≤20
 st:∀ s∈ss,StepSm ss.length s
 wn:∀ i,i < ws.length→rwF (getI ws tWin.dflt i) ss.length=true
theorem flow_sm {mn mx:Int} {ss:List StepT} {ws:List WinT} (h:validF mn mx ss ws=true):FlowSm mn mx ss ws:=by
 unfold validF movF at h
 simp only [Bool.and_eq_true,Bool.not_eq_true',Bool.or_eq_false_iff,Bool.not_eq_false',decide_eq_true_eq,decide_eq_false_iff_not,inW_iff,List.any_eq_false] at h
 obtain ⟨⟨⟨⟨h1,h2⟩,h3⟩,h4⟩,h5⟩:=h
 refine ⟨h1.1.1,h1.1.2,h1.2,by omega,by omega,by omega,fun s hs=>step_sm ?_,fun i hi=>?_⟩
 ·have:=h4 s hs
  simpa using this
 ·have:=h5 i (List.mem_range.2 hi)
  unfold winsBad at this
  simp only [Bool.not_eq_true,Bool.or_eq_false_iff,Bool.not_eq_false'] at this
  exact this.1
theorem aftL_mem {n:Int}:∀ {l:List Int} {b:Int},n∈aftL b l→(n=b∧0≤b)∨n∈l
 | [],b,h=>by
   unfold aftL at h
   cases hb:decide (b≥0)
   ·rw [hb] at h;cases h
   ·rw [hb] at h
    have:n=b:=by simpa using h
    exact .inl ⟨this,of_decide_eq_true hb⟩
 | m::r,b,h=>by
   unfold aftL at h
   cases hb:(decide (b≥0)&&decide (b < m))
   ·rw [hb] at h
    rcases List.mem_cons.1 h with h|h
    ·exact .inr (by simp [h])
    ·cases h2:decide (b≤m)
     ·rw [h2] at h
      rcases aftL_mem h with h|h
      ·exact .inl h
      ·exact .inr (by simp [h])
     ·rw [h2] at h
      rcases aftL_mem h with h|h
      ·have:=h.2;exact absurd this (by show ¬ (0≤(-1:Int));omega)
      ·exact .inr (by simp [h])
   ·rw [hb] at h
    rw [Bool.and_eq_true] at hb
    rcases List.mem_cons.1 h with h|h
    ·exact .inl ⟨h,of_decide_eq_true hb.1⟩
    ·rcases List.mem_cons.1 h with h|h
     ·exact .inr (by simp [h])
     ·rcases aftL_mem h with h|h
      ·have:=h.2;omega
      ·exact .inr (by simp [h])
theorem after_in {n:Nat} {s:StepT} (h:StepSm n s):∀ m∈aftL (stBk s) (stNx s),0≤m∧m < n:=by
 intro m hm
 rcases aftL_mem hm with ⟨h1,h2⟩|h1
 ·have:=h.bk;omega
 ·exact h.nx m h1
def pickW (out:List (Option WayT)) (done:List Bool):Nat→Int
 | 0=>-1
 | i+1=>bif (!(getI out none i).isNone&&!getI done false i)&&(decide (pickW out done i < 0)||decide (ordF ((getI out none i).getD w0) ((getI out none (pickW out done i).toNat).getD w0) < 0)) then (i:Int) else pickW out done i
theorem pickW_spec {out:List (Option WayT)} {done:List Bool}:∀ k:Nat,pickW out done k=-1∨∃ a:Nat,pickW out done k=a∧a < k∧(getI out none a).isSome=true∧getI done false a=false
 | 0=>.inl rfl
 | k+1=>by
   unfold pickW
   cases h:((!(getI out none k).isNone&&!getI done false k)&&(decide (pickW out done k < 0)||decide (ordF ((getI out none k).getD w0) ((getI out none (pickW out done k).toNat).getD w0) < 0)))
   ·rcases pickW_spec k with h1|⟨a,h1,h2,h3⟩
    ·exact .inl h1
    ·exact .inr ⟨a,h1,by omega,h3⟩
   ·rw [Bool.and_eq_true,Bool.and_eq_true,Bool.not_eq_true',Bool.not_eq_true'] at h
    exact .inr ⟨k,rfl,by omega,some_of h.1.1,h.1.2⟩
def nextW (mn:Int) (ss:List StepT) (out:List (Option WayT)) (a:Nat):WayT :=
 (((getI out none a).getD w0).1+stMn (getI ss tStep.dflt a)+mn,((getI out none a).getD w0).2++[(a:Int)])
def wLoop (mn:Int) (ss:List StepT):Nat→List (Option WayT)→List Bool→List (Option WayT)
 | 0,out,_=>out
 | f+1,out,done=>bif decide (pickW out done out.length < 0) then out else
   wLoop mn ss f (addW out (nextW mn ss out (pickW out done out.length).toNat) (afterL (getI ss tStep.dflt (pickW out done out.length).toNat))) (done.set (pickW out done out.length).toNat true)
def startW (mn:Int) (ss:List StepT) (from':Int):List (Option WayT):=addW (List.replicate ss.length none) (mn,[]) (afterL (getI ss tStep.dflt from'.toNat))
def waysF (mn:Int) (ss:List StepT) (from':Int):List (Option WayT):=wLoop mn ss (ss.length+1) (startW mn ss from') (List.replicate ss.length false)
def wayOk (k:Nat) (out:List (Option WayT)):Prop:=∀ w:WayT,some w∈out→(0≤w.1∧w.1≤20000 * (k+1))∧w.2.length≤k
theorem wayOk_mono {k m:Nat} {out:List (Option WayT)} (h:k≤m) (hk:wayOk k out):wayOk m out:=fun w hw=>by
 have:=hk w hw
 omega
theorem addStep_ok {k:Nat} {w:WayT} {out:List (Option WayT)} {n:Int} (h:wayOk k out) (hw:(0≤w.1∧w.1≤20000 * (k+1))∧w.2.length≤k):wayOk k (addStep w out n):=by
 unfold addStep
 cases ((getI out none n.toNat).isNone||decide (ordF w ((getI out none n.toNat).getD w0) < 0))
 ·exact h
 ·intro v hv
  rcases List.mem_or_eq_of_mem_set hv with h1|h1
  ·exact h v h1
  ·cases h1;exact hw
theorem addW_ok {k:Nat} {w:WayT}:∀ {ns:List Int} {out:List (Option WayT)},wayOk k out→(0≤w.1∧w.1≤20000 * (k+1))∧w.2.length≤k→wayOk k (addW out w ns)
 | [],_,h,_=>h
 | n::ns,out,h,hw=>by
   show wayOk k (addW (addStep w out n) w ns)
   exact addW_ok (addStep_ok h hw) hw
theorem getD_ok {k:Nat} {out:List (Option WayT)} (h:wayOk k out) (a:Nat):(0≤((getI out none a).getD w0).1∧((getI out none a).getD w0).1≤20000 * (k+1))∧((getI out none a).getD w0).2.length≤k:=by
 cases hg:getI out none a with
 | none=>exact ⟨⟨Int.le_refl _,by show (0:Int)≤_;omega⟩,Nat.zero_le _⟩
 | some w =>
   refine h w ?_
   by_cases ha:a < out.length
   ·have:getI out none a=out[a]:=by simp [getI,List.getD,List.getElem?_eq_getElem ha]
    rw [← hg,this];exact List.getElem_mem ha
   ·have:getI out none a=none:=by simp [getI,List.getD,List.getElem?_eq_none (Nat.le_of_not_lt ha)]
    rw [this] at hg;cases hg
theorem nextW_ok {k:Nat} {mn mx:Int} {ss:List StepT} {ws:List WinT} (F:FlowSm mn mx ss ws) {out:List (Option WayT)} (h:wayOk k out) {a:Nat} (ha:a < ss.length) :
 (0≤(nextW mn ss out a).1∧(nextW mn ss out a).1≤20000 * ((k+1:Nat)+1))∧(nextW mn ss out a).2.length≤k+1:=by
 have h1:=getD_ok h a
 have h2:=F.st _ (fl_mem (d:=tStep.dflt) ha)
 have h3:=h2.mn
 have h4:=h2.mm
 have h5:=h2.mx
 have h6:=F.mn0
 have h7:=F.mm
 have h8:=F.mx1
 unfold nextW
 refine ⟨⟨?_,?_⟩,?_⟩
 ·show 0≤((getI out none a).getD w0).1+stMn (getI ss tStep.dflt a)+mn
  omega
 ·show ((getI out none a).getD w0).1+stMn (getI ss tStep.dflt a)+mn≤_
  omega
 ·show (((getI out none a).getD w0).2++[(a:Int)]).length≤_
  rw [List.length_append]
  have:=h1.2
  show _+1≤_
  omega
theorem wLoop_ok {mn mx:Int} {ss:List StepT} {ws:List WinT} (F:FlowSm mn mx ss ws):∀ (f k:Nat) (out:List (Option WayT)) (done:List Bool),out.length=ss.length→wayOk k out→(wLoop mn ss f out done).length=ss.length∧wayOk (k+f) (wLoop mn ss f out done)
 | 0,k,out,done,hl,h=>⟨hl,h⟩
 | f+1,k,out,done,hl,h=>by
   unfold wLoop
   cases hp:decide (pickW out done out.length < 0)
   ·rcases pickW_spec (out:=out) (done:=done) out.length with h1|⟨a,h1,h2,_⟩
    ·rw [h1] at hp;exact absurd hp (by decide)
    ·have hat:(pickW out done out.length).toNat=a:=by rw [h1];rfl
     rw [hat]
     have:=wLoop_ok F f (k+1) (addW out (nextW mn ss out a) (afterL (getI ss tStep.dflt a))) (done.set a true) (by rw [addW_len,hl]) (addW_ok (wayOk_mono (by omega) h) (nextW_ok F h (by omega)))
     rw [show k+(f+1)=k+1+f by omega]
     exact this
   ·exact ⟨hl,wayOk_mono (by omega) h⟩
theorem start_ok {mn mx:Int} {ss:List StepT} {ws:List WinT} (F:FlowSm mn mx ss ws) (f:Int):(startW mn ss f).length=ss.length∧wayOk 0 (startW mn ss f):=by
 unfold startW
 refine ⟨by rw [addW_len,List.length_replicate],addW_ok (fun w hw=>?_) ⟨⟨F.mn0,?_⟩,Nat.le_refl _⟩⟩
 ·have:=List.eq_of_mem_replicate hw
  cases this
 ·have:=F.mm
  have:=F.mx1
  show mn≤_
  omega
theorem waysF_ok {mn mx:Int} {ss:List StepT} {ws:List WinT} (F:FlowSm mn mx ss ws) (f:Int):(waysF mn ss f).length=ss.length∧wayOk 41 (waysF mn ss f):=by
 obtain ⟨h1,h2⟩:=start_ok F f
 obtain ⟨h3,h4⟩:=wLoop_ok F (ss.length+1) 0 _ (List.replicate ss.length false) h1 h2
 exact ⟨h3,wayOk_mono (by have:=F.n2;omega) h4⟩
theorem count_set {l:List Bool} {a:Nat} (ha:a < l.length) (h:getI l false a=false):(l.set a true).count true=l.count true+1:=by
 have h1:l[a]=false:=by
  have:getI l false a=l[a]:=by simp [getI,List.getD,List.getElem?_eq_getElem ha]
  rw [← this];exact h
 rw [List.count_set ha,h1]
 simp
end Go.AM.YtkgmmmhokgdcaaaGreat.Fl
end
