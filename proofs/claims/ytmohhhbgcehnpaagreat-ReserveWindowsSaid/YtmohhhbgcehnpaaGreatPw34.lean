/- WnB, WnC. -/
import Derived.Test.YtmohhhbgcehnpaaGreatPw33

section
set_option linter.all false
namespace Go.AM.YtmohhhbgcehnpaaGreat.Fl
open Go.Proofs
set_option maxRecDepth 100000
set_option maxHeartbeats 4000000
abbrev tLk:Ty:=.pair (.int .i64) (.int .i64)
abbrev LkM:=List ((Int × Int) × Int)
abbrev findK (m:LkM) (k:Int × Int):Option Int:=mapFind tLk tInt k m
abbrev setK (m:LkM) (k:Int × Int) (l:Int):LkM:=mapSet tLk tInt k l m
def putL (m:LkM) (k:Int × Int) (l:Int):LkM:=bif !(findK m k).isSome||decide (l < (findK m k).getD 0) then setK m k l else m
def addG (w:WinT):Nat→List Int→Int→LkM→LkM
 | _,[],_,m=>m
 | i,s::r,f,m=>bif decide (s=w.2.1)&&decide (f≥0) then addG w (i+1) r (-1) (putL m (f,(i:Int)) w.2.2)
   else bif decide (s=w.1) then addG w (i+1) r (i:Int) m else addG w (i+1) r f m
def addS:Spec:=⟨true,fun args rows=>match args,rows with
 | [.ptr 0 0,.agg [.int .i64 a,.int .i64 b,.int .i64 l]],[.box [.sl (.int .i64) rt,.own 1],.map (.pair (.int .i64) (.int .i64)) (.int .i64) m] =>
   some ⟨True,.tup [],[.box [.sl tInt rt,.own 1],.map tLk tInt (addG (a,b,l) 0 rt (-1) m)],true⟩
 | _,_=>none⟩
theorem addOk:SpecSound Tryz.prog 76 addS:=by
 refine soundR (envOf sigNil) Tryz.func76 (c:=body Tryz.f76) rfl (by kernel_rfl) rfl ?_
 intro args rows out hf hpre
 split at hf <;> try (cases hf;done)
 rename_i a b l rt m
 cases hf
 refine ⟨Nat.le_of_ble_eq_true rfl,initI (args:=[.ptr 0 0,.agg [.int .i64 a,.int .i64 b,.int .i64 l]]) (rows:=[.box [.sl tInt rt,.own 1],.map tLk tInt m]) rfl ?_⟩
 obtain ⟨r,hr⟩:∃ r,r=addG (a,b,l) 0 rt (-1) m:=⟨_,rfl⟩
 rw [← hr]
 refine factBoxL (r:=100000) (j:=0) (ty:=tInt) rfl rfl (fun hxs=>?_)
 have hmx:List.length (α:=Int) rt≤9223372036854775807:=by have:=hxs.1;unfold maxLen at this;exact this
 repeat' (first|refine zN ?_|refine zE ?_|refine zP ?_|refine pD ?_|refine zS ?_|refine zR ?_|refine zO ?_|refine zB ?_|refine zX ?_|refine zT ?_|refine skipI rfl ?_)
 refine loopI (σ:=Nat × Int × LkM) (fun s=>[(15,.int .i64 s.1),(4,.int .i64 s.2.1)]) (fun s=>[(100001,.map tLk tInt s.2.2)]) (fun s=>s.1≤List.length (α:=Int) rt∧r=addG (a,b,l) s.1 (List.drop (α:=Int) s.1 rt) s.2.1 s.2.2) (fun s=>List.length (α:=Int) rt - s.1) (0,-1,m) rfl (fun _=>rfl) rfl ?_ ?_ ?_
 ·exact ⟨Nat.zero_le _,hr⟩
 ·repeat' (first|exact trivial|exact rfl|refine ⟨rfl,?_⟩|refine And.intro ?_ ?_)
 rintro ⟨i,f,n⟩ ⟨hi,hS⟩
 dsimp only at hi hS ⊢
 repeat' (first|refine zN ?_|refine zE ?_|refine zP ?_|refine pD ?_|refine zS ?_|refine zR ?_|refine zO ?_|refine zB ?_|refine zX ?_|refine zT ?_|refine skipI rfl ?_)
 refine condI rfl (fun c1=>?_) (fun c1=>?_)
 ·simp only [decide_eq_true_eq] at c1
  have hil:i < List.length (α:=Int) rt:=by omega
  have hin:((i:Int)).toNat=i:=by omega
  rw [drop_get hil] at hS
  unfold addG at hS
  dsimp only at hS
  repeat' (first|refine zN ?_|refine zE ?_|refine zP ?_|refine pD ?_|refine zS ?_|refine zR ?_|refine zO ?_|refine zB ?_|refine zX ?_|refine zT ?_|refine skipI rfl ?_)
  simp only [hin]
  refine condI rfl (fun c2=>?_) (fun c2=>?_)
  ·have c2:(decide (getI rt 0 i=b)&&decide (f≥0))=true:=c2
   rw [c2] at hS
   have hS:r=addG (a,b,l) (i+1) (List.drop (α:=Int) (i+1) rt) (-1) (putL n (f,(i:Int)) l):=hS
   unfold putL at hS
   repeat' (first|refine zN ?_|refine zE ?_|refine zP ?_|refine pD ?_|refine zS ?_|refine zR ?_|refine zO ?_|refine zB ?_|refine zX ?_|refine zT ?_|refine skipI rfl ?_)
   refine condI rfl (fun c3=>?_) (fun c3=>?_)
   ·have c3:(!(findK n (f,(i:Int))).isSome||decide (l < (findK n (f,(i:Int))).getD 0))=true:=c3
    rw [c3] at hS
    repeat' (first|refine zN ?_|refine zE ?_|refine zP ?_|refine pD ?_|refine zS ?_|refine zR ?_|refine zO ?_|refine zB ?_|refine zX ?_|refine zT ?_|refine skipI rfl ?_)
    refine roundI (i+1,-1,setK n (f,(i:Int)) l) rfl ?_ ?_ ?_
    ·exact ⟨by show i+1≤List.length (α:=Int) rt;omega,hS⟩
    ·show List.length (α:=Int) rt - (i+1) < List.length (α:=Int) rt - i
     omega
    ·repeat' (first|exact trivial|with_reducible exact rfl|refine And.intro ?_ ?_)
     all_goals rfl
   ·have c3:(!(findK n (f,(i:Int))).isSome||decide (l < (findK n (f,(i:Int))).getD 0))=false:=c3
    rw [c3] at hS
    repeat' (first|refine zN ?_|refine zE ?_|refine zP ?_|refine pD ?_|refine zS ?_|refine zR ?_|refine zO ?_|refine zB ?_|refine zX ?_|refine zT ?_|refine skipI rfl ?_)
    refine roundI (i+1,-1,n) rfl ?_ ?_ ?_
    ·exact ⟨by show i+1≤List.length (α:=Int) rt;omega,hS⟩
    ·show List.length (α:=Int) rt - (i+1) < List.length (α:=Int) rt - i
     omega
    ·repeat' (first|exact trivial|with_reducible exact rfl|refine And.intro ?_ ?_)
     all_goals rfl
  ·have c2:(decide (getI rt 0 i=b)&&decide (f≥0))=false:=c2
   rw [c2] at hS
   repeat' (first|refine zN ?_|refine zE ?_|refine zP ?_|refine pD ?_|refine zS ?_|refine zR ?_|refine zO ?_|refine zB ?_|refine zX ?_|refine zT ?_|refine skipI rfl ?_)
   refine condI rfl (fun c3=>?_) (fun c3=>?_)
   ·have c3:decide (getI rt 0 i=a)=true:=c3
    rw [c3] at hS
    repeat' (first|refine zN ?_|refine zE ?_|refine zP ?_|refine pD ?_|refine zS ?_|refine zR ?_|refine zO ?_|refine zB ?_|refine zX ?_|refine zT ?_|refine skipI rfl ?_)
    refine roundI (i+1,(i:Int),n) rfl ?_ ?_ ?_
    ·exact ⟨by show i+1≤List.length (α:=Int) rt;omega,hS⟩
    ·show List.length (α:=Int) rt - (i+1) < List.length (α:=Int) rt - i
     omega
    ·repeat' (first|exact trivial|with_reducible exact rfl|refine And.intro ?_ ?_)
     all_goals rfl
   ·have c3:decide (getI rt 0 i=a)=false:=c3
    rw [c3] at hS
    repeat' (first|refine zN ?_|refine zE ?_|refine zP ?_|refine pD ?_|refine zS ?_|refine zR ?_|refine zO ?_|refine zB ?_|refine zX ?_|refine zT ?_|refine skipI rfl ?_)
    refine roundI (i+1,f,n) rfl ?_ ?_ ?_
    ·exact ⟨by show i+1≤List.length (α:=Int) rt;omega,hS⟩
    ·show List.length (α:=Int) rt - (i+1) < List.length (α:=Int) rt - i
     omega
    ·repeat' (first|exact trivial|with_reducible exact rfl|refine And.intro ?_ ?_)
     all_goals rfl
 ·simp only [decide_eq_false_iff_not] at c1
  rw [List.drop_eq_nil_of_le (show List.length (α:=Int) rt≤i by omega)] at hS
  rw [show r=n from hS]
  repeat' (first|refine zN ?_|refine zE ?_|refine zP ?_|refine pD ?_|refine zS ?_|refine zR ?_|refine zO ?_|refine zB ?_|refine zX ?_|refine zT ?_|refine skipI rfl ?_)
  refine endN rfl ?_
  repeat' (first|exact trivial|with_reducible exact rfl|refine And.intro ?_ ?_)
def hasS:Spec:=⟨true,fun args rows=>match args,rows with
 | [.ptr 0 0,.int .i64 s],[.box [.sl (.int .i64) rt,.own 1],.map (.pair (.int .i64) (.int .i64)) (.int .i64) m] =>
   some ⟨True,.bool (decide (s≥0)&&decide (s < (rt.length:Int))),[.box [.sl tInt rt,.own 1],.map tLk tInt m],true⟩
 | _,_=>none⟩
theorem hasOk:SpecSound Tryz.prog 45 hasS:=by
 refine soundR (envOf sigNil) Tryz.func45 (c:=body Tryz.f45) rfl (by kernel_rfl) rfl ?_
 intro args rows out hf hpre
 split at hf <;> try (cases hf;done)
 rename_i s rt m
 cases hf
 refine ⟨Nat.le_of_ble_eq_true rfl,initI (args:=[.ptr 0 0,.int .i64 s]) (rows:=[.box [.sl tInt rt,.own 1],.map tLk tInt m]) rfl ?_⟩
 repeat' (first|refine zN ?_|refine zE ?_|refine zP ?_|refine pD ?_|refine zS ?_|refine zR ?_|refine zO ?_|refine zB ?_|refine zX ?_|refine zT ?_|refine skipI rfl ?_)
 refine endR rfl ?_
 repeat' (first|exact trivial|exact rfl|refine ⟨rfl,?_⟩|refine And.intro ?_ ?_)
def nl1S:Spec:=⟨true,fun args rows=>match args,rows with
 | [.int .i64 n,.ptr 0 0],[.box [.int .i64 mn,.int .i64 mx,.sl (.pair (.int .i64) (.pair (.slice (.int .i64)) (.pair (.int .i64) (.pair (.int .i64) (.pair (.slice (.int .i64)) (.pair (.int .i64) (.int .i64))))))) ss,.sl (.pair (.int .i64) (.pair (.int .i64) (.int .i64))) ws]] =>
   some ⟨True,.bool (badN ss.length n),[.box [.int .i64 mn,.int .i64 mx,.sl tStep ss,.sl tWin ws]],true⟩
 | _,_=>none⟩
theorem nl1Ok:SpecSound Tryz.prog 73 nl1S:=by
 refine soundR (envOf sigNil) Tryz.func73 (c:=body Tryz.f73) rfl (by kernel_rfl) rfl ?_
 intro args rows out hf hpre
 split at hf <;> try (cases hf;done)
 rename_i n mn mx ss ws
 cases hf
 refine ⟨Nat.le_of_ble_eq_true rfl,initI (args:=[.int .i64 n,.ptr 0 0]) (rows:=[.box [.int .i64 mn,.int .i64 mx,.sl tStep ss,.sl tWin ws]]) rfl ?_⟩
 repeat' (first|refine zN ?_|refine zE ?_|refine zP ?_|refine pD ?_|refine zS ?_|refine zR ?_|refine zO ?_|refine zB ?_|refine zX ?_|refine zT ?_|refine skipI rfl ?_)
 refine endR rfl ?_
 repeat' (first|exact trivial|exact rfl|refine ⟨rfl,?_⟩|refine And.intro ?_ ?_)
def nidxS:Spec:=⟨true,fun args rows=>match args,rows with
 | [.sl (.int .i64) xs,.fn 73 [] [.ptr 0 0]],[.box [.int .i64 mn,.int .i64 mx,.sl (.pair (.int .i64) (.pair (.slice (.int .i64)) (.pair (.int .i64) (.pair (.int .i64) (.pair (.slice (.int .i64)) (.pair (.int .i64) (.int .i64))))))) ss,.sl (.pair (.int .i64) (.pair (.int .i64) (.int .i64))) ws]] =>
   some ⟨True,.int .i64 (idxF (badN ss.length) xs),[.box [.int .i64 mn,.int .i64 mx,.sl tStep ss,.sl tWin ws]],true⟩
 | _,_=>none⟩
def sigNi:List (Nat × Spec):=[(73,nl1S)]
theorem sigNiOk:SigOk Tryz.prog (look sigNi):=sigCons sigNil Tryz.func73 (by kernel_rfl) (c:=body Tryz.f73) rfl nl1Ok
theorem nidxOk:SpecSound Tryz.prog 118 nidxS:=by
 refine soundR (envOf sigNiOk) Tryz.func118 (c:=body Tryz.f118) rfl (by kernel_rfl) rfl ?_
 intro args rows out hf hpre
 split at hf <;> try (cases hf;done)
 rename_i xs mn mx ss ws
 cases hf
 refine ⟨Nat.le_of_ble_eq_true rfl,initI (args:=[.sl tInt xs,.fn 73 [] [.ptr 0 0]]) (rows:=[.box [.int .i64 mn,.int .i64 mx,.sl tStep ss,.sl tWin ws]]) rfl ?_⟩
 refine factSl (t:=0) (ty:=tInt) rfl (fun hxs=>?_)
 have hmx:List.length (α:=Int) xs≤9223372036854775807:=by have:=hxs.1;unfold maxLen at this;exact this
 repeat' (first|refine zN ?_|refine zE ?_|refine zP ?_|refine pD ?_|refine zS ?_|refine zR ?_|refine zO ?_|refine zB ?_|refine zX ?_|refine zT ?_|refine skipI rfl ?_)
 refine loopI (σ:=Nat) (fun i=>[(8,.int .i64 i)]) (fun i=>[]) (fun i=>i≤List.length (α:=Int) xs∧∀ j,j < i→badN ss.length (getI xs 0 j)=false) (fun i=>List.length (α:=Int) xs - i) 0 rfl (fun _=>rfl) rfl ?_ ?_ ?_
 ·exact ⟨Nat.zero_le _,fun j hj=>by omega⟩
 ·repeat' (first|exact trivial|exact rfl|refine ⟨rfl,?_⟩|refine And.intro ?_ ?_)
 rintro i ⟨hi,hb⟩
 repeat' (first|refine zN ?_|refine zE ?_|refine zP ?_|refine pD ?_|refine zS ?_|refine zR ?_|refine zO ?_|refine zB ?_|refine zX ?_|refine zT ?_|refine skipI rfl ?_)
 refine condI rfl (fun c1=>?_) (fun c1=>?_)
 ·simp only [decide_eq_true_eq] at c1
  have hil:i < List.length (α:=Int) xs:=by omega
  have hin:((i:Int)).toNat=i:=by omega
  repeat' (first|refine zN ?_|refine zE ?_|refine zP ?_|refine pD ?_|refine zS ?_|refine zR ?_|refine zO ?_|refine zB ?_|refine zX ?_|refine zT ?_|refine skipI rfl ?_)
  refine condI rfl (fun c2=>?_) (fun c2=>?_)
  ·simp only [hin] at c2
   repeat' (first|refine zN ?_|refine zE ?_|refine zP ?_|refine pD ?_|refine zS ?_|refine zR ?_|refine zO ?_|refine zB ?_|refine zX ?_|refine zT ?_|refine skipI rfl ?_)
   refine endR rfl ?_
   repeat' (first|exact trivial|exact rfl|refine ⟨rfl,?_⟩|refine And.intro ?_ ?_)
   exact idxF_found (p:=badN ss.length) (d:=(0:Int)) hil hb c2
  ·simp only [hin] at c2
   repeat' (first|refine zN ?_|refine zE ?_|refine zP ?_|refine pD ?_|refine zS ?_|refine zR ?_|refine zO ?_|refine zB ?_|refine zX ?_|refine zT ?_|refine skipI rfl ?_)
   refine roundI (i+1) rfl ?_ ?_ ?_
   ·refine ⟨by show i+1≤List.length (α:=Int) xs;omega,fun j hj=>?_⟩
    by_cases hji:j=i
    ·subst hji;exact c2
    ·exact hb j (by omega)
   ·show List.length (α:=Int) xs - (i+1) < List.length (α:=Int) xs - i
    omega
   ·repeat' (first|exact trivial|with_reducible exact rfl|refine And.intro ?_ ?_)
    all_goals rfl
 ·simp only [decide_eq_false_iff_not] at c1
  repeat' (first|refine zN ?_|refine zE ?_|refine zP ?_|refine pD ?_|refine zS ?_|refine zR ?_|refine zO ?_|refine zB ?_|refine zX ?_|refine zT ?_|refine skipI rfl ?_)
  refine endR rfl ?_
  repeat' (first|exact trivial|exact rfl|refine ⟨rfl,?_⟩|refine And.intro ?_ ?_)
  exact idxF_none (p:=badN ss.length) (d:=(0:Int)) fun j hj=>hb j (by omega)
def nanyS:Spec:=⟨true,fun args rows=>match args,rows with
 | [.sl (.int .i64) xs,.fn 73 [] [.ptr 0 0]],[.box [.int .i64 mn,.int .i64 mx,.sl (.pair (.int .i64) (.pair (.slice (.int .i64)) (.pair (.int .i64) (.pair (.int .i64) (.pair (.slice (.int .i64)) (.pair (.int .i64) (.int .i64))))))) ss,.sl (.pair (.int .i64) (.pair (.int .i64) (.int .i64))) ws]] =>
   some ⟨True,.bool (xs.any (badN ss.length)),[.box [.int .i64 mn,.int .i64 mx,.sl tStep ss,.sl tWin ws]],true⟩
 | _,_=>none⟩
def sigNa:List (Nat × Spec):=[(118,nidxS)]
theorem sigNaOk:SigOk Tryz.prog (look sigNa):=sigCons sigNil Tryz.func118 (by kernel_rfl) (c:=body Tryz.f118) rfl nidxOk
theorem nanyOk:SpecSound Tryz.prog 75 nanyS:=by
 refine soundR (envOf sigNaOk) Tryz.func75 (c:=body Tryz.f75) rfl (by kernel_rfl) rfl ?_
 intro args rows out hf hpre
 split at hf <;> try (cases hf;done)
 rename_i xs mn mx ss ws
 cases hf
 refine ⟨Nat.le_of_ble_eq_true rfl,initI (args:=[.sl tInt xs,.fn 73 [] [.ptr 0 0]]) (rows:=[.box [.int .i64 mn,.int .i64 mx,.sl tStep ss,.sl tWin ws]]) rfl ?_⟩
 repeat' (first|refine zN ?_|refine zE ?_|refine zP ?_|refine pD ?_|refine zS ?_|refine zR ?_|refine zO ?_|refine zB ?_|refine zX ?_|refine zT ?_|refine skipI rfl ?_)
 refine endR rfl ?_
 repeat' (first|exact trivial|exact rfl|refine ⟨rfl,?_⟩|refine And.intro ?_ ?_)
 all_goals exact (idx_any _).symm
def linksF (rt:List Int) (ws:List WinT):LkM:=ws.foldl (fun m w=>addG w 0 rt (-1) m) []
def lineB (mn mx:Int) (ss:List StepT) (ws:List WinT) (rt:List Int):Bool:=validF mn mx ss ws&&!rt.any (badN ss.length)
def sigNl:List (Nat × Spec):=[(74,fvalidS),(75,nanyS),(76,addS)]
theorem sigNlOk:SigOk Tryz.prog (look sigNl):=sigCons (sigCons (sigCons sigNil
 Tryz.func76 (by kernel_rfl) (c:=body Tryz.f76) rfl addOk)
 Tryz.func75 (by kernel_rfl) (c:=body Tryz.f75) rfl nanyOk)
 Tryz.func74 (by kernel_rfl) (c:=body Tryz.f74) rfl fvalidOk
def lineNS:Spec:=⟨true,fun args rows=>match args,rows with
 | [.agg [.int .i64 mn,.int .i64 mx,.sl (.pair (.int .i64) (.pair (.slice (.int .i64)) (.pair (.int .i64) (.pair (.int .i64) (.pair (.slice (.int .i64)) (.pair (.int .i64) (.int .i64))))))) ss,.sl (.pair (.int .i64) (.pair (.int .i64) (.int .i64))) ws],.sl (.int .i64) rt],[] =>
   some ⟨lineB mn mx ss ws rt=false,.tup [.nilptr,.bool false],[],true⟩
 | _,_=>none⟩
def lineYS:Spec:=⟨true,fun args rows=>match args,rows with
 | [.agg [.int .i64 mn,.int .i64 mx,.sl (.pair (.int .i64) (.pair (.slice (.int .i64)) (.pair (.int .i64) (.pair (.int .i64) (.pair (.slice (.int .i64)) (.pair (.int .i64) (.int .i64))))))) ss,.sl (.pair (.int .i64) (.pair (.int .i64) (.int .i64))) ws],.sl (.int .i64) rt],[] =>
   some ⟨lineB mn mx ss ws rt=true,.tup [.ptr 0 0,.bool true],[.box [.sl tInt rt,.own 1],.map tLk tInt (linksF rt ws)],true⟩
 | _,_=>none⟩
theorem lineNOk:SpecSound Tryz.prog 44 lineNS:=by
 refine soundR (envOf sigNlOk) Tryz.func44 (c:=body Tryz.f44) rfl (by kernel_rfl) rfl ?_
 intro args rows out hf hpre
 split at hf <;> try (cases hf;done)
 rename_i mn mx ss ws rt
 cases hf
 refine ⟨Nat.le_of_ble_eq_true rfl,initI (args:=[.agg [.int .i64 mn,.int .i64 mx,.sl tStep ss,.sl tWin ws],.sl tInt rt]) (rows:=[]) rfl ?_⟩
 have hpre:lineB mn mx ss ws rt=false:=hpre
 unfold lineB at hpre
 repeat' (first|refine zN ?_|refine zE ?_|refine zP ?_|refine pD ?_|refine zS ?_|refine zR ?_|refine zO ?_|refine zB ?_|refine zX ?_|refine zT ?_|refine skipI rfl ?_)
 refine condI rfl (fun c2=>?_) (fun c2=>?_)
 ·repeat' (first|refine zN ?_|refine zE ?_|refine zP ?_|refine pD ?_|refine zS ?_|refine zR ?_|refine zO ?_|refine zB ?_|refine zX ?_|refine zT ?_|refine skipI rfl ?_)
  refine endR rfl ?_
  repeat' (first|exact trivial|exact rfl|refine ⟨rfl,?_⟩|refine And.intro ?_ ?_)
 ·have c2:(!validF mn mx ss ws||rt.any (badN ss.length))=false:=c2
  cases hv:validF mn mx ss ws <;> rw [hv] at hpre c2
  ·cases c2
  ·exfalso
   rw [show rt.any (badN ss.length)=false from c2] at hpre
   cases hpre
theorem lineYOk:SpecSound Tryz.prog 44 lineYS:=by
 refine soundR (envOf sigNlOk) Tryz.func44 (c:=body Tryz.f44) rfl (by kernel_rfl) rfl ?_
 intro args rows out hf hpre
 split at hf <;> try (cases hf;done)
 rename_i mn mx ss ws rt
 cases hf
 refine ⟨Nat.le_of_ble_eq_true rfl,initI (args:=[.agg [.int .i64 mn,.int .i64 mx,.sl tStep ss,.sl tWin ws],.sl tInt rt]) (rows:=[]) rfl ?_⟩
 have hpre:lineB mn mx ss ws rt=true:=hpre
 unfold lineB at hpre
 obtain ⟨r,hr⟩:∃ r,r=linksF rt ws:=⟨_,rfl⟩
 rw [← hr]
 rw [Bool.and_eq_true] at hpre
 obtain ⟨hv,hb⟩:=hpre
 have hb:rt.any (badN ss.length)=false:=by simpa using hb
 have hwl:=(flow_sm hv).wl
 repeat' (first|refine zN ?_|refine zE ?_|refine zP ?_|refine zS ?_|refine zO ?_|refine zB ?_|refine zX ?_|refine zT ?_|refine skipI rfl ?_)
 refine zR ?_
 repeat' (first|with_reducible refine pN ?_|refine pD ?_|fail)
 repeat with_reducible refine cN ?_
 repeat' (first|refine zN ?_|refine zE ?_|refine zP ?_|refine zS ?_|refine zO ?_|refine zB ?_|refine zX ?_|refine zT ?_|refine skipI rfl ?_)
 refine zR ?_
 repeat' (first|with_reducible refine pN ?_|refine pD ?_|fail)
 repeat with_reducible refine cN ?_
 repeat' (first|with_reducible refine cN ?_|refine skipI rfl ?_|refine zS ?_|fail)
 refine regH [(14,false)] rfl ?_
 repeat' (first|with_reducible refine pN ?_|refine pC (by first|exact True.intro|(simp only [hv];rfl)) ?_)
 repeat' (first|refine zN ?_|refine zE ?_|refine zP ?_|refine pD ?_|refine zS ?_|refine zR ?_|refine zO ?_|refine zB ?_|refine zX ?_|refine zT ?_|refine skipI rfl ?_)
 refine condI rfl (fun c2=>?_) (fun c2=>?_)
 ·have c2:rt.any (badN ss.length)=true:=c2
  rw [hb] at c2
  cases c2
 repeat' (first|refine zN ?_|refine zE ?_|refine zP ?_|refine pD ?_|refine zS ?_|refine zR ?_|refine zO ?_|refine zB ?_|refine zX ?_|refine zT ?_|refine skipI rfl ?_)
 refine loopI (σ:=Nat × LkM) (fun s=>[(26,.int .i64 s.1),(7,.ptr 3000 0)]) (fun s=>[(3000,.box [.sl tInt rt,.own 3001]),(3001,.map tLk tInt s.2)]) (fun s=>s.1≤ws.length∧r=(ws.drop s.1).foldl (fun m w=>addG w 0 rt (-1) m) s.2) (fun s=>ws.length - s.1) (0,[]) rfl (fun _=>rfl) rfl ?_ ?_ ?_
 ·exact ⟨Nat.zero_le _,hr⟩
 ·repeat' (first|exact trivial|exact rfl|refine ⟨rfl,?_⟩|refine And.intro ?_ ?_)
 rintro ⟨i,m⟩ ⟨hi,hS⟩
 dsimp only at hi hS ⊢
 repeat' (first|refine zN ?_|refine zE ?_|refine zP ?_|refine pD ?_|refine zS ?_|refine zR ?_|refine zO ?_|refine zB ?_|refine zX ?_|refine zT ?_|refine skipI rfl ?_)
 refine condI rfl (fun c3=>?_) (fun c3=>?_)
 ·simp only [decide_eq_true_eq] at c3
  have hil:i < ws.length:=by omega
  have hin:((i:Int)).toNat=i:=by omega
  rw [Re.drop_getI (d:=tWin.dflt) hil] at hS
  repeat' (first|refine zN ?_|refine zE ?_|refine zP ?_|refine pD ?_|refine zS ?_|refine zR ?_|refine zO ?_|refine zB ?_|refine zX ?_|refine zT ?_|refine skipI rfl ?_)
  refine roundI (i+1,addG (getI ws tWin.dflt i) 0 rt (-1) m) rfl ?_ ?_ ?_
  ·exact ⟨by show i+1≤ws.length;omega,hS⟩
  ·show ws.length - (i+1) < ws.length - i
   omega
  ·repeat' (first|exact trivial|with_reducible exact rfl|refine And.intro ?_ ?_)
   all_goals (first|rfl|(simp only [hin];done)|(simp only [hin];rfl))
 ·simp only [decide_eq_false_iff_not] at c3
  rw [List.drop_eq_nil_of_le (show ws.length≤i by omega)] at hS
  rw [show r=m from hS]
  repeat' (first|refine zN ?_|refine zE ?_|refine zP ?_|refine pD ?_|refine zS ?_|refine zR ?_|refine zO ?_|refine zB ?_|refine zX ?_|refine zT ?_|refine skipI rfl ?_)
  refine endR rfl ?_
  repeat' (first|exact trivial|exact rfl|refine ⟨rfl,?_⟩|refine And.intro ?_ ?_)
end Go.AM.YtmohhhbgcehnpaaGreat.Fl
end

section
set_option linter.all false
namespace Go.AM.YtmohhhbgcehnpaaGreat.Fl
open Go.Proofs
set_option maxRecDepth 100000
set_option maxHeartbeats 4000000
theorem setK_mem {p:(Int × Int) × Int} {k:Int × Int} {l:Int}:∀ {m:LkM},p∈setK m k l→p∈m∨p=(k,l)
 | [],h=>.inr (by simpa [setK,mapSet] using h)
 | e::r,h=>by
   unfold setK mapSet at h
   cases hk:keyEq tLk k e.1
   ·rw [hk] at h
    rcases List.mem_cons.1 h with h|h
    ·exact .inl (by rw [h];simp)
    ·rcases setK_mem (m:=r) h with h|h
     ·exact .inl (by simp [h])
     ·exact .inr h
   ·rw [hk] at h
    rcases List.mem_cons.1 h with h|h
    ·exact .inr h
    ·exact .inl (by simp [h])
theorem putL_mem {p:(Int × Int) × Int} {k:Int × Int} {l:Int} {m:LkM} (h:p∈putL m k l):p∈m∨p=(k,l):=by
 unfold putL at h
 cases hb:!(findK m k).isSome||decide (l < (findK m k).getD 0)
 ·rw [hb] at h;exact .inl h
 ·rw [hb] at h;exact setK_mem h
def LkIn (n:Int) (p:(Int × Int) × Int):Prop:=0≤p.1.1∧p.1.1 < p.1.2∧p.1.2 < n
theorem addG_in {w:WinT} {n:Int}:∀ {r:List Int} {i:Nat} {f:Int} {m:LkM},f < i→(i:Int)+r.length≤n→(∀ p∈m,LkIn n p)→∀ p∈addG w i r f m,LkIn n p
 | [],i,f,m,_,_,h=>h
 | s::r,i,f,m,hf,hn,h=>by
   unfold addG
   rw [List.length_cons] at hn
   cases h1:decide (s=w.2.1)&&decide (f≥0)
   ·cases h2:decide (s=w.1)
    ·exact addG_in (by omega) (by omega) h
    ·exact addG_in (by omega) (by omega) h
   ·rw [Bool.and_eq_true,decide_eq_true_eq,decide_eq_true_eq] at h1
    refine addG_in (by omega) (by omega) fun p hp=>?_
    rcases putL_mem hp with hp|rfl
    ·exact h p hp
    ·exact ⟨h1.2,hf,by show (i:Int) < n;omega⟩
theorem linksF_in {rt:List Int} {ws:List WinT}:∀ p∈linksF rt ws,LkIn rt.length p:=by
 have:∀ (ws:List WinT) (m:LkM),(∀ p∈m,LkIn rt.length p)→∀ p∈ws.foldl (fun m w=>addG w 0 rt (-1) m) m,LkIn rt.length p:=fun ws=>by
  induction ws with
  | nil=>exact fun m h=>h
  | cons w ws ih=>exact fun m h=>ih _ (addG_in (by omega) (by omega) h)
 exact this ws [] (fun p hp=>by cases hp)
open Classical in
def hasB (rt:List Int) (s:Int):Bool:=decide (s≥0)&&decide (s < (rt.length:Int))
end Go.AM.YtmohhhbgcehnpaaGreat.Fl
end
