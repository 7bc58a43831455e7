/- WnA. -/
import Derived.Test.YtmohhhbgcehnpaaGreatPw32

section
set_option linter.all false
namespace Go.AM.YtmohhhbgcehnpaaGreat.Fl
open Go.Proofs
set_option maxRecDepth 100000
set_option maxHeartbeats 4000000
abbrev tVis:Ty:=.pair (.int .i64) (.pair (.int .i64) (.pair (.int .i64) (.int .i64)))
abbrev VisT:=Int × Int × Int × Int
abbrev tWat:Ty:=.pair (.pair (.int .i64) (.pair (.int .i64) (.int .i64))) (.pair (.int .i64) (.pair .bool .bool))
abbrev WatT:=WinT × Int × Bool × Bool
def timeB (n:Int):Bool:=decide (n≥0)&&decide (n≤1000000)
def isTimeS:Spec:=plain fun
 | [.int .i64 n]=>outV True (.bool (timeB n))
 | _=>none
theorem isTimeOk:SpecSound Tryz.prog 80 isTimeS:=by
 refine soundP (envOf sigNil) Tryz.func80 (c:=body Tryz.f80) rfl (by kernel_rfl) rfl ?_
 intro args out hf hpre
 split at hf <;> try (cases hf;done)
 rename_i n
 cases hf
 refine ⟨Nat.le_of_ble_eq_true rfl,initI (args:=[.int .i64 n]) rfl ?_⟩
 repeat' (first|refine zN ?_|refine zE ?_|refine zP ?_|refine pD ?_|refine zS ?_|refine zR ?_|refine zO ?_|refine zB ?_|refine zX ?_|refine zT ?_|refine skipI rfl ?_)
 refine endR rfl ?_
 repeat' (first|exact trivial|exact rfl|refine ⟨rfl,?_⟩|refine And.intro ?_ ?_)
def seeF (w:WatT) (v:VisT):WatT :=
 bif decide (v.1=w.1.2.1) then (w.1,w.2.1,false,w.2.2.2||(w.2.2.1&&decide (v.2.2.1 > w.2.1+w.1.2.2)))
 else bif decide (v.1=w.1.1) then (w.1,v.2.2.2,true,w.2.2.2) else w
def seeS:Spec:=⟨true,fun args rows=>match args,rows with
 | [.ptr 0 0,.agg [.int .i64 st,.int .i64 tl,.int .i64 s,.int .i64 e]],[.box [.int .i64 a,.int .i64 b,.int .i64 l,.int .i64 en,.bool o,.bool la]] =>
   some ⟨In64 (en+l),.tup [],[.box [.int .i64 (seeF ((a,b,l),en,o,la) (st,tl,s,e)).1.1,.int .i64 (seeF ((a,b,l),en,o,la) (st,tl,s,e)).1.2.1,.int .i64 (seeF ((a,b,l),en,o,la) (st,tl,s,e)).1.2.2,
    .int .i64 (seeF ((a,b,l),en,o,la) (st,tl,s,e)).2.1,.bool (seeF ((a,b,l),en,o,la) (st,tl,s,e)).2.2.1,.bool (seeF ((a,b,l),en,o,la) (st,tl,s,e)).2.2.2]],true⟩
 | _,_=>none⟩
theorem seeOk:SpecSound Tryz.prog 81 seeS:=by
 refine soundR (envOf sigNil) Tryz.func81 (c:=body Tryz.f81) rfl (by kernel_rfl) rfl ?_
 intro args rows out hf hpre
 split at hf <;> try (cases hf;done)
 rename_i st tl s e a b l en o la
 cases hf
 refine ⟨Nat.le_of_ble_eq_true rfl,initI (args:=[.ptr 0 0,.agg [.int .i64 st,.int .i64 tl,.int .i64 s,.int .i64 e]]) (rows:=[.box [.int .i64 a,.int .i64 b,.int .i64 l,.int .i64 en,.bool o,.bool la]]) rfl ?_⟩
 obtain ⟨r,hr⟩:∃ r,r=seeF ((a,b,l),en,o,la) (st,tl,s,e):=⟨_,rfl⟩
 rw [← hr]
 unfold seeF at hr
 dsimp only at hr
 repeat' (first|refine zN ?_|refine zE ?_|refine zP ?_|refine pD ?_|refine zS ?_|refine zR ?_|refine zO ?_|refine zB ?_|refine zX ?_|refine zT ?_|refine skipI rfl ?_)
 refine condI rfl (fun c1=>?_) (fun c1=>?_)
 ·rw [c1] at hr
  have hr:r=((a,b,l),en,false,la||(o&&decide (s > en+l))):=hr
  repeat' (first|refine zN ?_|refine zE ?_|refine zP ?_|refine pD ?_|refine pC (by first|exact hpre|(intros;exact hpre)) ?_|refine zS ?_|refine zR ?_|refine zO ?_|refine zB ?_|refine zX ?_|refine zT ?_|refine skipI rfl ?_)
  refine condI rfl (fun c2=>?_) (fun c2=>?_)
  ·have c2:(o&&decide (s > en+l))=true:=c2
   rw [c2,Bool.or_true] at hr
   rw [hr]
   repeat' (first|refine zN ?_|refine zE ?_|refine zP ?_|refine pD ?_|refine zS ?_|refine zR ?_|refine zO ?_|refine zB ?_|refine zX ?_|refine zT ?_|refine skipI rfl ?_)
   refine endN rfl ?_
   repeat' (first|exact trivial|with_reducible exact rfl|refine And.intro ?_ ?_)
  ·have c2:(o&&decide (s > en+l))=false:=c2
   rw [c2,Bool.or_false] at hr
   rw [hr]
   repeat' (first|refine zN ?_|refine zE ?_|refine zP ?_|refine pD ?_|refine zS ?_|refine zR ?_|refine zO ?_|refine zB ?_|refine zX ?_|refine zT ?_|refine skipI rfl ?_)
   refine endN rfl ?_
   repeat' (first|exact trivial|with_reducible exact rfl|refine And.intro ?_ ?_)
 ·rw [c1] at hr
  repeat' (first|refine zN ?_|refine zE ?_|refine zP ?_|refine pD ?_|refine zS ?_|refine zR ?_|refine zO ?_|refine zB ?_|refine zX ?_|refine zT ?_|refine skipI rfl ?_)
  refine condI rfl (fun c3=>?_) (fun c3=>?_)
  ·rw [c3] at hr
   have hr:r=((a,b,l),e,true,la):=hr
   rw [hr]
   repeat' (first|refine zN ?_|refine zE ?_|refine zP ?_|refine pD ?_|refine zS ?_|refine zR ?_|refine zO ?_|refine zB ?_|refine zX ?_|refine zT ?_|refine skipI rfl ?_)
   refine endN rfl ?_
   repeat' (first|exact trivial|with_reducible exact rfl|refine And.intro ?_ ?_)
  ·rw [c3] at hr
   have hr:r=((a,b,l),en,o,la):=hr
   rw [hr]
   repeat' (first|refine zN ?_|refine zE ?_|refine zP ?_|refine pD ?_|refine zS ?_|refine zR ?_|refine zO ?_|refine zB ?_|refine zX ?_|refine zT ?_|refine skipI rfl ?_)
   refine endN rfl ?_
   repeat' (first|exact trivial|with_reducible exact rfl|refine And.intro ?_ ?_)
def stepV (w:WatT) (v:VisT):WatT:=bif timeB v.2.2.1&&timeB v.2.2.2 then seeF w v else w
def watF (x:WinT) (vs:List VisT):WatT:=vs.foldl stepV (x,0,false,false)
def watL (vs:List VisT):Nat→List WinT→List (Int × WatT)
 | _,[]=>[]
 | i,x::r=>((i:Int),watF x vs)::watL vs (i+1) r
def watA (mn mx:Int) (ss:List StepT) (ws:List WinT) (vs:List VisT):List (Int × WatT):=bif validF mn mx ss ws then watL vs 0 ws else []
theorem win_lim {mn mx:Int} {ss:List StepT} {ws:List WinT} (F:FlowSm mn mx ss ws) {i:Nat} (hi:i < ws.length):0≤(getI ws tWin.dflt i).2.2∧(getI ws tWin.dflt i).2.2≤1000000:=by
 have h:=F.wn i hi
 unfold rwF at h
 simp only [Bool.and_eq_true,inW_iff] at h
 exact h.2
def WatOk (w:WatT):Prop:=(0≤w.2.1∧w.2.1≤1000000)∧0≤w.1.2.2∧w.1.2.2≤1000000
theorem see_win {w:WatT} {v:VisT}:(seeF w v).1=w.1:=by
 unfold seeF
 cases decide (v.1=w.1.2.1) <;> cases decide (v.1=w.1.1) <;> rfl
theorem stepV_win {w:WatT} {v:VisT}:(stepV w v).1=w.1:=by
 unfold stepV
 cases timeB v.2.2.1&&timeB v.2.2.2
 ·rfl
 ·exact see_win
theorem time_iff {n:Int}:timeB n=true↔0≤n∧n≤1000000:=by unfold timeB;simp
theorem stepV_ok {w:WatT} {v:VisT} (h:WatOk w):WatOk (stepV w v):=by
 unfold stepV
 cases ht:timeB v.2.2.1&&timeB v.2.2.2
 ·exact h
 ·rw [Bool.and_eq_true,time_iff,time_iff] at ht
  have h2:=h.2
  have h1:=h.1
  show WatOk (seeF w v)
  unfold seeF
  cases decide (v.1=w.1.2.1) <;> cases decide (v.1=w.1.1)
  ·exact h
  ·exact ⟨ht.2,h2⟩
  ·exact ⟨h1,h2⟩
  ·exact ⟨h1,h2⟩
theorem foldV_ok:∀ {vs:List VisT} {w:WatT},WatOk w→WatOk (vs.foldl stepV w)
 | [],_,h=>h
 | _::vs,_,h=>foldV_ok (vs:=vs) (stepV_ok h)
theorem foldV_win:∀ {vs:List VisT} {w:WatT},(vs.foldl stepV w).1=w.1
 | [],_=>rfl
 | v::vs,w=>(foldV_win (vs:=vs) (w:=stepV w v)).trans stepV_win
theorem watL_mem {vs:List VisT} {p:Int × WatT}:∀ {ws:List WinT} {i:Nat},p∈watL vs i ws→∃ j x,ws[j]?=some x∧p=(((i+j:Nat):Int),watF x vs)
 | [],_,h=>by cases h
 | x::r,i,h=>by
   rcases List.mem_cons.1 h with rfl|h
   ·exact ⟨0,x,rfl,rfl⟩
   ·obtain ⟨j,y,h1,h2⟩:=watL_mem (ws:=r) (i:=i+1) h
    exact ⟨j+1,y,by simpa using h1,by rw [h2,show i+1+j=i+(j+1) by omega]⟩
theorem watL_len {vs:List VisT}:∀ {ws:List WinT} {i:Nat},(watL vs i ws).length=ws.length
 | [],_=>rfl
 | _::r,i=>by simp [watL,watL_len (ws:=r) (i:=i+1)]
theorem watA_ok {mn mx:Int} {ss:List StepT} {ws:List WinT} {vs:List VisT} {p:Int × WatT} (h:p∈watA mn mx ss ws vs):WatOk p.2:=by
 unfold watA at h
 cases hv:validF mn mx ss ws
 ·rw [hv] at h;cases h
 ·rw [hv] at h
  obtain ⟨j,x,h1,h2⟩:=watL_mem (show p∈watL vs 0 ws from h)
  have hj:j < ws.length:=(List.getElem?_eq_some_iff.1 h1).1
  have h3:=win_lim (flow_sm hv) hj
  rw [show getI ws tWin.dflt j=x by simp [getI,List.getD,h1]] at h3
  rw [h2]
  exact foldV_ok ⟨⟨Int.le_refl _,(by decide:(0:Int)≤1000000)⟩,h3⟩
theorem watA_len {mn mx:Int} {ss:List StepT} {ws:List WinT} {vs:List VisT}:(watA mn mx ss ws vs).length≤20:=by
 unfold watA
 cases hv:validF mn mx ss ws
 ·exact Nat.zero_le _
 ·show (watL vs 0 ws).length≤20
  rw [watL_len]
  exact (flow_sm hv).wl
def wat1S:Spec:=⟨true,fun args rows=>match args,rows with
 | [.own 0,.ptr 2 0,.ptr 3 0],[.yp 1,.yld (.pair (.int .i64) (.pair (.pair (.int .i64) (.pair (.int .i64) (.int .i64))) (.pair (.int .i64) (.pair .bool .bool)))) true Y p,
    .box [.int .i64 mn,.int .i64 mx,.sl (.pair (.int .i64) (.pair (.slice (.int .i64)) (.pair (.int .i64) (.pair (.int .i64) (.pair (.slice (.int .i64)) (.pair (.int .i64) (.int .i64))))))) ss,.sl (.pair (.int .i64) (.pair (.int .i64) (.int .i64))) ws],
    .box [.sl (.pair (.int .i64) (.pair (.int .i64) (.pair (.int .i64) (.int .i64)))) vs]] =>
   some ⟨YGo Y p (watA mn mx ss ws vs),.tup [],[.yp 4,.dead,.box [.int .i64 mn,.int .i64 mx,.sl tStep ss,.sl tWin ws],.box [.sl tVis vs],.yld (.pair tInt tWat) true Y (cut Y.cont p (watA mn mx ss ws vs)).1],true⟩
 | _,_=>none⟩
def sigW1:List (Nat × Spec):=[(74,fvalidS),(80,isTimeS),(81,seeS)]
theorem sigW1Ok:SigOk Tryz.prog (look sigW1):=sigCons (sigCons (sigCons sigNil
 Tryz.func81 (by kernel_rfl) (c:=body Tryz.f81) rfl seeOk)
 Tryz.func80 (by kernel_rfl) (c:=body Tryz.f80) rfl isTimeOk)
 Tryz.func74 (by kernel_rfl) (c:=body Tryz.f74) rfl fvalidOk
theorem wat1Ok:SpecSound Tryz.prog 79 wat1S:=by
 refine soundR (envOf sigW1Ok) Tryz.func79 (c:=body Tryz.f79) rfl (by kernel_rfl) rfl ?_
 intro args rows out hf hpre
 split at hf <;> try (cases hf;done)
 rename_i Y p mn mx ss ws vs
 cases hf
 refine ⟨Nat.le_of_ble_eq_true rfl,initI (args:=[.own 0,.ptr 2 0,.ptr 3 0]) (rows:=[.yp 1,.yld (.pair tInt tWat) true Y p,.box [.int .i64 mn,.int .i64 mx,.sl tStep ss,.sl tWin ws],.box [.sl tVis vs]]) rfl ?_⟩
 obtain ⟨tot,htot⟩:∃ tot,tot=(cut Y.cont p (watA mn mx ss ws vs)).1:=⟨_,rfl⟩
 rw [← htot]
 refine factBoxL (r:=100003) (j:=0) (ty:=tVis) rfl rfl (fun hxs=>?_)
 have hmx:List.length (α:=VisT) vs≤9223372036854775807:=by have:=hxs.1;unfold maxLen at this;exact this
 refine renameI 100001 3000 rfl ?_
 unfold watA at hpre htot
 repeat' (first|refine zN ?_|refine zE ?_|refine zP ?_|refine pD ?_|refine zS ?_|refine zR ?_|refine zO ?_|refine zB ?_|refine zX ?_|refine zT ?_|refine skipI rfl ?_)
 refine condI rfl (fun c1=>?_) (fun c1=>?_)
 ·have c1:validF mn mx ss ws=false:=by simpa using c1
  rw [c1] at htot
  have htot:tot=p:=htot
  rw [htot]
  repeat' (first|refine zN ?_|refine zE ?_|refine zP ?_|refine pD ?_|refine zS ?_|refine zR ?_|refine zO ?_|refine zB ?_|refine zX ?_|refine zT ?_|refine skipI rfl ?_)
  refine endN rfl ?_
  repeat' (first|exact trivial|with_reducible exact rfl|refine And.intro ?_ ?_)
 have c1:validF mn mx ss ws=true:=by simpa using c1
 rw [c1] at hpre htot
 have F:=flow_sm c1
 have hwl:=F.wl
 repeat' (first|refine zN ?_|refine zE ?_|refine zP ?_|refine pD ?_|refine zS ?_|refine zR ?_|refine zO ?_|refine zB ?_|refine zX ?_|refine zT ?_|refine skipI rfl ?_)
 refine loopI (σ:=Nat × List (Int × WatT)) (fun s=>[(15,.int .i64 s.1)]) (fun s=>[(100000,.yp 3000),(3000,.yld (.pair tInt tWat) true Y s.2)]) (fun s=>s.1≤ws.length∧YGo Y s.2 (watL vs s.1 (ws.drop s.1))∧tot=(cut Y.cont s.2 (watL vs s.1 (ws.drop s.1))).1) (fun s=>ws.length - s.1) (0,p) rfl (fun _=>rfl) rfl ?_ ?_ ?_
 ·exact ⟨Nat.zero_le _,hpre,htot⟩
 ·repeat' (first|exact trivial|exact rfl|refine ⟨rfl,?_⟩|refine And.intro ?_ ?_)
 rintro ⟨i,q⟩ ⟨hi,hA,hB⟩
 dsimp only at hi hA hB ⊢
 repeat' (first|refine zN ?_|refine zE ?_|refine zP ?_|refine pD ?_|refine zS ?_|refine zR ?_|refine zO ?_|refine zB ?_|refine zX ?_|refine zT ?_|refine skipI rfl ?_)
 refine condI rfl (fun c2=>?_) (fun c2=>?_)
 ·simp only [decide_eq_true_eq] at c2
  have hil:i < ws.length:=by omega
  have hin:((i:Int)).toNat=i:=by omega
  have hlim:=win_lim F hil
  rw [Re.drop_getI (d:=tWin.dflt) hil] at hA hB
  obtain ⟨x,hx⟩:∃ x,x=getI ws tWin.dflt i:=⟨_,rfl⟩
  rw [← hx] at hA hB hlim
  obtain ⟨hA1,hA2⟩:Y.ok (q++[((i:Int),watF x vs)])∧(Y.cont (q++[((i:Int),watF x vs)])=true→YGo Y (q++[((i:Int),watF x vs)]) (watL vs (i+1) (ws.drop (i+1)))):=hA
  have hB:tot=(bif Y.cont (q++[((i:Int),watF x vs)]) then cut Y.cont (q++[((i:Int),watF x vs)]) (watL vs (i+1) (ws.drop (i+1))) else (q++[((i:Int),watF x vs)],false)).1:=hB
  repeat' (first|refine zN ?_|refine zE ?_|refine zP ?_|refine pD ?_|refine zS ?_|refine zR ?_|refine zO ?_|refine zB ?_|refine zX ?_|refine zT ?_|refine skipI rfl ?_)
  simp only [hin,← hx]
  refine loopI (σ:=Nat × Int × Bool × Bool) (fun s=>[(25,.int .i64 s.1),(6,.ptr 5000 0)]) (fun s=>[(5000,.box [.int .i64 x.1,.int .i64 x.2.1,.int .i64 x.2.2,.int .i64 s.2.1,.bool s.2.2.1,.bool s.2.2.2])]) (fun s=>s.1≤List.length (α:=VisT) vs∧(List.take (α:=VisT) s.1 vs).foldl stepV (x,0,false,false)=(x,s.2)) (fun s=>List.length (α:=VisT) vs - s.1) (0,0,false,false) rfl (fun _=>rfl) rfl ?_ ?_ ?_
  ·exact ⟨Nat.zero_le _,rfl⟩
  ·repeat' (first|exact trivial|exact rfl|refine ⟨rfl,?_⟩|refine And.intro ?_ ?_)
  rintro ⟨j,e,o,la⟩ ⟨hj,hS⟩
  dsimp only at hj hS ⊢
  have hok:WatOk (x,e,o,la):=hS ▸ foldV_ok ⟨⟨Int.le_refl _,(by decide:(0:Int)≤1000000)⟩,hlim⟩
  obtain ⟨⟨e0,e1⟩,l0,l1⟩:=hok
  dsimp only at e0 e1 l0 l1
  repeat' (first|refine zN ?_|refine zE ?_|refine zP ?_|refine pD ?_|refine zS ?_|refine zR ?_|refine zO ?_|refine zB ?_|refine zX ?_|refine zT ?_|refine skipI rfl ?_)
  refine condI rfl (fun c3=>?_) (fun c3=>?_)
  ·simp only [decide_eq_true_eq] at c3
   have hjl:j < List.length (α:=VisT) vs:=by omega
   have hjn:((j:Int)).toNat=j:=by omega
   have hfs:(List.take (α:=VisT) (j+1) vs).foldl stepV (x,0,false,false)=stepV (x,e,o,la) (getI vs tVis.dflt j):=by rw [Re.take_getI (d:=tVis.dflt) hjl,List.foldl_append,hS];rfl
   obtain ⟨v,hv⟩:∃ v,v=getI vs tVis.dflt j:=⟨_,rfl⟩
   rw [← hv] at hfs
   unfold stepV at hfs
   repeat' (first|refine zN ?_|refine zE ?_|refine zP ?_|refine pD ?_|refine zS ?_|refine zR ?_|refine zO ?_|refine zB ?_|refine zX ?_|refine zT ?_|refine skipI rfl ?_)
   simp only [hjn,← hv]
   refine condI rfl (fun c4=>?_) (fun c4=>?_)
   ·have c4:(timeB v.2.2.1&&timeB v.2.2.2)=true:=c4
    rw [c4] at hfs
    have hfs:List.foldl stepV (x,0,false,false) (List.take (α:=VisT) (j+1) vs)=seeF (x,e,o,la) v:=hfs
    have hsw:(seeF (x,e,o,la) v).1=x:=see_win
    repeat' (first|refine zN ?_|refine zE ?_|refine zP ?_|refine pD ?_|refine pC (by (show In64 _;unfold In64;omega)) ?_|refine zS ?_|refine zR ?_|refine zO ?_|refine zB ?_|refine zX ?_|refine zT ?_|refine skipI rfl ?_)
    refine roundI (j+1,(seeF (x,e,o,la) v).2) rfl ?_ ?_ ?_
    ·exact ⟨by show j+1≤List.length (α:=VisT) vs;omega,by rw [hfs];show _=(x,(seeF (x,e,o,la) v).2);exact Prod.ext hsw rfl⟩
    ·show List.length (α:=VisT) vs - (j+1) < List.length (α:=VisT) vs - j
     omega
    ·repeat' (first|exact trivial|with_reducible exact rfl|refine And.intro ?_ ?_)
     all_goals (first|rfl|exact (congrArg (fun z=>z.1) hsw).symm|exact (congrArg (fun z=>z.2.1) hsw).symm|exact (congrArg (fun z=>z.2.2) hsw).symm)
   ·have c4:(timeB v.2.2.1&&timeB v.2.2.2)=false:=c4
    rw [c4] at hfs
    repeat' (first|refine zN ?_|refine zE ?_|refine zP ?_|refine pD ?_|refine zS ?_|refine zR ?_|refine zO ?_|refine zB ?_|refine zX ?_|refine zT ?_|refine skipI rfl ?_)
    refine roundI (j+1,e,o,la) rfl ?_ ?_ ?_
    ·exact ⟨by show j+1≤List.length (α:=VisT) vs;omega,hfs⟩
    ·show List.length (α:=VisT) vs - (j+1) < List.length (α:=VisT) vs - j
     omega
    ·repeat' (first|exact trivial|with_reducible exact rfl|refine And.intro ?_ ?_)
     all_goals rfl
  ·simp only [decide_eq_false_iff_not] at c3
   rw [List.take_of_length_le (show List.length (α:=VisT) vs≤j by omega)] at hS
   have hS:watF x vs=(x,e,o,la):=hS
   rw [hS] at hA1 hA2 hB
   repeat' (first|refine zN ?_|refine zE ?_|refine zP ?_|refine pD ?_|refine pC (by exact hA1) ?_|refine zS ?_|refine zR ?_|refine zO ?_|refine zB ?_|refine zX ?_|refine zT ?_|refine skipI rfl ?_)
   refine condI rfl (fun c5=>?_) (fun c5=>?_)
   ·have c5:Y.cont (q++[((i:Int),x,e,o,la)])=false:=(Bool.not_eq_true' _).mp c5
    rw [c5] at hB
    repeat' (first|refine zN ?_|refine zE ?_|refine zP ?_|refine pD ?_|refine zS ?_|refine zR ?_|refine zO ?_|refine zB ?_|refine zX ?_|refine zT ?_|refine skipI rfl ?_)
    refine endN rfl ?_
    repeat' (first|exact trivial|with_reducible exact rfl|refine And.intro ?_ ?_)
    exact hB
   ·have c5:Y.cont (q++[((i:Int),x,e,o,la)])=true:=(Bool.not_eq_false' _).mp c5
    rw [c5] at hB
    repeat' (first|refine zN ?_|refine zE ?_|refine zP ?_|refine pD ?_|refine zS ?_|refine zR ?_|refine zO ?_|refine zB ?_|refine zX ?_|refine zT ?_|refine skipI rfl ?_)
    refine roundI (i+1,q++[((i:Int),x,e,o,la)]) rfl ?_ ?_ ?_
    ·exact ⟨by show i+1≤ws.length;omega,hA2 c5,hB⟩
    ·show ws.length - (i+1) < ws.length - i
     omega
    ·repeat' (first|exact trivial|with_reducible exact rfl|refine And.intro ?_ ?_)
     all_goals rfl
 ·simp only [decide_eq_false_iff_not] at c2
  rw [List.drop_eq_nil_of_le (by omega)] at hB
  have hB:tot=q:=hB
  rw [hB]
  repeat' (first|refine zN ?_|refine zE ?_|refine zP ?_|refine pD ?_|refine zS ?_|refine zR ?_|refine zO ?_|refine zB ?_|refine zX ?_|refine zT ?_|refine skipI rfl ?_)
  refine endN rfl ?_
  repeat' (first|exact trivial|with_reducible exact rfl|refine And.intro ?_ ?_)
def watS:Spec:=⟨true,fun args rows=>match args,rows with
 | [.agg [.int .i64 mn,.int .i64 mx,.sl (.pair (.int .i64) (.pair (.slice (.int .i64)) (.pair (.int .i64) (.pair (.int .i64) (.pair (.slice (.int .i64)) (.pair (.int .i64) (.int .i64))))))) ss,.sl (.pair (.int .i64) (.pair (.int .i64) (.int .i64))) ws],.sl (.pair (.int .i64) (.pair (.int .i64) (.pair (.int .i64) (.int .i64)))) vs],[] =>
   some ⟨True,.fn 79 [] [.ptr 0 0,.ptr 1 0],[.box [.int .i64 mn,.int .i64 mx,.sl tStep ss,.sl tWin ws],.box [.sl tVis vs]],true⟩
 | _,_=>none⟩
theorem watOk:SpecSound Tryz.prog 49 watS:=by
 refine soundR (envOf sigNil) Tryz.func49 (c:=body Tryz.f49) rfl (by kernel_rfl) rfl ?_
 intro args rows out hf hpre
 split at hf <;> try (cases hf;done)
 rename_i mn mx ss ws vs
 cases hf
 refine ⟨Nat.le_of_ble_eq_true rfl,initI (args:=[.agg [.int .i64 mn,.int .i64 mx,.sl tStep ss,.sl tWin ws],.sl tVis vs]) (rows:=[]) rfl ?_⟩
 repeat' (first|refine zN ?_|refine zE ?_|refine zP ?_|refine pD ?_|refine zS ?_|refine zR ?_|refine zO ?_|refine zB ?_|refine zX ?_|refine zT ?_|refine skipI rfl ?_)
 refine endR rfl ?_
 repeat' (first|exact trivial|exact rfl|refine ⟨rfl,?_⟩|refine And.intro ?_ ?_)
def sigWt:List (Nat × Spec):=[(49,watS),(79,wat1S)]
theorem sigWtOk:SigOk Tryz.prog (look sigWt):=sigCons (sigCons sigNil
 Tryz.func79 (by kernel_rfl) (c:=body Tryz.f79) rfl wat1Ok)
 Tryz.func49 (by kernel_rfl) (c:=body Tryz.f49) rfl watOk
def lateQ (q:List (Int × WatT)):List Int:=(q.filter fun p=>p.2.2.2.2).map Prod.fst
def openQ (q:List (Int × WatT)):List (Int × Int):=(q.filter fun p=>p.2.2.2.1).map fun p=>(p.1,p.2.2.1+p.2.1.2.2)
theorem lateQ_snoc {q:List (Int × WatT)} {p:Int × WatT}:lateQ (q++[p])=bif p.2.2.2.2 then lateQ q++[p.1] else lateQ q:=by
 unfold lateQ
 rw [List.filter_append,List.map_append]
 cases h:p.2.2.2.2 <;> simp [h]
theorem openQ_snoc {q:List (Int × WatT)} {p:Int × WatT}:openQ (q++[p])=bif p.2.2.2.1 then openQ q++[(p.1,p.2.2.1+p.2.1.2.2)] else openQ q:=by
 unfold openQ
 rw [List.filter_append,List.map_append]
 cases h:p.2.2.2.1 <;> simp [h]
theorem lateQ_len {q:List (Int × WatT)}:(lateQ q).length≤q.length:=by unfold lateQ;rw [List.length_map];exact List.length_filter_le _ _
theorem openQ_len {q:List (Int × WatT)}:(openQ q).length≤q.length:=by unfold openQ;rw [List.length_map];exact List.length_filter_le _ _
def lateS:Spec:=plain fun
 | [.agg [.int .i64 mn,.int .i64 mx,.sl (.pair (.int .i64) (.pair (.slice (.int .i64)) (.pair (.int .i64) (.pair (.int .i64) (.pair (.slice (.int .i64)) (.pair (.int .i64) (.int .i64))))))) ss,.sl (.pair (.int .i64) (.pair (.int .i64) (.int .i64))) ws],.sl (.pair (.int .i64) (.pair (.int .i64) (.pair (.int .i64) (.int .i64)))) vs] =>
   some ⟨True,.own 0,[.seq tInt (lateQ (watA mn mx ss ws vs))],false⟩
 | _=>none
theorem lateOk:SpecSound Tryz.prog 21 lateS:=by
 refine soundP (envOf sigWtOk) Tryz.func21 (c:=body Tryz.f21) rfl (by kernel_rfl) rfl ?_
 intro args out hf hpre
 split at hf <;> try (cases hf;done)
 rename_i mn mx ss ws vs
 cases hf
 refine ⟨Nat.le_of_ble_eq_true rfl,initI (args:=[.agg [.int .i64 mn,.int .i64 mx,.sl tStep ss,.sl tWin ws],.sl tVis vs]) rfl ?_⟩
 repeat' (first|refine zN ?_|refine zE ?_|refine zP ?_|refine pD ?_|refine zS ?_|refine zR ?_|refine zO ?_|refine zB ?_|refine zX ?_|refine zT ?_|refine skipI rfl ?_)
 refine rangeI ((.pair tInt tWat)) true (fun q=>[(4,.box [.own 55000]),(55000,.seq tInt (lateQ q))]) (fun _=>none) (watA mn mx ss ws vs) 9 rfl rfl rfl rfl rfl rfl rfl rfl rfl (fun _=>rfl) (fun _=>rfl) (fun _=>rfl) rfl rfl rfl ?_ ?_ ?_ ?_ ?_ ?_
 ·exact ⟨rfl,rfl,rfl,by repeat' (first|exact trivial|exact rfl|refine And.intro ?_ ?_),by repeat' (first|exact trivial|exact rfl|refine And.intro ?_ ?_),rfl,rfl,rfl⟩
 ·repeat' (first|exact trivial|exact rfl|refine ⟨rfl,?_⟩|refine And.intro ?_ ?_)
 ·rfl
 ·intro J
  exact ⟨_,_,rfl,fun h=>h,rfl,rfl⟩
 ·intro l q x hq hjq hok
  refine ⟨_,rfl,?_⟩
  have hl:=Nat.le_trans (List.IsPrefix.length_le hq) watA_len
  rw [List.length_append,List.length_singleton] at hl
  have hlq:=lateQ_len (q:=q)
  rw [lateQ_snoc]
  repeat' (first|refine zN ?_|refine zE ?_|refine zP ?_|refine pD ?_|refine zS ?_|refine zR ?_|refine zO ?_|refine zB ?_|refine zX ?_|refine zT ?_|refine skipI rfl ?_)
  refine asN ?_
  repeat' (first|refine zN ?_|refine zE ?_|refine zP ?_|refine pD ?_|refine zS ?_|refine zR ?_|refine zO ?_|refine zB ?_|refine zX ?_|refine zT ?_|refine skipI rfl ?_)
  refine condI rfl (fun c3=>?_) (fun c3=>?_)
  ·have c3:x.2.2.2.2=true:=c3
   rw [c3]
   repeat' (first|refine zN ?_|refine zE ?_|refine zP ?_|refine pD ?_|refine pC (by (show List.length _+_≤_;simp;omega)) ?_|refine zS ?_|refine zR ?_|refine zO ?_|refine zB ?_|refine zX ?_|refine zT ?_|refine skipI rfl ?_)
   refine yN rfl rfl ?_
   repeat' (first|exact trivial|exact rfl|refine ⟨rfl,?_⟩|refine And.intro ?_ ?_)
  ·have c3:x.2.2.2.2=false:=c3
   rw [c3]
   repeat' (first|refine zN ?_|refine zE ?_|refine zP ?_|refine pD ?_|refine zS ?_|refine zR ?_|refine zO ?_|refine zB ?_|refine zX ?_|refine zT ?_|refine skipI rfl ?_)
   refine yN rfl rfl ?_
   repeat' (first|exact trivial|exact rfl|refine ⟨rfl,?_⟩|refine And.intro ?_ ?_)
 ·rw [cut_none]
  repeat' (first|refine zN ?_|refine zE ?_|refine zP ?_|refine pD ?_|refine zS ?_|refine zR ?_|refine zO ?_|refine zB ?_|refine zX ?_|refine zT ?_|refine skipI rfl ?_)
  refine endR rfl ?_
  repeat' (first|exact trivial|exact rfl|refine ⟨rfl,?_⟩|refine And.intro ?_ ?_)
def openS:Spec:=plain fun
 | [.agg [.int .i64 mn,.int .i64 mx,.sl (.pair (.int .i64) (.pair (.slice (.int .i64)) (.pair (.int .i64) (.pair (.int .i64) (.pair (.slice (.int .i64)) (.pair (.int .i64) (.int .i64))))))) ss,.sl (.pair (.int .i64) (.pair (.int .i64) (.int .i64))) ws],.sl (.pair (.int .i64) (.pair (.int .i64) (.pair (.int .i64) (.int .i64)))) vs] =>
   some ⟨True,.own 0,[.seq (.pair tInt tInt) (openQ (watA mn mx ss ws vs))],false⟩
 | _=>none
theorem openOk:SpecSound Tryz.prog 22 openS:=by
 refine soundP (envOf sigWtOk) Tryz.func22 (c:=body Tryz.f22) rfl (by kernel_rfl) rfl ?_
 intro args out hf hpre
 split at hf <;> try (cases hf;done)
 rename_i mn mx ss ws vs
 cases hf
 refine ⟨Nat.le_of_ble_eq_true rfl,initI (args:=[.agg [.int .i64 mn,.int .i64 mx,.sl tStep ss,.sl tWin ws],.sl tVis vs]) rfl ?_⟩
 repeat' (first|refine zN ?_|refine zE ?_|refine zP ?_|refine pD ?_|refine zS ?_|refine zR ?_|refine zO ?_|refine zB ?_|refine zX ?_|refine zT ?_|refine skipI rfl ?_)
 refine rangeI ((.pair tInt tWat)) true (fun q=>[(4,.box [.own 55000]),(55000,.seq (.pair tInt tInt) (openQ q))]) (fun _=>none) (watA mn mx ss ws vs) 9 rfl rfl rfl rfl rfl rfl rfl rfl rfl (fun _=>rfl) (fun _=>rfl) (fun _=>rfl) rfl rfl rfl ?_ ?_ ?_ ?_ ?_ ?_
 ·exact ⟨rfl,rfl,rfl,by repeat' (first|exact trivial|exact rfl|refine And.intro ?_ ?_),by repeat' (first|exact trivial|exact rfl|refine And.intro ?_ ?_),rfl,rfl,rfl⟩
 ·repeat' (first|exact trivial|exact rfl|refine ⟨rfl,?_⟩|refine And.intro ?_ ?_)
 ·rfl
 ·intro J
  exact ⟨_,_,rfl,fun h=>h,rfl,rfl⟩
 ·intro l q x hq hjq hok
  refine ⟨_,rfl,?_⟩
  have hl:=Nat.le_trans (List.IsPrefix.length_le hq) watA_len
  rw [List.length_append,List.length_singleton] at hl
  have hlq:=openQ_len (q:=q)
  obtain ⟨⟨b0,b1⟩,b2,b3⟩:=watA_ok (hq.subset (show x∈q++[x] by simp))
  rw [openQ_snoc]
  repeat' (first|refine zN ?_|refine zE ?_|refine zP ?_|refine pD ?_|refine zS ?_|refine zR ?_|refine zO ?_|refine zB ?_|refine zX ?_|refine zT ?_|refine skipI rfl ?_)
  refine asN ?_
  repeat' (first|refine zN ?_|refine zE ?_|refine zP ?_|refine pD ?_|refine zS ?_|refine zR ?_|refine zO ?_|refine zB ?_|refine zX ?_|refine zT ?_|refine skipI rfl ?_)
  refine condI rfl (fun c3=>?_) (fun c3=>?_)
  ·have c3:x.2.2.2.1=true:=c3
   rw [c3]
   repeat' (first|refine zN ?_|refine zE ?_|refine zP ?_|refine pD ?_|refine pC (by first|(show List.length _+_≤_;simp;omega)|(unfold In64;omega)|(show In64 _∧_;exact ⟨by unfold In64;omega,by simp;omega⟩)) ?_|refine zS ?_|refine zR ?_|refine zO ?_|refine zB ?_|refine zX ?_|refine zT ?_|refine skipI rfl ?_)
   refine yN rfl rfl ?_
   repeat' (first|exact trivial|exact rfl|refine ⟨rfl,?_⟩|refine And.intro ?_ ?_)
  ·have c3:x.2.2.2.1=false:=c3
   rw [c3]
   repeat' (first|refine zN ?_|refine zE ?_|refine zP ?_|refine pD ?_|refine zS ?_|refine zR ?_|refine zO ?_|refine zB ?_|refine zX ?_|refine zT ?_|refine skipI rfl ?_)
   refine yN rfl rfl ?_
   repeat' (first|exact trivial|exact rfl|refine ⟨rfl,?_⟩|refine And.intro ?_ ?_)
 ·rw [cut_none]
  repeat' (first|refine zN ?_|refine zE ?_|refine zP ?_|refine pD ?_|refine zS ?_|refine zR ?_|refine zO ?_|refine zB ?_|refine zX ?_|refine zT ?_|refine skipI rfl ?_)
  refine endR rfl ?_
  repeat' (first|exact trivial|exact rfl|refine ⟨rfl,?_⟩|refine And.intro ?_ ?_)
end Go.AM.YtmohhhbgcehnpaaGreat.Fl
end
