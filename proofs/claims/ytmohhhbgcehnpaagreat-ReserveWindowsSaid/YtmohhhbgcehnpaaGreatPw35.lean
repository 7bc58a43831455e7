/- WnD, WnE, WnF, WnP. -/
import Derived.Test.YtmohhhbgcehnpaaGreatPw34
import Derived.Test.YtmohhhbgcehnpaaGreatPw26
import Derived.Test.YtmohhhbgcehnpaaGreatPw17

section
set_option linter.all false
namespace Go.AM.YtmohhhbgcehnpaaGreat.Fl
open Go.Proofs
set_option maxRecDepth 100000
set_option maxHeartbeats 4000000
abbrev tNeed:Ty:=.pair (.slice (.int .i64)) (.pair (.int .i64) (.int .i64))
abbrev NeedT:=List Int × Int × Int
def needAt (ss:List StepT) (rt:List Int) (f:Int) (i:Nat):NeedT:=((getI ss tStep.dflt (getI rt 0 (f.toNat+i)).toNat).2.1,(getI ss tStep.dflt (getI rt 0 (f.toNat+i)).toNat).2.2.1,(getI ss tStep.dflt (getI rt 0 (f.toNat+i)).toNat).2.2.2.1)
def needsF (ss:List StepT) (rt:List Int) (f:Int) (n:Nat):List NeedT:=(List.range n).map (needAt ss rt f)
def winAt (m:LkM) (f:Int) (i j:Nat):List WinT:=match findK m (f+(i:Int),f+(j:Int)) with
 | some l=>[((i:Int),(j:Int),l)]
 | none=>[]
def winRow (m:LkM) (f:Int) (i:Nat):Nat→List WinT
 | 0=>[]
 | j+1=>winRow m f i j++winAt m f i j
def winAll (m:LkM) (f:Int) (n:Nat):Nat→List WinT
 | 0=>[]
 | i+1=>winAll m f n i++winRow m f i n
theorem needsF_succ {ss:List StepT} {rt:List Int} {f:Int} {i:Nat}:needsF ss rt f (i+1)=needsF ss rt f i++[needAt ss rt f i]:=by unfold needsF;rw [List.range_succ,List.map_append];rfl
theorem winRow_len {m:LkM} {f:Int} {i:Nat}:∀ {j:Nat},(winRow m f i j).length≤j
 | 0=>Nat.le_refl _
 | j+1=>by
   show (winRow m f i j++winAt m f i j).length≤j+1
   rw [List.length_append]
   have:=winRow_len (m:=m) (f:=f) (i:=i) (j:=j)
   unfold winAt
   split <;> simp <;> omega
theorem winAll_len {m:LkM} {f:Int} {n:Nat}:∀ {i:Nat},(winAll m f n i).length≤i * n
 | 0=>Nat.zero_le _
 | i+1=>by
   show (winAll m f n i++winRow m f i n).length≤(i+1) * n
   rw [List.length_append,Nat.succ_mul]
   have:=winAll_len (m:=m) (f:=f) (n:=n) (i:=i)
   have:=winRow_len (m:=m) (f:=f) (i:=i) (j:=n)
   omega
abbrev RqT:=Int × Int × Int × List NeedT × List WinT
def argB (rt:List Int) (f t e:Int):Bool:=(((((hasB rt f&&hasB rt t)&&decide (f≤t))&&decide (t - f < 8))&&decide (0≤e))&&decide (e≤1000000))
def reqW (rt:List Int) (ws:List WinT) (f t:Int):List WinT:=winAll (linksF rt ws) f (t - f+1).toNat (t - f+1).toNat
def reqB (mn mx:Int) (ss:List StepT) (ws:List WinT) (rt:List Int) (f t e:Int):Bool:=(lineB mn mx ss ws rt&&argB rt f t e)&&decide ((reqW rt ws f t).length≤20)
def reqF (mn mx:Int) (ss:List StepT) (ws:List WinT) (rt:List Int) (f t e:Int):RqT:=bif reqB mn mx ss ws rt f t e then (e,mn,mx,needsF ss rt f (t - f+1).toNat,reqW rt ws f t) else (0,0,0,[],[])
def reqE (mn mx:Int) (ss:List StepT) (ws:List WinT) (rt:List Int) (f t e:Int):Int:=bif reqB mn mx ss ws rt f t e then 0 else 60
def reqS:Spec:=⟨true,fun args rows=>match args,rows with
 | [.agg [.int .i64 mn,.int .i64 mx,.sl (.pair (.int .i64) (.pair (.slice (.int .i64)) (.pair (.int .i64) (.pair (.int .i64) (.pair (.slice (.int .i64)) (.pair (.int .i64) (.int .i64))))))) ss,.sl (.pair (.int .i64) (.pair (.int .i64) (.int .i64))) ws],.sl (.int .i64) rt,.int .i64 f,.int .i64 t,.int .i64 e],[] =>
   some ⟨True,.tup [.agg [.int .i64 (reqF mn mx ss ws rt f t e).1,.int .i64 (reqF mn mx ss ws rt f t e).2.1,.int .i64 (reqF mn mx ss ws rt f t e).2.2.1,.sl tNeed (reqF mn mx ss ws rt f t e).2.2.2.1,.sl tWin (reqF mn mx ss ws rt f t e).2.2.2.2],.int .i64 (reqE mn mx ss ws rt f t e)],[],true⟩
 | _,_=>none⟩
def reqYS:Spec:=⟨true,fun args rows=>match args,rows with
 | [.agg [.int .i64 mn,.int .i64 mx,.sl (.pair (.int .i64) (.pair (.slice (.int .i64)) (.pair (.int .i64) (.pair (.int .i64) (.pair (.slice (.int .i64)) (.pair (.int .i64) (.int .i64))))))) ss,.sl (.pair (.int .i64) (.pair (.int .i64) (.int .i64))) ws],.sl (.int .i64) rt,.int .i64 f,.int .i64 t,.int .i64 e],[] =>
   some ⟨lineB mn mx ss ws rt=true,.tup [.agg [.int .i64 (reqF mn mx ss ws rt f t e).1,.int .i64 (reqF mn mx ss ws rt f t e).2.1,.int .i64 (reqF mn mx ss ws rt f t e).2.2.1,.sl tNeed (reqF mn mx ss ws rt f t e).2.2.2.1,.sl tWin (reqF mn mx ss ws rt f t e).2.2.2.2],.int .i64 (reqE mn mx ss ws rt f t e)],[],true⟩
 | _,_=>none⟩
def reqNS:Spec:=⟨true,fun args rows=>match args,rows with
 | [.agg [.int .i64 mn,.int .i64 mx,.sl (.pair (.int .i64) (.pair (.slice (.int .i64)) (.pair (.int .i64) (.pair (.int .i64) (.pair (.slice (.int .i64)) (.pair (.int .i64) (.int .i64))))))) ss,.sl (.pair (.int .i64) (.pair (.int .i64) (.int .i64))) ws],.sl (.int .i64) rt,.int .i64 f,.int .i64 t,.int .i64 e],[] =>
   some ⟨lineB mn mx ss ws rt=false,.tup [.agg [.int .i64 0,.int .i64 0,.int .i64 0,.sl tNeed [],.sl tWin []],.int .i64 60],[],true⟩
 | _,_=>none⟩
def sigRqN:List (Nat × Spec):=[(44,lineNS),(45,hasS),(46,Re.cloneIS)]
theorem sigRqNOk:SigOk Tryz.prog (look sigRqN):=sigCons (sigCons (sigCons sigNil
 Tryz.func46 (by kernel_rfl) (c:=body Tryz.f46) rfl Re.cloneIOk)
 Tryz.func45 (by kernel_rfl) (c:=body Tryz.f45) rfl hasOk)
 Tryz.func44 (by kernel_rfl) (c:=body Tryz.f44) rfl lineNOk
def sigRqY:List (Nat × Spec):=[(44,lineYS),(45,hasS),(46,Re.cloneIS)]
theorem sigRqYOk:SigOk Tryz.prog (look sigRqY):=sigCons (sigCons (sigCons sigNil
 Tryz.func46 (by kernel_rfl) (c:=body Tryz.f46) rfl Re.cloneIOk)
 Tryz.func45 (by kernel_rfl) (c:=body Tryz.f45) rfl hasOk)
 Tryz.func44 (by kernel_rfl) (c:=body Tryz.f44) rfl lineYOk
theorem argB_of {rt:List Int} {f t e:Int} (hf:hasB rt f=true):argB rt f t e=!(((((false||!(hasB rt t))||decide (t < f))||decide (8≤t - f))||decide (e < 0))||decide (1000000 < e)):=by
 unfold argB
 rw [hf,Bool.eq_iff_iff]
 cases hb:hasB rt t
 ·simp
 ·simp
theorem sub64 {rt:List Int} {f t:Int} (hl:rt.length≤9223372036854775807) (hf:hasB rt f=true) (h:((false||!hasB rt t)||decide (t < f))=false):In64 (t - f):=by
 rw [Bool.or_eq_false_iff] at h
 have h2:hasB rt t=true:=by simpa using h.1
 unfold hasB at hf h2
 simp only [Bool.and_eq_true,decide_eq_true_eq] at hf h2
 have h3:=of_decide_eq_false h.2
 unfold In64
 omega
theorem argB_facts {rt:List Int} {f t e:Int} (h:argB rt f t e=true):(0≤f∧f < rt.length)∧(0≤t∧t < rt.length)∧f≤t∧t - f < 8:=by
 unfold argB hasB at h
 simp only [Bool.and_eq_true,decide_eq_true_eq] at h
 omega
theorem reqNOk:SpecSound Tryz.prog 18 reqNS:=by
 refine soundR (envOf sigRqNOk) Tryz.func18 (c:=body Tryz.f18) rfl (by kernel_rfl) rfl ?_
 intro args rows out hf hpre
 split at hf <;> try (cases hf;done)
 rename_i mn mx ss ws rt f t e
 cases hf
 refine ⟨Nat.le_of_ble_eq_true rfl,initI (args:=[.agg [.int .i64 mn,.int .i64 mx,.sl tStep ss,.sl tWin ws],.sl tInt rt,.int .i64 f,.int .i64 t,.int .i64 e]) (rows:=[]) rfl ?_⟩
 have hpre:lineB mn mx ss ws rt=false:=hpre
 repeat' (first|refine zN ?_|refine zE ?_|refine zP ?_|refine zS ?_|refine zO ?_|refine zB ?_|refine zX ?_|refine zT ?_|refine skipI rfl ?_)
 refine zR ?_
 repeat' (first|with_reducible refine pN ?_|refine pD ?_|refine pC (by exact hpre) ?_)
 repeat with_reducible refine cN ?_
 repeat' (first|refine zN ?_|refine zE ?_|refine zP ?_|refine zS ?_|refine zO ?_|refine zB ?_|refine zX ?_|refine zT ?_|refine skipI rfl ?_)
 refine zR ?_
 repeat' (first|with_reducible refine pN ?_|refine pD ?_|refine pC (by exact hpre) ?_)
 repeat with_reducible refine cN ?_
 repeat' (first|with_reducible refine cN ?_|refine skipI rfl ?_|refine zS ?_|fail)
 refine regH [(29,true),(35,true),(41,true),(46,true)] rfl ?_
 repeat' (first|with_reducible refine pN ?_|refine pC (by first|exact True.intro|rfl) ?_)
 repeat' (first|refine zN ?_|refine zE ?_|refine zP ?_|refine pD ?_|refine zS ?_|refine zR ?_|refine zO ?_|refine zB ?_|refine zX ?_|refine zT ?_|refine skipI rfl ?_)
 refine condT rfl ?_
 repeat' (first|refine zN ?_|refine zE ?_|refine zP ?_|refine pD ?_|refine zS ?_|refine zR ?_|refine zO ?_|refine zB ?_|refine zX ?_|refine zT ?_|refine skipI rfl ?_)
 refine endR rfl ?_
 repeat' (first|exact trivial|exact rfl|refine ⟨rfl,?_⟩|refine And.intro ?_ ?_)
theorem reqYOk:SpecSound Tryz.prog 18 reqYS:=by
 refine soundR (envOf sigRqYOk) Tryz.func18 (c:=body Tryz.f18) rfl (by kernel_rfl) rfl ?_
 intro args rows out hf hpre
 split at hf <;> try (cases hf;done)
 rename_i mn mx ss ws rt f t e
 cases hf
 refine ⟨Nat.le_of_ble_eq_true rfl,initI (args:=[.agg [.int .i64 mn,.int .i64 mx,.sl tStep ss,.sl tWin ws],.sl tInt rt,.int .i64 f,.int .i64 t,.int .i64 e]) (rows:=[]) rfl ?_⟩
 have hpre:lineB mn mx ss ws rt=true:=hpre
 refine factSl (t:=1) (ty:=tInt) rfl (fun hxs=>?_)
 have hmx:List.length (α:=Int) rt≤9223372036854775807:=by have:=hxs.1;unfold maxLen at this;exact this
 obtain ⟨r,hr⟩:∃ r,r=reqF mn mx ss ws rt f t e:=⟨_,rfl⟩
 obtain ⟨er,her⟩:∃ er,er=reqE mn mx ss ws rt f t e:=⟨_,rfl⟩
 rw [← hr,← her]
 unfold reqF reqB at hr
 unfold reqE reqB at her
 rw [hpre] at hr her
 have hr:r=bif argB rt f t e&&decide ((reqW rt ws f t).length≤20) then (e,mn,mx,needsF ss rt f (t - f+1).toNat,reqW rt ws f t) else (0,0,0,[],[]):=hr
 have her:er=bif argB rt f t e&&decide ((reqW rt ws f t).length≤20) then 0 else 60:=her
 repeat' (first|refine zN ?_|refine zE ?_|refine zP ?_|refine zS ?_|refine zO ?_|refine zB ?_|refine zX ?_|refine zT ?_|refine skipI rfl ?_)
 refine zR ?_
 repeat' (first|with_reducible refine pN ?_|refine pD ?_|refine pC (by exact hpre) ?_)
 repeat with_reducible refine cN ?_
 repeat' (first|refine zN ?_|refine zE ?_|refine zP ?_|refine zS ?_|refine zO ?_|refine zB ?_|refine zX ?_|refine zT ?_|refine skipI rfl ?_)
 refine zR ?_
 repeat' (first|with_reducible refine pN ?_|refine pD ?_|refine pC (by exact hpre) ?_)
 repeat with_reducible refine cN ?_
 repeat' (first|with_reducible refine cN ?_|refine skipI rfl ?_|refine zS ?_|fail)
 cases hf:hasB rt f
 ·have hA:argB rt f t e=false:=by unfold argB;rw [hf];rfl
  rw [hA] at hr her
  rw [show r=(0,0,0,[],[]) from hr,show er=60 from her]
  refine regH [(29,false),(35,true),(41,true),(46,true)] rfl ?_
  repeat' (first|with_reducible refine pN ?_|refine pC (by first|exact True.intro|rfl|(show (!hasB rt f)=true;rw [hf];rfl)) ?_)
  repeat' (first|refine zN ?_|refine zE ?_|refine zP ?_|refine pD ?_|refine zS ?_|refine zR ?_|refine zO ?_|refine zB ?_|refine zX ?_|refine zT ?_|refine skipI rfl ?_)
  refine condT rfl ?_
  repeat' (first|refine zN ?_|refine zE ?_|refine zP ?_|refine pD ?_|refine zS ?_|refine zR ?_|refine zO ?_|refine zB ?_|refine zX ?_|refine zT ?_|refine skipI rfl ?_)
  refine endR rfl ?_
  repeat' (first|exact trivial|exact rfl|refine ⟨rfl,?_⟩|refine And.intro ?_ ?_)
 ·refine regH [(29,false),(35,false)] rfl ?_
  repeat' (first|with_reducible refine pN ?_|refine pC (by first|exact True.intro|rfl|(show (false||!hasB rt f)=false;rw [hf];rfl)|exact sub64 hmx hf) ?_)
  have hAe:=argB_of (t:=t) (e:=e) hf
  repeat' (first|refine zN ?_|refine zE ?_|refine zP ?_|refine pD ?_|refine zS ?_|refine zR ?_|refine zO ?_|refine zB ?_|refine zX ?_|refine zT ?_|refine skipI rfl ?_)
  refine condI rfl (fun c1=>?_) (fun c1=>?_)
  ·have c1:(((((false||!(hasB rt t))||decide (t < f))||decide (8≤t - f))||decide (e < 0))||decide (1000000 < e))=true:=c1
   rw [c1] at hAe
   rw [hAe] at hr her
   rw [show r=(0,0,0,[],[]) from hr,show er=60 from her]
   repeat' (first|refine zN ?_|refine zE ?_|refine zP ?_|refine pD ?_|refine zS ?_|refine zR ?_|refine zO ?_|refine zB ?_|refine zX ?_|refine zT ?_|refine skipI rfl ?_)
   refine endR rfl ?_
   repeat' (first|exact trivial|exact rfl|refine ⟨rfl,?_⟩|refine And.intro ?_ ?_)
  have c1:(((((false||!(hasB rt t))||decide (t < f))||decide (8≤t - f))||decide (e < 0))||decide (1000000 < e))=false:=c1
  rw [c1] at hAe
  rw [hAe] at hr her
  obtain ⟨⟨f0,f1⟩,⟨t0,t1⟩,hft,h8⟩:=argB_facts hAe
  obtain ⟨n,hn⟩:∃ n:Nat,n=(t - f+1).toNat:=⟨_,rfl⟩
  have hW:reqW rt ws f t=winAll (linksF rt ws) f n n:=by unfold reqW;rw [← hn]
  rw [← hn,hW] at hr
  rw [hW] at her
  have hin:=linksF_in (rt:=rt) (ws:=ws)
  obtain ⟨m,hm⟩:∃ m,m=linksF rt ws:=⟨_,rfl⟩
  rw [← hm] at hr her hin ⊢
  have hlen:(List.drop (α:=Int) (Int.toNat f) (List.take (α:=Int) (Int.toNat (t+1)) rt)).length=n:=by rw [List.length_drop,List.length_take];omega
  repeat' (first|refine zN ?_|refine zE ?_|refine zP ?_|refine pD ?_|refine pC (by first|omega|(unfold In64;omega)) ?_|refine zS ?_|refine zR ?_|refine zO ?_|refine zB ?_|refine zX ?_|refine zT ?_|refine skipI rfl ?_)
  obtain ⟨rs,hrs⟩:∃ rs:List Int,rs=List.drop (α:=Int) (Int.toNat f) (List.take (α:=Int) (Int.toNat (t+1)) rt):=⟨_,rfl⟩
  rw [← hrs] at hlen ⊢
  simp only [hlen]
  have hlb:(∀ s∈rt,badN ss.length s=false)∧validF mn mx ss ws=true:=by
   unfold lineB at hpre
   rw [Bool.and_eq_true,Bool.not_eq_true',List.any_eq_false] at hpre
   exact ⟨fun s hs=>by simpa using hpre.2 s hs,hpre.1⟩
  have F:=flow_sm hlb.2
  refine loopI (σ:=Nat) (fun i=>[(73,.int .i64 i),(12,.ptr 5000 0)]) (fun i=>[(5000,.box [.sl tInt rt,.own 5001]),(5001,.map tLk tInt m),(14,.box [.int .i64 e,.int .i64 mn,.int .i64 mx,.own 3000,.own 3001]),(3000,.seq tNeed (needsF ss rt f i)),(3001,.seq tWin (winAll m f n i))]) (fun i=>i≤n) (fun i=>n - i) 0 rfl (fun _=>rfl) rfl ?_ ?_ ?_
  ·exact Nat.zero_le _
  ·repeat' (first|exact trivial|exact rfl|refine ⟨rfl,?_⟩|refine And.intro ?_ ?_)
  intro i hi
  have hwl:=winAll_len (m:=m) (f:=f) (n:=n) (i:=i)
  have hw8:i * n≤8 * 8:=Nat.mul_le_mul (by omega) (by omega)
  have hnl:(needsF ss rt f i).length=i:=by unfold needsF;rw [List.length_map,List.length_range]
  repeat' (first|refine zN ?_|refine zE ?_|refine zP ?_|refine pD ?_|refine zS ?_|refine zR ?_|refine zO ?_|refine zB ?_|refine zX ?_|refine zT ?_|refine skipI rfl ?_)
  refine condI rfl (fun c2=>?_) (fun c2=>?_)
  ·simp only [decide_eq_true_eq] at c2
   have hil:i < n:=by omega
   have hii:((i:Int)).toNat=i:=by omega
   obtain ⟨st,hst⟩:∃ st:Int,st=getI rt 0 (f.toNat+i):=⟨_,rfl⟩
   have hg:getI rs tInt.dflt i=st:=by
    rw [hst,hrs]
    unfold getI
    rw [List.getD_eq_getElem?_getD,List.getD_eq_getElem?_getD,List.getElem?_drop,List.getElem?_take,if_pos (by omega)]
    rfl
   have hsb:0≤st∧st < ss.length:=by
    have:=hlb.1 st (by rw [hst];exact Pl.getI_mem (by omega))
    unfold badN at this
    simp only [Bool.or_eq_false_iff,decide_eq_false_iff_not] at this
    omega
   have hS:=F.st _ (fl_mem (d:=tStep.dflt) (show st.toNat < ss.length by omega))
   have htl:=hS.tl.2
   unfold stTl at htl
   repeat' (first|refine zN ?_|refine zE ?_|refine zP ?_|refine zS ?_|refine zO ?_|refine zB ?_|refine zX ?_|refine zT ?_|refine skipI rfl ?_)
   refine zR ?_
   repeat' (first|with_reducible refine pN ?_|refine pD ?_|refine pC (by (simp only [hii];omega)) ?_)
   repeat with_reducible refine cN ?_
   simp only [hii,hg]
   repeat' (first|refine zN ?_|refine zE ?_|refine zP ?_|refine pD ?_|refine pC (by first|omega|(show _ * 8≤_;omega)|(simp only [List.length_cons,List.length_nil,hnl];omega)) ?_|refine zS ?_|refine zR ?_|refine zO ?_|refine zB ?_|refine zX ?_|refine zT ?_|refine skipI rfl ?_)
   refine loopI (σ:=Nat) (fun j=>[(100,.int .i64 j)]) (fun j=>[(14,.box [.int .i64 e,.int .i64 mn,.int .i64 mx,.own 3000,.own 3001]),(3000,.seq tNeed (needsF ss rt f (i+1))),(3001,.seq tWin (winAll m f n i++winRow m f i j))]) (fun j=>j≤n) (fun j=>n - j) 0 rfl (fun _=>rfl) rfl ?_ ?_ ?_
   ·exact Nat.zero_le _
   ·repeat' (first|exact trivial|with_reducible exact rfl|refine And.intro ?_ ?_)
    ·rfl
    ·rw [needsF_succ]
     unfold needAt
     rw [← hst]
    ·exact List.append_nil _
   intro j hj
   have hrl:=winRow_len (m:=m) (f:=f) (i:=i) (j:=j)
   repeat' (first|refine zN ?_|refine zE ?_|refine zP ?_|refine pD ?_|refine pC (by first|(unfold In64;omega)) ?_|refine zS ?_|refine zR ?_|refine zO ?_|refine zB ?_|refine zX ?_|refine zT ?_|refine skipI rfl ?_)
   refine condI rfl (fun c3=>?_) (fun c3=>?_)
   ·have hjl:j < n:=by
     have c3:decide ((j:Int) < t - f+1)=true:=c3
     simp only [decide_eq_true_eq] at c3
     omega
    repeat' (first|refine zN ?_|refine zE ?_|refine zP ?_|refine pD ?_|refine pC (by first|(unfold In64;omega)) ?_|refine zS ?_|refine zR ?_|refine zO ?_|refine zB ?_|refine zX ?_|refine zT ?_|refine skipI rfl ?_)
    have hrs2:winRow m f i (j+1)=winRow m f i j++winAt m f i j:=rfl
    unfold winAt at hrs2
    refine condI rfl (fun c4=>?_) (fun c4=>?_)
    ·have c4:(findK m (f+(i:Int),f+(j:Int))).isSome=true:=c4
     obtain ⟨l,hl⟩:=Option.isSome_iff_exists.1 c4
     rw [hl] at hrs2
     repeat' (first|refine zN ?_|refine zE ?_|refine zP ?_|refine pD ?_|refine pC (by (simp only [List.length_append,List.length_cons,List.length_nil];omega)) ?_|refine zS ?_|refine zR ?_|refine zO ?_|refine zB ?_|refine zX ?_|refine zT ?_|refine skipI rfl ?_)
     refine roundI (j+1) rfl ?_ ?_ ?_
     ·show j+1≤n
      omega
     ·show n - (j+1) < n - j
      omega
     ·repeat' (first|exact trivial|with_reducible exact rfl|refine And.intro ?_ ?_)
      all_goals (first|rfl|(rw [hrs2,← List.append_assoc,show mapFind tLk tInt (f+(i:Int),f+(j:Int)) m=some l from hl];rfl))
    ·have c4:(findK m (f+(i:Int),f+(j:Int))).isSome=false:=c4
     have hl:findK m (f+(i:Int),f+(j:Int))=none:=by simpa using c4
     rw [hl] at hrs2
     repeat' (first|refine zN ?_|refine zE ?_|refine zP ?_|refine pD ?_|refine zS ?_|refine zR ?_|refine zO ?_|refine zB ?_|refine zX ?_|refine zT ?_|refine skipI rfl ?_)
     refine roundI (j+1) rfl ?_ ?_ ?_
     ·show j+1≤n
      omega
     ·show n - (j+1) < n - j
      omega
     ·repeat' (first|exact trivial|with_reducible exact rfl|refine And.intro ?_ ?_)
      all_goals (first|rfl|(rw [hrs2,List.append_nil]))
   ·have hjl:j=n:=by
     have c3:decide ((j:Int) < t - f+1)=false:=c3
     simp only [decide_eq_false_iff_not] at c3
     omega
    subst hjl
    repeat' (first|refine zN ?_|refine zE ?_|refine zP ?_|refine pD ?_|refine zS ?_|refine zR ?_|refine zO ?_|refine zB ?_|refine zX ?_|refine zT ?_|refine skipI rfl ?_)
    refine roundI (i+1) rfl ?_ ?_ ?_
    ·show i+1≤j
     omega
    ·show j - (i+1) < j - i
     omega
    ·repeat' (first|exact trivial|with_reducible exact rfl|refine And.intro ?_ ?_)
     all_goals rfl
  ·simp only [decide_eq_false_iff_not] at c2
   obtain rfl:i=n:=by omega
   refine freezeI 3000 rfl ?_
   refine freezeI 3001 rfl ?_
   repeat' (first|refine zN ?_|refine zE ?_|refine zP ?_|refine pD ?_|refine zS ?_|refine zR ?_|refine zO ?_|refine zB ?_|refine zX ?_|refine zT ?_|refine skipI rfl ?_)
   refine condI rfl (fun c3=>?_) (fun c3=>?_)
   ·have c3:decide (((winAll m f i i).length:Int) > 20)=true:=c3
    have hd:decide ((winAll m f i i).length≤20)=false:=by
     simp only [decide_eq_true_eq] at c3
     exact decide_eq_false (by omega)
    rw [hd] at hr her
    rw [show r=(0,0,0,[],[]) from hr,show er=60 from her]
    repeat' (first|refine zN ?_|refine zE ?_|refine zP ?_|refine pD ?_|refine zS ?_|refine zR ?_|refine zO ?_|refine zB ?_|refine zX ?_|refine zT ?_|refine skipI rfl ?_)
    refine endR rfl ?_
    repeat' (first|exact trivial|exact rfl|refine ⟨rfl,?_⟩|refine And.intro ?_ ?_)
   ·have c3:decide (((winAll m f i i).length:Int) > 20)=false:=c3
    have hd:decide ((winAll m f i i).length≤20)=true:=by
     simp only [decide_eq_false_iff_not] at c3
     exact decide_eq_true (by omega)
    rw [hd] at hr her
    rw [show r=(e,mn,mx,needsF ss rt f i,winAll m f i i) from hr,show er=0 from her]
    repeat' (first|refine zN ?_|refine zE ?_|refine zP ?_|refine pD ?_|refine zS ?_|refine zR ?_|refine zO ?_|refine zB ?_|refine zX ?_|refine zT ?_|refine skipI rfl ?_)
    refine endR rfl ?_
    repeat' (first|exact trivial|exact rfl|refine ⟨rfl,?_⟩|refine And.intro ?_ ?_)
theorem reqOk:SpecSound Tryz.prog 18 reqS:=by
 intro args rows out hf hpre
 unfold reqS at hf
 dsimp only at hf
 split at hf <;> try (cases hf;done)
 rename_i mn mx ss ws rt f t e
 cases hf
 cases hb:lineB mn mx ss ws rt
 ·have h1:reqB mn mx ss ws rt f t e=false:=by unfold reqB;rw [hb];rfl
  rw [show reqF mn mx ss ws rt f t e=(0,0,0,[],[]) by unfold reqF;rw [h1];rfl,show reqE mn mx ss ws rt f t e=60 by unfold reqE;rw [h1];rfl]
  exact reqNOk _ _ ⟨lineB mn mx ss ws rt=false,.tup [.agg [.int .i64 0,.int .i64 0,.int .i64 0,.sl tNeed [],.sl tWin []],.int .i64 60],[],true⟩ rfl hb
 ·exact reqYOk _ _ ⟨lineB mn mx ss ws rt=true,.tup [.agg [.int .i64 (reqF mn mx ss ws rt f t e).1,.int .i64 (reqF mn mx ss ws rt f t e).2.1,.int .i64 (reqF mn mx ss ws rt f t e).2.2.1,.sl tNeed (reqF mn mx ss ws rt f t e).2.2.2.1,.sl tWin (reqF mn mx ss ws rt f t e).2.2.2.2],.int .i64 (reqE mn mx ss ws rt f t e)],[],true⟩ rfl hb
end Go.AM.YtmohhhbgcehnpaaGreat.Fl
end

section
set_option linter.all false
namespace Go.AM.YtmohhhbgcehnpaaGreat.Fl
open Go.Proofs
set_option maxRecDepth 100000
set_option maxHeartbeats 4000000
theorem pick4Ok:SpecSound Tryz.prog 42 pickP:=by
 refine soundP (envOf sigNil) Tryz.func42 (c:=body Tryz.f42) rfl (by kernel_rfl) rfl ?_
 intro args out hf hpre
 split at hf <;> try (cases hf;done)
 rename_i c n
 cases hf
 refine ⟨Nat.le_of_ble_eq_true rfl,initI rfl ?_⟩
 refine factInt (t:=0) rfl (fun hc=>?_)
 have hc:=wrap64 hc
 change 0 < n at hpre
 repeat' (first|refine zN ?_|refine zE ?_|refine zP ?_|refine pD ?_|refine zS ?_|refine zR ?_|refine zO ?_|refine zB ?_|refine zX ?_|refine zT ?_|refine skipI rfl ?_)
 refine condI rfl (fun c1=>?_) (fun c1=>?_)
 ·simp only [decide_eq_true_eq] at c1
  repeat' (first|refine zN ?_|refine zE ?_|refine zP ?_|refine pD ?_|refine zS ?_|refine zR ?_|refine zO ?_|refine zB ?_|refine zX ?_|refine zT ?_|refine skipI rfl ?_)
  refine endR rfl ?_
  repeat' (first|exact trivial|exact rfl|refine ⟨rfl,?_⟩|refine And.intro ?_ ?_)
  exact pickF_neg hpre c1
 ·simp only [decide_eq_false_iff_not] at c1
  repeat' (first|refine zN ?_|refine zE ?_|refine zP ?_|refine pD ?_|refine zS ?_|refine zR ?_|refine zO ?_|refine zB ?_|refine zX ?_|refine zT ?_|refine skipI rfl ?_)
  refine endR rfl ?_
  repeat' (first|exact trivial|exact rfl|refine ⟨rfl,?_⟩|refine And.intro ?_ ?_)
  exact pickF_pos hpre c1
def aftB (v w:WinT):Bool:=decide (v.1 < w.1)||(decide (v.1=w.1)&&decide (v.2.1 < w.2.1))
def aft4S:Spec:=plain fun
 | [.agg [.int .i64 a,.int .i64 b,.int .i64 l],.agg [.int .i64 c,.int .i64 d,.int .i64 m]]=>outV True (.bool (aftB (a,b,l) (c,d,m)))
 | _=>none
theorem aft4Ok:SpecSound Tryz.prog 43 aft4S:=by
 refine soundP (envOf sigNil) Tryz.func43 (c:=body Tryz.f43) rfl (by kernel_rfl) rfl ?_
 intro args out hf hpre
 split at hf <;> try (cases hf;done)
 rename_i a b l c d m
 cases hf
 refine ⟨Nat.le_of_ble_eq_true rfl,initI (args:=[.agg [.int .i64 a,.int .i64 b,.int .i64 l],.agg [.int .i64 c,.int .i64 d,.int .i64 m]]) rfl ?_⟩
 repeat' (first|refine zN ?_|refine zE ?_|refine zP ?_|refine pD ?_|refine zS ?_|refine zR ?_|refine zO ?_|refine zB ?_|refine zX ?_|refine zT ?_|refine skipI rfl ?_)
 refine endR rfl ?_
 repeat' (first|exact trivial|exact rfl|refine ⟨rfl,?_⟩|refine And.intro ?_ ?_)
abbrev tS6:Ty:=.pair (.int .i64) (.pair (.int .i64) (.pair (.int .i64) (.pair (.int .i64) (.pair (.int .i64) (.int .i64)))))
abbrev Int6:=Int × Int × Int × Int × Int × Int
abbrev tS3:Ty:=.pair (.int .i64) (.pair (.int .i64) (.int .i64))
def mkTl (y:Int6):List Int:=bif decide (pickF (y.2.2.1.tdiv 6) 2=0) then [pickF y.2.2.1 6,pickF y.2.2.1 6+1+pickF (y.2.2.1.tdiv 12) 3] else [pickF y.2.2.1 6]
def mkNx (n:Int) (i:Nat) (y:Int6):List Int :=
 bif decide ((i:Int) < n - 1)&&decide (pickF y.2.2.2.1 12 > 0) then
  (bif decide ((i:Int)+2+pickF (y.2.2.2.1.tdiv 12) 3 < n)&&decide (pickF (y.2.2.2.1.tdiv 36) 3=0) then [(i:Int)+1,(i:Int)+2+pickF (y.2.2.2.1.tdiv 12) 3] else [(i:Int)+1])
 else []
def mkBk (i:Nat) (y:Int6):Int × Int:=bif decide (pickF y.2.2.2.2.1 4=0) then (pickF (y.2.2.2.2.1.tdiv 4) ((i:Int)+1),1+pickF y.2.2.2.2.2 3) else (-1,0)
def mkSt (n:Int) (i:Nat) (y:Int6):StepT:=(1+pickF y.1 5,mkTl y,1+pickF y.2.1 30,1+pickF y.2.1 30+pickF (y.2.1.tdiv 30) 20,mkNx n i y,(mkBk i y).1,(mkBk i y).2)
def mkN (x:List Int6):Nat:=max 1 (min x.length 8)
def mkSs (x:List Int6):List StepT:=(List.range (mkN x)).map fun i=>mkSt (mkN x) i (getI x tS6.dflt i)
def mkW4 (n:Int) (w:Int × Int × Int):WinT:=(pickF w.1 n,pickF w.2.1 n,10+pickF w.2.2 150)
def fit4 (acc:List WinT) (w:WinT):Bool:=decide (w.1≠w.2.1)&&(decide ((acc.length:Int)=0)||aftB (getI acc tWin.dflt ((acc.length:Int) - 1).toNat) w)
def step4 (n:Int) (acc:List WinT) (w:Int × Int × Int):List WinT:=bif fit4 acc (mkW4 n w) then acc++[mkW4 n w] else acc
def mkWs (x:List Int6) (ws:List (Int × Int × Int)):List WinT:=(ws.take 4).foldl (step4 (mkN x)) []
def makeFS:Spec:=⟨true,fun args rows=>match args,rows with
 | [.sl (.pair (.int .i64) (.pair (.int .i64) (.pair (.int .i64) (.pair (.int .i64) (.pair (.int .i64) (.int .i64)))))) x,.sl (.pair (.int .i64) (.pair (.int .i64) (.int .i64))) ws],[] =>
   some ⟨True,.agg [.int .i64 2,.int .i64 5,.own 0,.own 1],[.seq tStep (mkSs x),.seq tWin (mkWs x ws)],true⟩
 | _,_=>none⟩
def sigMk:List (Nat × Spec):=[(42,pickP),(43,aft4S)]
theorem sigMkOk:SigOk Tryz.prog (look sigMk):=sigCons (sigCons sigNil
 Tryz.func43 (by kernel_rfl) (c:=body Tryz.f43) rfl aft4Ok)
 Tryz.func42 (by kernel_rfl) (c:=body Tryz.f42) rfl pick4Ok
theorem makeFOk:SpecSound Tryz.prog 16 makeFS:=by
 refine soundR (envOf sigMkOk) Tryz.func16 (c:=body Tryz.f16) rfl (by kernel_rfl) rfl ?_
 intro args rows out hf hpre
 split at hf <;> try (cases hf;done)
 rename_i x ws
 cases hf
 refine ⟨Nat.le_of_ble_eq_true rfl,initI (args:=[.sl tS6 x,.sl tS3 ws]) (rows:=[]) rfl ?_⟩
 refine factSl (t:=0) (ty:=tS6) rfl (fun hxs=>?_)
 have hmx:List.length (α:=Int6) x≤9223372036854775807:=by have:=hxs.1;unfold maxLen at this;omega
 refine factSl (t:=1) (ty:=tS3) rfl (fun hws=>?_)
 have hwx:List.length (α:=Int × Int × Int) ws≤9223372036854775807:=by have:=hws.1;unfold maxLen at this;omega
 have bp:=fun (c n:Int) (h:0 < n)=>pick_b (c:=c) (n:=n) h
 repeat' (first|refine zN ?_|refine zE ?_|refine zP ?_|refine pD ?_|refine zS ?_|refine zR ?_|refine zO ?_|refine zB ?_|refine zX ?_|refine zT ?_|refine skipI rfl ?_)
 have hn:max 1 (min ((List.length (α:=Int6) x:Nat):Int) 8)=((mkN x:Nat):Int):=by unfold mkN;omega
 have hn8:1≤mkN x∧mkN x≤8:=by unfold mkN;omega
 obtain ⟨n,hnn⟩:∃ n,n=mkN x:=⟨_,rfl⟩
 rw [← hnn] at hn hn8
 simp only [hn]
 refine loopI (σ:=Nat) (fun i=>[(7,.int .i64 i)]) (fun i=>[(6,.box [.int .i64 2,.int .i64 5,.own 3000,.nilsl]),(3000,.seq tStep ((List.range i).map fun i=>mkSt n i (getI x tS6.dflt i)))]) (fun i=>i≤n) (fun i=>n - i) 0 rfl (fun _=>rfl) rfl ?_ ?_ ?_
 ·exact Nat.zero_le _
 ·repeat' (first|exact trivial|with_reducible exact rfl|refine And.intro ?_ ?_)
  all_goals rfl
 intro i hi
 repeat' (first|refine zN ?_|refine zE ?_|refine zP ?_|refine pD ?_|refine zS ?_|refine zR ?_|refine zO ?_|refine zB ?_|refine zX ?_|refine zT ?_|refine skipI rfl ?_)
 refine condI rfl (fun c1=>?_) (fun c1=>?_)
 ·simp only [decide_eq_true_eq] at c1
  have hil:i < n:=by omega
  have hin:((i:Int)).toNat=i:=by omega
  repeat' (first|refine zN ?_|refine zE ?_|refine zP ?_|refine pD ?_|refine zS ?_|refine zR ?_|refine zO ?_|refine zB ?_|refine zX ?_|refine zT ?_|refine skipI rfl ?_)
  refine joinC (fun _:Int6=>[]) (fun y=>[(8,.box [.int .i64 y.1,.int .i64 y.2.1,.int .i64 y.2.2.1,.int .i64 y.2.2.2.1,.int .i64 y.2.2.2.2.1,.int .i64 y.2.2.2.2.2])]) (fun y=>y=getI x tS6.dflt i) (fun _=>rfl) ?_ (fun y hy=>?_)
  ·refine condI rfl (fun c2=>?_) (fun c2=>?_)
   ·simp only [decide_eq_true_eq] at c2
    repeat' (first|refine zN ?_|refine zE ?_|refine zP ?_|refine pD ?_|refine pC (by omega) ?_|refine zS ?_|refine zR ?_|refine zO ?_|refine zB ?_|refine zX ?_|refine zT ?_|refine skipI rfl ?_)
    refine meetI (getI x tS6.dflt i) rfl rfl ?_
    simp only [hin]
    repeat' (first|exact trivial|exact rfl|refine ⟨rfl,?_⟩|refine And.intro ?_ ?_)
   ·simp only [decide_eq_false_iff_not] at c2
    have hd:getI x tS6.dflt i=((0:Int),(0:Int),(0:Int),(0:Int),(0:Int),(0:Int)):=by
     unfold getI
     rw [List.getD_eq_getElem?_getD,List.getElem?_eq_none (show List.length (α:=Int6) x≤i by omega)]
     rfl
    repeat' (first|refine zN ?_|refine zE ?_|refine zP ?_|refine pD ?_|refine zS ?_|refine zR ?_|refine zO ?_|refine zB ?_|refine zX ?_|refine zT ?_|refine skipI rfl ?_)
    refine meetI ((0:Int),(0:Int),(0:Int),(0:Int),(0:Int),(0:Int)) rfl hd.symm ?_
    repeat' (first|exact trivial|exact rfl|refine ⟨rfl,?_⟩|refine And.intro ?_ ?_)
  have p1:=bp y.1 5 (by omega)
  have p2:=bp y.2.1 30 (by omega)
  have p3:=bp (y.2.1.tdiv 30) 20 (by omega)
  have p4:=bp y.2.2.1 6 (by omega)
  have p5:=bp (y.2.2.1.tdiv 6) 2 (by omega)
  have p6:=bp (y.2.2.1.tdiv 12) 3 (by omega)
  have p7:=bp y.2.2.2.1 12 (by omega)
  have p8:=bp (y.2.2.2.1.tdiv 12) 3 (by omega)
  have p9:=bp (y.2.2.2.1.tdiv 36) 3 (by omega)
  have p10:=bp y.2.2.2.2.1 4 (by omega)
  have p11:=bp (y.2.2.2.2.1.tdiv 4) ((i:Int)+1) (by omega)
  have p12:=bp y.2.2.2.2.2 3 (by omega)
  repeat' (first|refine zN ?_|refine zE ?_|refine zP ?_|refine pD ?_|refine pC (by first|omega|(unfold In64;omega)) ?_|refine zS ?_|refine zR ?_|refine zO ?_|refine zB ?_|refine zX ?_|refine zT ?_|refine skipI rfl ?_)
  refine joinC (fun _:List Int=>[]) (fun tl=>[(9,.box [.int .i64 (1+pickF y.1 5),.own 3002,.int .i64 (1+pickF y.2.1 30),.int .i64 (1+pickF y.2.1 30+pickF (y.2.1.tdiv 30) 20),.nilsl,.int .i64 (-1),.int .i64 0]),(3002,.seq tInt tl)]) (fun tl=>tl=mkTl y) (fun _=>rfl) ?_ (fun tl htl=>?_)
  ·refine condI rfl (fun c3=>?_) (fun c3=>?_)
   ·have c3:decide (pickF (y.2.2.1.tdiv 6) 2=0)=true:=c3
    repeat' (first|refine zN ?_|refine zE ?_|refine zP ?_|refine pD ?_|refine pC (by first|(unfold In64;omega)|(simp only [List.length_cons,List.length_nil];omega)) ?_|refine zS ?_|refine zR ?_|refine zO ?_|refine zB ?_|refine zX ?_|refine zT ?_|refine skipI rfl ?_)
    refine meetI (mkTl y) rfl rfl ?_
    repeat' (first|exact trivial|with_reducible exact rfl|refine And.intro ?_ ?_)
    all_goals (first|rfl|(unfold mkTl;rw [c3];rfl))
   ·have c3:decide (pickF (y.2.2.1.tdiv 6) 2=0)=false:=c3
    repeat' (first|refine zN ?_|refine zE ?_|refine zP ?_|refine pD ?_|refine zS ?_|refine zR ?_|refine zO ?_|refine zB ?_|refine zX ?_|refine zT ?_|refine skipI rfl ?_)
    refine meetI (mkTl y) rfl rfl ?_
    repeat' (first|exact trivial|with_reducible exact rfl|refine And.intro ?_ ?_)
    all_goals (first|rfl|(unfold mkTl;rw [c3];rfl))
  repeat' (first|refine zN ?_|refine zE ?_|refine zP ?_|refine pD ?_|refine pC (by first|omega|(unfold In64;omega)) ?_|refine zS ?_|refine zR ?_|refine zO ?_|refine zB ?_|refine zX ?_|refine zT ?_|refine skipI rfl ?_)
  refine joinC (fun _:List Int=>[]) (fun nx=>[(9,.box [.int .i64 (1+pickF y.1 5),.own 3002,.int .i64 (1+pickF y.2.1 30),.int .i64 (1+pickF y.2.1 30+pickF (y.2.1.tdiv 30) 20),.own 3003,.int .i64 (-1),.int .i64 0]),(3003,.seq tInt nx)]) (fun nx=>nx=mkNx n i y) (fun _=>rfl) ?_ (fun nx hnx=>?_)
  ·refine condI rfl (fun c4=>?_) (fun c4=>?_)
   ·have c4:(decide ((i:Int) < n - 1)&&decide (pickF y.2.2.2.1 12 > 0))=true:=c4
    repeat' (first|refine zN ?_|refine zE ?_|refine zP ?_|refine pD ?_|refine pC (by first|(unfold In64;omega)|omega) ?_|refine zS ?_|refine zR ?_|refine zO ?_|refine zB ?_|refine zX ?_|refine zT ?_|refine skipI rfl ?_)
    refine condI rfl (fun c5=>?_) (fun c5=>?_)
    ·have c5:(decide ((i:Int)+2+pickF (y.2.2.2.1.tdiv 12) 3 < n)&&decide (pickF (y.2.2.2.1.tdiv 36) 3=0))=true:=c5
     repeat' (first|refine zN ?_|refine zE ?_|refine zP ?_|refine pD ?_|refine pC (by first|(unfold In64;omega)|(simp only [List.length_cons,List.length_nil];omega)) ?_|refine zS ?_|refine zR ?_|refine zO ?_|refine zB ?_|refine zX ?_|refine zT ?_|refine skipI rfl ?_)
     refine meetI (mkNx n i y) rfl rfl ?_
     repeat' (first|exact trivial|with_reducible exact rfl|refine And.intro ?_ ?_)
     all_goals (first|rfl|(unfold mkNx;rw [c4,c5];rfl))
    ·have c5:(decide ((i:Int)+2+pickF (y.2.2.2.1.tdiv 12) 3 < n)&&decide (pickF (y.2.2.2.1.tdiv 36) 3=0))=false:=c5
     repeat' (first|refine zN ?_|refine zE ?_|refine zP ?_|refine pD ?_|refine zS ?_|refine zR ?_|refine zO ?_|refine zB ?_|refine zX ?_|refine zT ?_|refine skipI rfl ?_)
     refine meetI (mkNx n i y) rfl rfl ?_
     repeat' (first|exact trivial|with_reducible exact rfl|refine And.intro ?_ ?_)
     all_goals (first|rfl|(unfold mkNx;rw [c4,c5];rfl))
   ·have c4:(decide ((i:Int) < n - 1)&&decide (pickF y.2.2.2.1 12 > 0))=false:=c4
    repeat' (first|refine zN ?_|refine zE ?_|refine zP ?_|refine pD ?_|refine zS ?_|refine zR ?_|refine zO ?_|refine zB ?_|refine zX ?_|refine zT ?_|refine skipI rfl ?_)
    refine meetI (mkNx n i y) rfl rfl ?_
    repeat' (first|exact trivial|with_reducible exact rfl|refine And.intro ?_ ?_)
    all_goals (first|rfl|(unfold mkNx;rw [c4];rfl))
  repeat' (first|refine zN ?_|refine zE ?_|refine zP ?_|refine pD ?_|refine pC (by first|omega|(unfold In64;omega)) ?_|refine zS ?_|refine zR ?_|refine zO ?_|refine zB ?_|refine zX ?_|refine zT ?_|refine skipI rfl ?_)
  refine joinC (fun _:Int × Int=>[]) (fun bk=>[(9,.box [.int .i64 (1+pickF y.1 5),.own 3002,.int .i64 (1+pickF y.2.1 30),.int .i64 (1+pickF y.2.1 30+pickF (y.2.1.tdiv 30) 20),.own 3003,.int .i64 bk.1,.int .i64 bk.2])]) (fun bk=>bk=mkBk i y) (fun _=>rfl) ?_ (fun bk hbk=>?_)
  ·refine condI rfl (fun c6=>?_) (fun c6=>?_)
   ·have c6:decide (pickF y.2.2.2.2.1 4=0)=true:=c6
    repeat' (first|refine zN ?_|refine zE ?_|refine zP ?_|refine pD ?_|refine pC (by first|(unfold In64;omega)|omega) ?_|refine zS ?_|refine zR ?_|refine zO ?_|refine zB ?_|refine zX ?_|refine zT ?_|refine skipI rfl ?_)
    refine meetI (mkBk i y) rfl rfl ?_
    repeat' (first|exact trivial|with_reducible exact rfl|refine And.intro ?_ ?_)
    all_goals (first|rfl|(unfold mkBk;rw [c6];rfl))
   ·have c6:decide (pickF y.2.2.2.2.1 4=0)=false:=c6
    repeat' (first|refine zN ?_|refine zE ?_|refine zP ?_|refine pD ?_|refine zS ?_|refine zR ?_|refine zO ?_|refine zB ?_|refine zX ?_|refine zT ?_|refine skipI rfl ?_)
    refine meetI (mkBk i y) rfl rfl ?_
    repeat' (first|exact trivial|with_reducible exact rfl|refine And.intro ?_ ?_)
    all_goals (first|rfl|(unfold mkBk;rw [c6];rfl))
  have hsl:(List.map (fun i=>mkSt n i (getI x tS6.dflt i)) (List.range i)).length=i:=by rw [List.length_map,List.length_range]
  repeat' (first|refine zN ?_|refine zE ?_|refine zP ?_|refine pD ?_|refine pC (by first|omega|(unfold In64;omega)|(simp only [hsl,List.length_cons,List.length_nil];omega)) ?_|refine zS ?_|refine zR ?_|refine zO ?_|refine zB ?_|refine zX ?_|refine zT ?_|refine skipI rfl ?_)
  refine roundI (i+1) rfl ?_ ?_ ?_
  ·show i+1≤n
   omega
  ·show n - (i+1) < n - i
   omega
  ·repeat' (first|exact trivial|with_reducible exact rfl|refine And.intro ?_ ?_)
   all_goals (first|rfl|(rw [List.range_succ,List.map_append,List.map_cons,← hy];unfold mkSt;rw [← htl,← hnx,← hbk];rfl))
 ·simp only [decide_eq_false_iff_not] at c1
  obtain rfl:i=n:=by omega
  have hss:(List.map (fun i_1=>mkSt i i_1 (getI x tS6.dflt i_1)) (List.range i))=mkSs x:=by unfold mkSs;rw [hnn]
  rw [hss]
  repeat' (first|refine zN ?_|refine zE ?_|refine zP ?_|refine pD ?_|refine zS ?_|refine zR ?_|refine zO ?_|refine zB ?_|refine zX ?_|refine zT ?_|refine skipI rfl ?_)
  refine loopI (σ:=Nat × List WinT) (fun s=>[(12,.int .i64 s.1)]) (fun s=>[(6,.box [.int .i64 2,.int .i64 5,.own 3000,.own 3001]),(3001,.seq tWin s.2)]) (fun s=>(s.1≤ws.length∧s.1≤4)∧s.2.length≤s.1∧mkWs x ws=((ws.take 4).drop s.1).foldl (step4 i) s.2) (fun s=>4 - s.1) (0,[]) rfl (fun _=>rfl) rfl ?_ ?_ ?_
  ·exact ⟨⟨Nat.zero_le _,Nat.zero_le _⟩,Nat.le_refl _,by rw [hnn];rfl⟩
  ·repeat' (first|exact trivial|with_reducible exact rfl|refine And.intro ?_ ?_)
   all_goals rfl
  rintro ⟨k,acc⟩ ⟨⟨hk,hk4⟩,hal,hinv⟩
  dsimp only at hk hk4 hal hinv ⊢
  repeat' (first|refine zN ?_|refine zE ?_|refine zP ?_|refine pD ?_|refine zS ?_|refine zR ?_|refine zO ?_|refine zB ?_|refine zX ?_|refine zT ?_|refine skipI rfl ?_)
  refine condI rfl (fun c4=>?_) (fun c4=>?_)
  ·simp only [Bool.and_eq_true,decide_eq_true_eq] at c4
   have hkl:k < ws.length:=by omega
   have hkn:((k:Int)).toNat=k:=by omega
   rw [Re.drop_getI (d:=tS3.dflt) (show k < (ws.take 4).length by rw [List.length_take];omega)] at hinv
   obtain ⟨z,hz⟩:∃ z:Int × Int × Int,z=getI ws tS3.dflt k:=⟨_,rfl⟩
   have hzt:getI (ws.take 4) tS3.dflt k=z:=by
    rw [hz]
    unfold getI
    rw [List.getD_eq_getElem?_getD,List.getD_eq_getElem?_getD,List.getElem?_take,if_pos (by omega)]
   rw [hzt] at hinv
   have hz':getI ws tS3.dflt ((k:Int)).toNat=z:=by rw [hkn];exact hz.symm
   have b1:=bp z.1 i (by omega)
   have b2:=bp z.2.1 i (by omega)
   have b3:=bp z.2.2 150 (by omega)
   repeat' (first|refine zN ?_|refine zE ?_|refine zP ?_|refine zS ?_|refine zO ?_|refine zB ?_|refine zX ?_|refine zT ?_|refine skipI rfl ?_)
   refine zR ?_
   repeat' (first|with_reducible refine pN ?_|refine pD ?_|refine pC (by first|omega|(simp only [hz'];first|omega|(unfold In64;omega))) ?_)
   repeat with_reducible refine cN ?_
   simp only [hz']
   repeat' (first|refine zN ?_|refine zE ?_|refine zP ?_|refine pD ?_|refine pC (by first|omega|(unfold In64;omega)|(intro _ h;have h1:¬ ((acc.length:Int)=0):=(by first|(simpa using h)|(have h2:=(Bool.or_eq_false_iff.1 h).1;simpa using h2));first|omega|(unfold In64;omega)|(intro _;omega)|(intro _;unfold In64;omega))) ?_|refine zS ?_|refine zR ?_|refine zO ?_|refine zB ?_|refine zX ?_|refine zT ?_|refine skipI rfl ?_)
   have hinv:mkWs x ws=((ws.take 4).drop (k+1)).foldl (step4 i) (step4 i acc z):=hinv
   have hstep:step4 i acc z=bif fit4 acc (mkW4 i z) then acc++[mkW4 i z] else acc:=rfl
   rw [hstep] at hinv
   refine condI rfl (fun c5=>?_) (fun c5=>?_)
   ·have c5':fit4 acc (mkW4 i z)=true:=c5
    rw [c5',cond_true] at hinv
    repeat' (first|refine zN ?_|refine zE ?_|refine zP ?_|refine pD ?_|refine pC (by (simp only [List.length_cons,List.length_nil];omega)) ?_|refine zS ?_|refine zR ?_|refine zO ?_|refine zB ?_|refine zX ?_|refine zT ?_|refine skipI rfl ?_)
    refine roundI (k+1,acc++[mkW4 i z]) rfl ?_ ?_ ?_
    ·exact ⟨⟨by show k+1≤ws.length;omega,by show k+1≤4;omega⟩,by show (acc++[_]).length≤k+1;simp;omega,hinv⟩
    ·show 4 - (k+1) < 4 - k
     omega
    ·repeat' (first|exact trivial|with_reducible exact rfl|refine And.intro ?_ ?_)
     all_goals rfl
   ·have c5':fit4 acc (mkW4 i z)=false:=c5
    rw [c5',cond_false] at hinv
    repeat' (first|refine zN ?_|refine zE ?_|refine zP ?_|refine pD ?_|refine zS ?_|refine zR ?_|refine zO ?_|refine zB ?_|refine zX ?_|refine zT ?_|refine skipI rfl ?_)
    refine roundI (k+1,acc) rfl ?_ ?_ ?_
    ·exact ⟨⟨by show k+1≤ws.length;omega,by show k+1≤4;omega⟩,by show acc.length≤k+1;omega,hinv⟩
    ·show 4 - (k+1) < 4 - k
     omega
    ·repeat' (first|exact trivial|with_reducible exact rfl|refine And.intro ?_ ?_)
     all_goals rfl
  ·simp only [Bool.and_eq_false_iff,decide_eq_false_iff_not] at c4
   rw [List.drop_eq_nil_of_le (by rw [List.length_take];omega)] at hinv
   have hinv:mkWs x ws=acc:=hinv
   rw [hinv]
   repeat' (first|refine zN ?_|refine zE ?_|refine zP ?_|refine pD ?_|refine zS ?_|refine zR ?_|refine zO ?_|refine zB ?_|refine zX ?_|refine zT ?_|refine skipI rfl ?_)
   refine endR rfl ?_
   repeat' (first|exact trivial|exact rfl|refine ⟨rfl,?_⟩|refine And.intro ?_ ?_)
end Go.AM.YtmohhhbgcehnpaaGreat.Fl
end

section
set_option linter.all false
namespace Go.AM.YtmohhhbgcehnpaaGreat.Fl
open Go.Proofs
set_option maxRecDepth 100000
set_option maxHeartbeats 4000000
end Go.AM.YtmohhhbgcehnpaaGreat.Fl
end

section
set_option linter.all false
namespace Go.AM.YtmohhhbgcehnpaaGreat.Fl
open Go.Proofs
set_option maxRecDepth 100000
set_option maxHeartbeats 4000000
abbrev Int3:=Int × Int × Int
def visT (v:List Int3):Nat→Int
 | 0=>0
 | i+1=>visT v i+pickF (getI v tS3.dflt i).2.1 40+1+pickF (getI v tS3.dflt i).2.2 20
def visA (n:Int) (v:List Int3) (i:Nat):VisT:=(pickF (getI v tS3.dflt i).1 n,0,visT v i+pickF (getI v tS3.dflt i).2.1 40,visT v (i+1))
def visF (n:Int) (v:List Int3):List VisT:=(List.range (min v.length 20)).map (visA n v)
theorem visT_b {v:List Int3}:∀ {i:Nat},0≤visT v i∧visT v i≤59 * (i:Int)
 | 0=>⟨Int.le_refl _,Int.le_refl _⟩
 | i+1=>by
   have h:=visT_b (v:=v) (i:=i)
   have p1:=pick_b (c:=(getI v tS3.dflt i).2.1) (n:=40) (by omega)
   have p2:=pick_b (c:=(getI v tS3.dflt i).2.2) (n:=20) (by omega)
   unfold visT
   omega
def lnkB (w:WinT) (rt:List Int) (i j:Nat):Bool:=((decide (i < j)&&decide (getI rt 0 i=w.1))&&decide (getI rt 0 j=w.2.1))&&!(List.range (j - (i+1))).any (fun k=>decide (getI rt 0 (i+1+k)=w.1)||decide (getI rt 0 (i+1+k)=w.2.1))
end Go.AM.YtmohhhbgcehnpaaGreat.Fl
end
