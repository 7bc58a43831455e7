/- The law ReserveMatchesReference: few, equal, her function. -/
import Derived.Test.YtmohhhbgcehnpaaGreatReRtK
import Derived.Test.YtmohhhbgcehnpaaGreatReEsK
import Derived.Test.YtmohhhbgcehnpaaGreatPm31
import Derived.Test.YtmohhhbgcehnpaaGreatReUK
import Derived.Test.YtmohhhbgcehnpaaGreatPm17
import Derived.Test.YtmohhhbgcehnpaaGreatPm32
set_option linter.all false
namespace Go.AM.YtmohhhbgcehnpaaGreat.Re
open Go.Proofs
set_option maxRecDepth 100000
set_option maxHeartbeats 8000000
def fewX (x:NeedT):NeedT:=(x.1.take 5,x.2.1,x.2.2)
def fewN (ns:List NeedT):List NeedT:=(ns.take 6).map fewX
def fewS:Spec:=⟨true,fun args rows=>match args,rows with
 | [.agg [.int .i64 e,.int .i64 a,.int .i64 b,.sl (.pair (.slice (.int .i64)) (.pair (.int .i64) (.int .i64))) ns,.sl (.pair (.int .i64) (.pair (.int .i64) (.int .i64))) ws]],[] =>
   some ⟨True,.agg [.int .i64 e,.int .i64 a,.int .i64 b,.sl tNeed (fewN ns),.sl tWin (ws.take 22)],[],true⟩
 | _,_=>none⟩
theorem take_min {α:Type} {l:List α} {n:Nat}:l.take (min (l.length:Int) (n:Int)).toNat=l.take n:=by
 by_cases h:l.length≤n
 ·rw [List.take_of_length_le h,List.take_of_length_le (by omega)]
 ·rw [show (min (l.length:Int) (n:Int)).toNat=n by omega]
theorem fewOk:SpecSound Tryz.prog 7 fewS:=by
 refine soundR (envOf sigNil) Tryz.func7 (c:=body Tryz.f7) rfl (by kernel_rfl) rfl ?_
 intro args rows out hf hpre
 split at hf <;> try (cases hf;done)
 rename_i e a b ns ws
 cases hf
 refine ⟨Nat.le_of_ble_eq_true rfl,initI (args:=[.agg [.int .i64 e,.int .i64 a,.int .i64 b,.sl tNeed ns,.sl tWin ws]]) (rows:=[]) rfl ?_⟩
 repeat' (first|refine zN ?_|refine zE ?_|refine zP ?_|refine pD ?_|refine zS ?_|refine zR ?_|refine zO ?_|refine zB ?_|refine zX ?_|refine zT ?_|refine skipI rfl ?_)
 refine loopI (σ:=Nat) (fun i=>[(3,.own 3000),(4,.int .i64 i)]) (fun i=>[(3000,.seq tNeed ((ns.take i).map fewX))]) (fun i=>i≤ns.length∧i≤6) (fun i=>6 - i) 0 rfl (fun _=>rfl) rfl ?_ ?_ ?_
 ·exact ⟨Nat.zero_le _,Nat.zero_le _⟩
 ·repeat' (first|exact trivial|with_reducible exact rfl|refine And.intro ?_ ?_)
  all_goals rfl
 rintro i ⟨hi,hi6⟩
 repeat' (first|refine zN ?_|refine zE ?_|refine zP ?_|refine pD ?_|refine zS ?_|refine zR ?_|refine zO ?_|refine zB ?_|refine zX ?_|refine zT ?_|refine skipI rfl ?_)
 refine condI rfl (fun c1=>?_) (fun c1=>?_)
 ·simp only [Bool.and_eq_true,decide_eq_true_eq] at c1
  have hil:i < ns.length:=by omega
  have hin:((i:Int)).toNat=i:=by omega
  have hml:((ns.take i).map fewX).length=i:=by rw [List.length_map,List.length_take];omega
  obtain ⟨x,hx⟩:∃ x:NeedT,x=getI ns tNeed.dflt i:=⟨_,rfl⟩
  repeat' (first|refine zN ?_|refine zE ?_|refine zP ?_|refine zS ?_|refine zO ?_|refine zB ?_|refine zX ?_|refine zT ?_|refine skipI rfl ?_)
  refine zR ?_
  repeat' (first|with_reducible refine pN ?_|refine pD ?_|refine pC (by omega) ?_)
  repeat with_reducible refine cN ?_
  simp only [hin,← hx]
  repeat' (first|refine zN ?_|refine zE ?_|refine zP ?_|refine zS ?_|refine zO ?_|refine zB ?_|refine zX ?_|refine zT ?_|refine skipI rfl ?_)
  refine zR ?_
  repeat' (first|with_reducible refine pN ?_|refine pD ?_|refine pC (by omega) ?_)
  repeat with_reducible refine cN ?_
  have e5:List.take (min (List.length (α:=Int) x.1:Int) 5).toNat x.1=List.take 5 x.1:=take_min (n:=5)
  rw [e5]
  repeat' (first|refine zN ?_|refine zE ?_|refine zP ?_|refine pD ?_|refine pC (by first|(first|(simp only [hml,List.length_cons,List.length_nil];omega)|omega)) ?_|refine zS ?_|refine zR ?_|refine zO ?_|refine zB ?_|refine zX ?_|refine zT ?_|refine skipI rfl ?_)
  refine roundI (i+1) rfl ?_ ?_ ?_
  ·exact ⟨hil,by omega⟩
  ·show 6 - (i+1) < 6 - i
   omega
  ·repeat' (first|exact trivial|with_reducible exact rfl|refine And.intro ?_ ?_)
   all_goals (first|rfl|(rw [take_getI (d:=tNeed.dflt) hil,List.map_append,← hx];rfl))
 ·have c1:¬ (i < ns.length∧i < 6):=by
   rintro ⟨h1,h2⟩
   simp at c1
   omega
  have e1:(ns.take i).map fewX=fewN ns:=by
   unfold fewN
   by_cases h:i=6
   ·rw [h]
   ·rw [List.take_of_length_le (by omega),List.take_of_length_le (by omega)]
  rw [e1]
  repeat' (first|with_reducible refine cN ?_|refine skipI rfl ?_)
  refine freezeI 3000 rfl ?_
  have e22:List.take (min (ws.length:Int) 22).toNat ws=ws.take 22:=take_min (n:=22)
  repeat' (first|refine zN ?_|refine zE ?_|refine zP ?_|refine zS ?_|refine zO ?_|refine zB ?_|refine zX ?_|refine zT ?_|refine skipI rfl ?_)
  refine zR ?_
  repeat' (first|with_reducible refine pN ?_|refine pD ?_|refine pC (by omega) ?_)
  repeat with_reducible refine cN ?_
  repeat' (first|refine zN ?_|refine zE ?_|refine zP ?_|refine zS ?_|refine zO ?_|refine zB ?_|refine zX ?_|refine zT ?_|refine skipI rfl ?_)
  refine zR ?_
  repeat' (first|with_reducible refine pN ?_|refine pD ?_|refine pC (by omega) ?_)
  repeat with_reducible refine cN ?_
  rw [e22]
  repeat' (first|refine zN ?_|refine zE ?_|refine zP ?_|refine pD ?_|refine zS ?_|refine zR ?_|refine zO ?_|refine zB ?_|refine zX ?_|refine zT ?_|refine skipI rfl ?_)
  refine endR rfl ?_
  repeat' (first|exact trivial|exact rfl|refine ⟨rfl,?_⟩|refine And.intro ?_ ?_)
theorem filter_take {p:Bk.El→Bool} {l:List Bk.El} {i:Nat} (h:i < l.length):(l.take (i+1)).filter p=(l.take i).filter p++if p (getI l Bk.dflt i)=true then [getI l Bk.dflt i] else []:=by
 rw [take_succ_getI (d:=Bk.dflt) h,List.filter_append]
 cases hp:p (getI l Bk.dflt i) <;> simp [hp]
theorem filter_le {p:Bk.El→Bool} {l:List Bk.El} {i:Nat}:((l.take i).filter p).length≤i:=by
 have:=List.length_filter_le p (l.take i)
 rw [List.length_take] at this
 omega
def refListS:Spec:=plain fun
 | [.el (.slice (.pair (.int .i64) (.pair (.int .i64) (.pair (.int .i64) (.int .i64))))) [xs] 0 0,.int .i64 t]=>some ⟨List.length (α:=Bk.El) xs≤1000000,.own 0,[.seq Bk (List.filter (α:=Bk.El) (fun b=>decide (b.1=t)) xs)],false⟩
 | _=>none
theorem refListOk:SpecSound Tryz.prog 41 refListS:=by
 refine soundP (envOf sigNil) Tryz.func41 (c:=body Tryz.f41) rfl (by kernel_rfl) rfl ?_
 intro args out hf hpre
 split at hf <;> try (cases hf;done)
 rename_i xs t
 cases hf
 refine ⟨Nat.le_of_ble_eq_true rfl,initI (args:=[.el (.slice Bk) [xs] 0 0,.int .i64 t]) rfl ?_⟩
 have hX:getI ([xs]:List (Ty.slice Bk).El) (Ty.slice Bk).dflt 0=xs:=rfl
 have hxs:List.length (α:=Bk.El) xs≤1000000:=hpre
 repeat' (first|refine zN ?_|refine zE ?_|refine zP ?_|refine pD ?_|refine pC (by (simp only [hX];omega)) ?_|refine zS ?_|refine zR ?_|refine zO ?_|refine zB ?_|refine zX ?_|refine zT ?_|refine skipI rfl ?_)
 obtain ⟨p,hp⟩:∃ p:Bk.El→Bool,p=fun b=>decide (b.1=t):=⟨_,rfl⟩
 rw [← hp]
 refine loopI (σ:=Nat) (fun i=>[(5,.own 5000),(6,.int .i64 i)]) (fun i=>[(5000,.seq Bk ((xs.take i).filter p))]) (fun i=>i≤xs.length) (fun i=>xs.length - i) 0 rfl (fun _=>rfl) rfl ?_ ?_ ?_
 ·exact Nat.zero_le _
 ·repeat' (first|exact trivial|exact rfl|refine ⟨rfl,?_⟩|refine And.intro ?_ ?_)
 ·intro i hi
  have hfl:=filter_le (p:=p) (l:=xs) (i:=i)
  repeat' (first|refine zN ?_|refine zE ?_|refine zP ?_|refine pD ?_|refine pC (by (simp only [hX];omega)) ?_|refine zS ?_|refine zR ?_|refine zO ?_|refine zB ?_|refine zX ?_|refine zT ?_|refine skipI rfl ?_)
  refine condI rfl (fun c1=>?_) (fun c1=>?_)
  ·have c1:(i:Int) < (List.length (α:=Bk.El) xs:Nat):=of_decide_eq_true c1
   have hin:((i:Int)).toNat=i:=by omega
   have hil:i < xs.length:=by omega
   repeat' (first|refine zN ?_|refine zE ?_|refine zP ?_|refine pD ?_|refine pC (by (simp only [hX];omega)) ?_|refine zS ?_|refine zR ?_|refine zO ?_|refine zB ?_|refine zX ?_|refine zT ?_|refine skipI rfl ?_)
   refine condI rfl (fun c2=>?_) (fun c2=>?_)
   ·have c2':p (getI xs Bk.dflt i)=true:=by rw [hp,← hin];exact c2
    repeat' (first|refine zN ?_|refine zE ?_|refine zP ?_|refine pD ?_|refine pC (by first|(simp only [hX];omega)|(simp only [List.length_append,List.length_cons,List.length_nil];omega)) ?_|refine zS ?_|refine zR ?_|refine zO ?_|refine zB ?_|refine zX ?_|refine zT ?_|refine skipI rfl ?_)
    refine roundI (i+1) rfl ?_ ?_ ?_
    ·show i+1≤xs.length
     omega
    ·show xs.length - (i+1) < xs.length - i
     omega
    ·repeat' (first|exact trivial|with_reducible exact rfl|refine And.intro ?_ ?_)
     ·rfl
     ·rw [filter_take hil,if_pos c2',hin]
      rfl
   ·have c2':p (getI xs Bk.dflt i)=false:=by rw [hp,← hin];exact c2
    repeat' (first|refine zN ?_|refine zE ?_|refine zP ?_|refine pD ?_|refine pC (by (simp only [hX];omega)) ?_|refine zS ?_|refine zR ?_|refine zO ?_|refine zB ?_|refine zX ?_|refine zT ?_|refine skipI rfl ?_)
    refine roundI (i+1) rfl ?_ ?_ ?_
    ·show i+1≤xs.length
     omega
    ·show xs.length - (i+1) < xs.length - i
     omega
    ·repeat' (first|exact trivial|with_reducible exact rfl|refine And.intro ?_ ?_)
     ·rfl
     ·rw [filter_take hil,if_neg (by rw [c2'];simp),List.append_nil]
  ·have c1:¬ (i:Int) < (List.length (α:=Bk.El) xs:Nat):=of_decide_eq_false c1
   rw [List.take_of_length_le (i:=i) (by omega)]
   repeat' (first|refine zN ?_|refine zE ?_|refine zP ?_|refine pD ?_|refine pC (by (simp only [hX];omega)) ?_|refine zS ?_|refine zR ?_|refine zO ?_|refine zB ?_|refine zX ?_|refine zT ?_|refine skipI rfl ?_)
   refine endR rfl ?_
   repeat' (first|exact trivial|exact rfl|refine ⟨rfl,?_⟩|refine And.intro ?_ ?_)
def eq10S:Spec:=plain fun
 | [.ext (.cref (.pair (.int .i64) (.pair (.int .i64) (.pair (.int .i64) (.int .i64)))) c 0),.el (.slice (.pair (.int .i64) (.pair (.int .i64) (.pair (.int .i64) (.int .i64))))) [xs] 0 0]=>outV ((CalG c∧Cal c)∧xs=c.flatten∧lenF c≤1000000) (.bool true)
 | _=>none
def sigEq10:List (Nat × Spec):=[(40,listS),(41,refListS),(39,sameS),(27,lenS)]
theorem sigEq10Ok:SigOk Tryz.prog (look sigEq10):=sigCons (sigCons (sigCons (sigCons sigNil
 Tryz.func27 (by kernel_rfl) (c:=body Tryz.f27) rfl lenOk)
 Tryz.func39 (by kernel_rfl) (c:=body Tryz.f39) rfl sameOk)
 Tryz.func41 (by kernel_rfl) (c:=body Tryz.f41) rfl refListOk)
 Tryz.func40 (by kernel_rfl) (c:=body Tryz.f40) rfl listOk
theorem eq10Ok:SpecSound Tryz.prog 14 eq10S:=by
 refine soundP (envOf sigEq10Ok) Tryz.func14 (c:=body Tryz.f14) rfl (by kernel_rfl) rfl ?_
 intro args out hf hpre
 split at hf <;> try (cases hf;done)
 rename_i c xs
 cases hf
 refine ⟨Nat.le_of_ble_eq_true rfl,initI (args:=[.ext (.cref Bk c 0),.el (.slice Bk) [xs] 0 0]) rfl ?_⟩
 obtain ⟨⟨hg,hc⟩,hx,hl⟩:=hpre
 have hX:getI ([xs]:List (Ty.slice Bk).El) (Ty.slice Bk).dflt 0=xs:=rfl
 have hxl:List.length (α:=Bk.El) xs=lenF c:=by rw [hx];exact flat_len
 repeat' (first|refine zN ?_|refine zE ?_|refine zP ?_|refine pD ?_|refine zS ?_|refine zR ?_|refine zO ?_|refine zB ?_|refine zX ?_|refine zT ?_|refine skipI rfl ?_)
 refine loopI (σ:=Nat) (fun i=>[(5,.int .i64 i)]) (fun i=>[]) (fun i=>i≤60) (fun i=>60 - i) 0 rfl (fun _=>rfl) rfl ?_ ?_ ?_
 ·exact Nat.zero_le _
 ·repeat' (first|exact trivial|exact rfl|refine ⟨rfl,?_⟩|refine And.intro ?_ ?_)
 intro i hi
 repeat' (first|refine zN ?_|refine zE ?_|refine zP ?_|refine pD ?_|refine zS ?_|refine zR ?_|refine zO ?_|refine zB ?_|refine zX ?_|refine zT ?_|refine skipI rfl ?_)
 refine condI rfl (fun c1=>?_) (fun c1=>?_)
 ·simp only [decide_eq_true_eq] at c1
  have hi60:i < 60:=by omega
  have hll:sameB (listF c (i:Int)) (List.filter (α:=Bk.El) (fun b=>decide (b.1=(i:Int))) xs)=true:=by
   rw [hx,ref_list hg]
   exact sameB_iff.2 rfl
  repeat' (first|refine zN ?_|refine zE ?_|refine zP ?_|refine pD ?_|refine pC (by first|exact hc|(show List.length (α:=Bk.El) xs≤_;omega)) ?_|refine zS ?_|refine zR ?_|refine zO ?_|refine zB ?_|refine zX ?_|refine zT ?_|refine skipI rfl ?_)
  refine condI rfl (fun c2=>?_) (fun c2=>?_)
  ·exfalso
   rw [hll] at c2
   simp at c2
  ·repeat' (first|refine zN ?_|refine zE ?_|refine zP ?_|refine pD ?_|refine zS ?_|refine zR ?_|refine zO ?_|refine zB ?_|refine zX ?_|refine zT ?_|refine skipI rfl ?_)
   refine roundI (i+1) rfl ?_ ?_ ?_
   ·show i+1≤60
    omega
   ·show 60 - (i+1) < 60 - i
    omega
   ·repeat' (first|exact trivial|exact rfl|refine ⟨rfl,?_⟩|refine And.intro ?_ ?_)
 ·repeat' (first|refine zN ?_|refine zE ?_|refine zP ?_|refine pD ?_|refine pC (by first|exact hc) ?_|refine zS ?_|refine zR ?_|refine zO ?_|refine zB ?_|refine zX ?_|refine zT ?_|refine skipI rfl ?_)
  refine endR rfl ?_
  repeat' (first|exact trivial|exact rfl|refine ⟨rfl,?_⟩|refine And.intro ?_ ?_)
  simp only [hX,hxl]
  simp
def lmrS:Spec:=plain fun
 | [.sl (.pair (.int .i64) (.pair (.int .i64) (.pair (.int .i64) (.int .i64)))) _,.agg [.int .i64 _,.int .i64 _,.int .i64 _,.sl (.pair (.slice (.int .i64)) (.pair (.int .i64) (.int .i64))) _,.sl (.pair (.int .i64) (.pair (.int .i64) (.int .i64))) _],.agg [.int .i64 _,.int .i64 _,.int .i64 _,.int .i64 _],.sl (.pair (.int .i64) (.pair (.int .i64) (.pair (.int .i64) (.int .i64)))) _,.sl (.pair (.int .i64) (.int .i64)) _]=>outV True (.bool true)
 | _=>none
def sigMr:List (Nat × Spec):=[(5,saneS),(6,bookedS),(7,fewS),(8,mkReqS),(9,rvalidS),(10,rqS),(11,makeS),(12,rMakeS),(13,same8S),(14,eq10S)]
theorem sigMrOk:SigOk Tryz.prog (look sigMr):=sigCons (sigCons (sigCons (sigCons (sigCons (sigCons (sigCons (sigCons (sigCons (sigCons sigNil
 Tryz.func14 (by kernel_rfl) (c:=body Tryz.f14) rfl eq10Ok)
 Tryz.func13 (by kernel_rfl) (c:=body Tryz.f13) rfl same8Ok)
 Tryz.func12 (by kernel_rfl) (c:=body Tryz.f12) rfl rMakeOk)
 Tryz.func11 (by kernel_rfl) (c:=body Tryz.f11) rfl makeOk)
 Tryz.func10 (by kernel_rfl) (c:=body Tryz.f10) rfl rqOk)
 Tryz.func9 (by kernel_rfl) (c:=body Tryz.f9) rfl rvalidOk)
 Tryz.func8 (by kernel_rfl) (c:=body Tryz.f8) rfl mkReqOk)
 Tryz.func7 (by kernel_rfl) (c:=body Tryz.f7) rfl fewOk)
 Tryz.func6 (by kernel_rfl) (c:=body Tryz.f6) rfl bookedOk)
 Tryz.func5 (by kernel_rfl) (c:=body Tryz.f5) rfl saneOk
abbrev RqT:=Int × Int × Int × List NeedT × List (Int × Int × Int)
abbrev tRq:Ty:=.pair (.int .i64) (.pair (.int .i64) (.pair (.int .i64) (.pair (.slice (.pair (.slice (.int .i64)) (.pair (.int .i64) (.int .i64)))) (.slice (.pair (.int .i64) (.pair (.int .i64) (.int .i64)))))))
def RqSm (ns:List tNeed.El) (ws:List tWin.El):Prop:=ns.length≤6∧ws.length≤22∧∀ x∈ns,List.length (α:=Int) x.1≤5
theorem fewN_sm (ns:List NeedT) (ws:List tWin.El):RqSm (fewN ns) (ws.take 22):=by
 refine ⟨by unfold fewN;rw [List.length_map,List.length_take];omega,by rw [List.length_take];omega,fun x hx=>?_⟩
 unfold fewN at hx
 obtain ⟨y,_,rfl⟩:=List.mem_map.1 hx
 show (List.take 5 y.1).length≤5
 rw [List.length_take]
 omega
theorem lmrOk:SpecSound Tryz.prog 3 lmrS:=by
 refine soundP2 (envOf2 sigMrOk) Tryz.func3 (c:=body Tryz.f3) rfl (by kernel_rfl) rfl ?_
 intro args out hf hpre
 split at hf <;> try (cases hf;done)
 rename_i bk e' a' b' ns' ws' y0 y1 y2 y3 needs ws
 cases hf
 refine ⟨Nat.le_of_ble_eq_true rfl,initI (args:=[.sl t4 bk,.agg [.int .i64 e',.int .i64 a',.int .i64 b',.sl tNeed ns',.sl tWin ws'],.agg [.int .i64 y0,.int .i64 y1,.int .i64 y2,.int .i64 y3],.sl t4 needs,.sl tP2 ws]) rfl ?_⟩
 obtain ⟨c,hc⟩:∃ c,c=calOf bk:=⟨_,rfl⟩
 obtain ⟨hcg,hcl⟩:=calOf_good bk
 have hrf:=refOf_eq bk
 rw [← hc] at hcg hcl hrf
 obtain ⟨d,hd⟩:∃ d:BkL,d=refOf bk:=⟨_,rfl⟩
 rw [← hd] at hrf
 have hcal:=hcg.cal (by omega)
 have hnl:=ndL_len (y0,y1,y2,y3) needs
 have hwll:=winL_len (ndN needs) ws
 have htl:=ndL_tools (X:=(y0,y1,y2,y3)) (needs:=needs)
 have hf1:=fewN_sm ns' ws'
 repeat' (first|refine zN ?_|refine zE ?_|refine zP ?_|refine zS ?_|refine zO ?_|refine zB ?_|refine zX ?_|refine zT ?_|refine skipI rfl ?_)
 refine zR ?_
 repeat' (first|with_reducible refine pN ?_|refine pD ?_|fail)
 repeat with_reducible refine cN ?_
 repeat' (first|refine zN ?_|refine zE ?_|refine zP ?_|refine zS ?_|refine zO ?_|refine zB ?_|refine zX ?_|refine zT ?_|refine skipI rfl ?_)
 refine zR ?_
 repeat' (first|with_reducible refine pN ?_|refine pD ?_|fail)
 repeat with_reducible refine cN ?_
 repeat' (first|refine zN ?_|refine zE ?_|refine zP ?_|refine zS ?_|refine zO ?_|refine zB ?_|refine zX ?_|refine zT ?_|refine skipI rfl ?_)
 refine zR ?_
 repeat' (first|with_reducible refine pN ?_|refine pD ?_|fail)
 repeat with_reducible refine cN ?_
 rw [← hc,← hd]
 repeat' (first|refine zN ?_|refine zE ?_|refine zP ?_|refine pD ?_|refine zS ?_|refine zR ?_|refine zO ?_|refine zB ?_|refine zX ?_|refine zT ?_|refine skipI rfl ?_)
 obtain ⟨L,hL⟩:∃ L:List RqT,L=[(e',a',b',fewN ns',ws'.take 22),(rqE (y0,y1,y2,y3),rqA (y0,y1,y2,y3),rqB (y0,y1,y2,y3),ndL (y0,y1,y2,y3) needs,winL (ndN needs) ws)]:=⟨_,rfl⟩
 rw [← hL]
 have hL2:List.length (α:=RqT) L=2:=by rw [hL];rfl
 have hLs:∀ q∈L,RqSm q.2.2.2.1 q.2.2.2.2:=fun q hq=>by
  rw [hL] at hq
  rcases List.mem_cons.1 hq with hq|hq
  ·rw [hq];exact hf1
  ·rw [List.mem_singleton.1 hq]
   exact ⟨Nat.le_trans hnl (by decide),Nat.le_trans hwll (by decide),fun x hx=>Nat.le_trans (htl x hx) (by decide)⟩
 have hdl:List.length (α:=Bk.El) d≤80000:=by rw [hrf,flat_len];omega
 refine loopI (σ:=Nat) (fun i=>[(34,.int .i64 i)]) (fun i=>[]) (fun i=>i≤2) (fun i=>2 - i) 0 rfl (fun _=>rfl) rfl ?_ ?_ ?_
 ·exact Nat.zero_le _
 ·repeat' (first|exact trivial|with_reducible exact rfl|refine And.intro ?_ ?_)
  all_goals rfl
 intro i hi
 repeat' (first|refine zN ?_|refine zE ?_|refine zP ?_|refine pD ?_|refine zS ?_|refine zR ?_|refine zO ?_|refine zB ?_|refine zX ?_|refine zT ?_|refine skipI rfl ?_)
 refine condI rfl (fun c1=>?_) (fun c1=>?_)
 ·simp only [decide_eq_true_eq] at c1
  have hil:i < List.length (α:=RqT) L:=by omega
  have hin:((i:Int)).toNat=i:=by omega
  obtain ⟨q,hq⟩:∃ q:RqT,q=getI L tRq.dflt i:=⟨_,rfl⟩
  have hqs:=hLs q (by rw [hq];exact Pl.getI_mem hil)
  have hq':getI L tRq.dflt ((i:Int)).toNat=q:=by rw [hin];exact hq.symm
  obtain ⟨e,a,b,ns,wz⟩:=q
  obtain ⟨hq1,hq2,hq3⟩:=hqs
  dsimp only at hq1 hq2 hq3
  have hb1:ns.length≤1000000∧wz.length≤1000000:=⟨by omega,by omega⟩
  have hb2:ns.length≤1000000∧wz.length≤1000000∧∀ x∈ns,List.length (α:=Int) x.1≤1000000:=⟨by omega,by omega,fun x hx=>Nat.le_trans (hq3 x hx) (by decide)⟩
  repeat' (first|refine zN ?_|refine zE ?_|refine zP ?_|refine zS ?_|refine zO ?_|refine zB ?_|refine zX ?_|refine zT ?_|refine skipI rfl ?_)
  refine zR ?_
  repeat' (first|with_reducible refine pN ?_|refine pD ?_|refine pC (by omega) ?_)
  repeat with_reducible refine cN ?_
  simp only [hq']
  repeat' (first|refine zN ?_|refine zE ?_|refine zP ?_|refine zS ?_|refine zO ?_|refine zB ?_|refine zX ?_|refine zT ?_|refine skipI rfl ?_)
  refine zR ?_
  repeat' (first|with_reducible refine pN ?_|refine pD ?_|refine pC (by first|exact hb1|exact hb2) ?_)
  repeat with_reducible refine cN ?_
  repeat' (first|with_reducible refine cN ?_|refine zS ?_|refine skipI rfl ?_)
  refine condI rfl (fun c2=>?_) (fun c2=>?_)
  ·exfalso
   simp at c2
  repeat' (first|refine zN ?_|refine zE ?_|refine zP ?_|refine pD ?_|refine pC (by (exact hb1)) ?_|refine zS ?_|refine zR ?_|refine zO ?_|refine zB ?_|refine zX ?_|refine zT ?_|refine skipI rfl ?_)
  refine condI rfl (fun c3=>?_) (fun c3=>?_)
  ·repeat' (first|refine zN ?_|refine zE ?_|refine zP ?_|refine pD ?_|refine zS ?_|refine zR ?_|refine zO ?_|refine zB ?_|refine zX ?_|refine zT ?_|refine skipI rfl ?_)
   refine roundI (i+1) rfl ?_ ?_ ?_
   ·show i+1≤2
    omega
   ·show 2 - (i+1) < 2 - i
    omega
   ·repeat' (first|exact trivial|with_reducible exact rfl|refine And.intro ?_ ?_)
    all_goals rfl
  have hR:rvalidF e a b ns wz=true→RbP d e a b ns wz:=fun h=>by
   rw [h] at c3
   simp at c3
   rw [hrf] at hdl ⊢
   exact rbP_of hcg hdl (by omega) h
  have hmk:(bif rvalidF e a b ns wz then rFold d e b ns wz (chR ns) else none)=makeG c e a b ns wz:=by rw [hrf];exact rMake_eq hcg
  have hml:(bStg (makeG c e a b ns wz)).length≤6:=by
   cases ho:makeG c e a b ns wz with
   | none=>exact Nat.zero_le _
   | some y =>
     have m:=made hcg ho
     show y.1.length≤6
     rw [m.len]
     exact hq1
  have hwl:(sel (makeG c e a b ns wz) wz []).length≤22:=by
   cases makeG c e a b ns wz
   ·exact Nat.zero_le _
   ·exact hq2
  repeat' (first|with_reducible refine cN ?_|refine skipI rfl ?_)
  repeat' (first|refine zN ?_|refine zE ?_|refine zP ?_|refine zS ?_|refine zO ?_|refine zB ?_|refine zX ?_|refine zT ?_|refine skipI rfl ?_)
  refine zR ?_
  repeat' (first|with_reducible refine pN ?_|refine pD ?_|refine pC (by exact ⟨⟨hcg,by omega⟩,by omega,by omega⟩) ?_)
  repeat with_reducible refine cN ?_
  repeat' (first|refine zN ?_|refine zE ?_|refine zP ?_|refine zS ?_|refine zO ?_|refine zB ?_|refine zX ?_|refine zT ?_|refine skipI rfl ?_)
  refine zR ?_
  repeat' (first|with_reducible refine pN ?_|refine pD ?_|refine pC (by exact ⟨hb2,hR⟩) ?_)
  repeat with_reducible refine cN ?_
  simp only [hmk]
  generalize makeG c e a b ns wz=o at *
  repeat' (first|refine zN ?_|refine zE ?_|refine zP ?_|refine zS ?_|refine zO ?_|refine zB ?_|refine zX ?_|refine zT ?_|refine skipI rfl ?_)
  refine zR ?_
  repeat' (first|with_reducible refine pN ?_|refine pD ?_|refine pC (by first|exact ⟨⟨by omega,by omega⟩,by omega,by omega⟩|(intros;exact ⟨⟨by omega,by omega⟩,by omega,by omega⟩)|exact ⟨⟨hcg,hcal⟩,hrf,by omega⟩|(intros;exact ⟨⟨hcg,hcal⟩,hrf,by omega⟩)) ?_)
  repeat with_reducible refine cN ?_
  repeat' (first|with_reducible refine cN ?_|refine zS ?_|refine skipI rfl ?_)
  refine condI rfl (fun c4=>?_) (fun c4=>?_)
  ·exfalso
   simp [same8F] at c4
  repeat' (first|refine zN ?_|refine zE ?_|refine zP ?_|refine pD ?_|refine zS ?_|refine zR ?_|refine zO ?_|refine zB ?_|refine zX ?_|refine zT ?_|refine skipI rfl ?_)
  refine roundI (i+1) rfl ?_ ?_ ?_
  ·show i+1≤2
   omega
  ·show 2 - (i+1) < 2 - i
   omega
  ·repeat' (first|exact trivial|with_reducible exact rfl|refine And.intro ?_ ?_)
   all_goals rfl
 ·repeat' (first|refine zN ?_|refine zE ?_|refine zP ?_|refine pD ?_|refine zS ?_|refine zR ?_|refine zO ?_|refine zB ?_|refine zX ?_|refine zT ?_|refine skipI rfl ?_)
  refine endR rfl ?_
  repeat' (first|exact trivial|exact rfl|refine ⟨rfl,?_⟩|refine And.intro ?_ ?_)
end Go.AM.YtmohhhbgcehnpaaGreat.Re
