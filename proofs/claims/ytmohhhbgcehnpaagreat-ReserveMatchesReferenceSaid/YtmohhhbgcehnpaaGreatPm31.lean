/- ReO, ReP, ReQ. -/
import Derived.Test.YtmohhhbgcehnpaaGreatPm18
import Derived.Test.YtmohhhbgcehnpaaGreatPm22
import Derived.Test.YtmohhhbgcehnpaaGreatPm30

section
set_option linter.all false
namespace Go.AM.YtmohhhbgcehnpaaGreat.Re
open Go.Proofs
set_option maxRecDepth 100000
set_option maxHeartbeats 4000000
theorem pick10Ok:SpecSound Tryz.prog 32 pickP:=by
 refine soundP (envOf sigNil) Tryz.func32 (c:=body Tryz.f32) rfl (by kernel_rfl) rfl ?_
 intro args out hf hpre
 split at hf <;> try (cases hf;done)
 rename_i c n
 cases hf
 refine ⟨Nat.le_of_ble_eq_true rfl,initI rfl ?_⟩
 refine factInt (t:=0) rfl (fun hc=>?_)
 have hc:=wrap64 hc
 change 0 < n at hpre
 repeat' (first|refine zN ?_|refine zE ?_|refine zP ?_|refine pD ?_|refine zS ?_|refine zR ?_|refine zO ?_|refine zB ?_|refine zX ?_|refine zT ?_|refine skipI rfl ?_)
 refine condI rfl (fun c1=>?_) (fun c1=>?_)
 ·simp only [decide_eq_true_eq] at c1
  repeat' (first|refine zN ?_|refine zE ?_|refine zP ?_|refine pD ?_|refine zS ?_|refine zR ?_|refine zO ?_|refine zB ?_|refine zX ?_|refine zT ?_|refine skipI rfl ?_)
  refine endR rfl ?_
  repeat' (first|exact trivial|exact rfl|refine ⟨rfl,?_⟩|refine And.intro ?_ ?_)
  exact pickF_neg hpre c1
 ·simp only [decide_eq_false_iff_not] at c1
  repeat' (first|refine zN ?_|refine zE ?_|refine zP ?_|refine pD ?_|refine zS ?_|refine zR ?_|refine zO ?_|refine zB ?_|refine zX ?_|refine zT ?_|refine skipI rfl ?_)
  refine endR rfl ?_
  repeat' (first|exact trivial|exact rfl|refine ⟨rfl,?_⟩|refine And.intro ?_ ?_)
  exact pickF_pos hpre c1
def calOf (x:List t4.El):CalT:=bookAll ((someF x).take 15) noCal
def refs (l:List Bk.El):List Bk.El:=l.foldl bookR []
def refOf (x:List t4.El):List Bk.El:=refs ((someF x).take 15)
theorem refs_take {l:List Bk.El} {i:Nat} (h:i < l.length):refs (l.take (i+1))=bookR (refs (l.take i)) (getI l Bk.dflt i):=by
 unfold refs
 rw [take_succ_getI (d:=Bk.dflt) h,List.foldl_append]
 rfl
theorem refs_len {l:List Bk.El}:(refs l).length≤l.length:=by
 have:∀ (l acc:List Bk.El),(l.foldl bookR acc).length≤acc.length+l.length:=fun l=>by
  induction l with
  | nil=>intro acc;simp
  | cons b r ih =>
    intro acc
    refine Nat.le_trans (ih _) ?_
    have:(bookR acc b).length≤acc.length+1:=by
     unfold bookR
     split
     ·rw [List.length_append,List.length_append,List.length_take,List.length_drop]
      show _+(1+_)≤_
      omega
     ·omega
    simp only [List.length_cons]
    omega
 have h:=this l []
 simp only [List.length_nil,Nat.zero_add] at h
 exact h
def bookedS:Spec:=⟨true,fun args rows=>match args,rows with
 | [.sl (.pair (.int .i64) (.pair (.int .i64) (.pair (.int .i64) (.int .i64)))) x],[]=>some ⟨True,.tup [.ptr 0 0,.ptr 1 0],[.arr Bk (calOf x) none,.box [.own 2],.seq Bk (refOf x)],true⟩
 | _,_=>none⟩
def sigBd:List (Nat × Spec):=[(23,newS),(30,bookS),(28,refNewS),(29,someS),(31,refBookS)]
theorem sigBdOk:SigOk Tryz.prog (look sigBd):=sigCons (sigCons (sigCons (sigCons (sigCons sigNil
 Tryz.func31 (by kernel_rfl) (c:=body Tryz.f31) rfl refBookOk)
 Tryz.func29 (by kernel_rfl) (c:=body Tryz.f29) rfl someOk)
 Tryz.func28 (by kernel_rfl) (c:=body Tryz.f28) rfl refNewOk)
 Tryz.func30 (by kernel_rfl) (c:=body Tryz.f30) rfl bookOk)
 Tryz.func23 (by kernel_rfl) (c:=body Tryz.f23) rfl newOk
theorem calOf_good (x:List t4.El):CalG (calOf x)∧lenF (calOf x)≤15:=by
 obtain ⟨h1,h2⟩:=bookAll_good (l:=(someF x).take 15) noCal_good
 rw [lenF_no,List.length_take] at h2
 exact ⟨h1,by show lenF (bookAll _ _)≤_;omega⟩
theorem bookedOk:SpecSound Tryz.prog 6 bookedS:=by
 refine soundR (envOf sigBdOk) Tryz.func6 (c:=body Tryz.f6) rfl (by kernel_rfl) rfl ?_
 intro args rows out hf hpre
 split at hf <;> try (cases hf;done)
 rename_i x
 cases hf
 refine ⟨Nat.le_of_ble_eq_true rfl,initI (args:=[.sl t4 x]) (rows:=[]) rfl ?_⟩
 repeat' (first|refine zN ?_|refine zE ?_|refine zP ?_|refine pD ?_|refine zS ?_|refine zR ?_|refine zO ?_|refine zB ?_|refine zX ?_|refine zT ?_|refine skipI rfl ?_)
 obtain ⟨l,hl⟩:∃ l,l=someF x:=⟨_,rfl⟩
 have hlen:l.length≤40:=by rw [hl];exact someF_len x
 rw [← hl]
 refine loopI (σ:=Nat) (fun i=>[(4,.ptr 3000 0),(5,.ptr 3001 0),(7,.int .i64 i)]) (fun i=>[(3000,.arr Bk (bookAll (l.take i) noCal) none),(3001,.box [.own 3002]),(3002,.seq Bk (refs (l.take i)))]) (fun i=>i≤l.length∧i≤15) (fun i=>l.length - i) 0 rfl (fun _=>rfl) rfl ?_ ?_ ?_
 ·exact ⟨Nat.zero_le _,Nat.zero_le _⟩
 ·repeat' (first|exact trivial|with_reducible exact rfl|refine And.intro ?_ ?_)
  all_goals rfl
 rintro i ⟨hi,hi15⟩
 obtain ⟨h1,h2,h3⟩:=bookAll_ok (l.take i) (by rw [List.length_take];omega)
 have h4:=(bookAll_good (l:=l.take i) noCal_good).2
 rw [lenF_no,List.length_take] at h4
 repeat' (first|refine zN ?_|refine zE ?_|refine zP ?_|refine pD ?_|refine zS ?_|refine zR ?_|refine zO ?_|refine zB ?_|refine zX ?_|refine zT ?_|refine skipI rfl ?_)
 refine condI rfl (fun c1=>?_) (fun c1=>?_)
 ·simp only [Bool.and_eq_true,decide_eq_true_eq] at c1
  have hil:i < l.length:=by omega
  have hin:((i:Int)).toNat=i:=by omega
  repeat' (first|refine zN ?_|refine zE ?_|refine zP ?_|refine pD ?_|refine pC (by first|exact ⟨h2,h3⟩|(show List.length (α:=Bk.El) _≤100000;have:=refs_len (l:=l.take i);rw [List.length_take] at this;omega)) ?_|refine zS ?_|refine zR ?_|refine zO ?_|refine zB ?_|refine zX ?_|refine zT ?_|refine skipI rfl ?_)
  refine roundI (i+1) rfl ?_ ?_ ?_
  ·exact ⟨by omega,by omega⟩
  ·show l.length - (i+1) < l.length - i
   omega
  ·repeat' (first|exact trivial|with_reducible exact rfl|refine And.intro ?_ ?_)
   all_goals (first|rfl|(rw [bookAll_take hil];simp only [hin];done)|(rw [refs_take hil];simp only [hin];done))
 ·have e:bookAll (l.take i) noCal=calOf x:=by
   unfold calOf
   rw [← hl]
   simp only [Bool.and_eq_false_iff,decide_eq_false_iff_not] at c1
   by_cases hc:i=l.length
   ·rw [List.take_of_length_le (by omega),List.take_of_length_le (by omega)]
   ·rw [show i=15 by omega]
  have e2:refs (l.take i)=refOf x:=by
   unfold refOf
   rw [← hl]
   simp only [Bool.and_eq_false_iff,decide_eq_false_iff_not] at c1
   by_cases hc:i=l.length
   ·rw [List.take_of_length_le (by omega),List.take_of_length_le (by omega)]
   ·rw [show i=15 by omega]
  rw [e,e2]
  repeat' (first|refine zN ?_|refine zE ?_|refine zP ?_|refine pD ?_|refine zS ?_|refine zR ?_|refine zO ?_|refine zB ?_|refine zX ?_|refine zT ?_|refine skipI rfl ?_)
  refine endR rfl ?_
  repeat' (first|exact trivial|exact rfl|refine ⟨rfl,?_⟩|refine And.intro ?_ ?_)
def simpleS:Spec:=⟨true,fun args rows=>match args,rows with
 | [],[]=>some ⟨True,.agg [.int .i64 0,.int .i64 5,.int .i64 10,.sl tNeed [([1,2],20,30)],.sl tWin []],[],true⟩
 | _,_=>none⟩
theorem simpleOk:SpecSound Tryz.prog 24 simpleS:=by
 refine soundR (envOf sigNil) Tryz.func24 (c:=body Tryz.f24) rfl (by kernel_rfl) rfl ?_
 intro args rows out hf hpre
 split at hf <;> try (cases hf;done)
 cases hf
 refine ⟨Nat.le_of_ble_eq_true rfl,initI (args:=[]) (rows:=[]) rfl ?_⟩
 repeat' (first|refine zN ?_|refine zE ?_|refine zP ?_|refine zS ?_|refine zO ?_|refine zB ?_|refine zX ?_|refine zT ?_|refine skipI rfl ?_)
 refine zR ?_
 repeat' (first|with_reducible refine pN ?_|refine pD ?_|fail)
 repeat with_reducible refine cN ?_
 refine zS ?_
 refine regF 2 1 rfl ?_
 repeat' (first|with_reducible refine pN ?_|refine pC (by first|trivial|omega|decide) ?_)
 refine cN ?_
 refine freezeI 3 rfl ?_
 repeat' (first|refine zN ?_|refine zE ?_|refine zP ?_|refine pD ?_|refine zS ?_|refine zR ?_|refine zO ?_|refine zB ?_|refine zX ?_|refine zT ?_|refine skipI rfl ?_)
 refine endR rfl ?_
 repeat' (first|exact trivial|exact rfl|refine ⟨rfl,?_⟩|refine And.intro ?_ ?_)
end Go.AM.YtmohhhbgcehnpaaGreat.Re
end

section
set_option linter.all false
namespace Go.AM.YtmohhhbgcehnpaaGreat.Re
open Go.Proofs
set_option maxRecDepth 100000
set_option maxHeartbeats 4000000
abbrev Int4:=Int × Int × Int × Int
abbrev tP2:Ty:=.pair (.int .i64) (.int .i64)
def mkA (y:Int4):Int:=pickF y.1 4
def mkBb (y:Int4):Int:=mkA y+1+pickF y.2.1 2
def mkT (y:Int4):List Int:=bif decide (pickF (y.2.1.tdiv 2) 3=0) then [mkA y,mkBb y]++[mkBb y+1+pickF (y.2.1.tdiv 6) 2] else [mkA y,mkBb y]
def mkNeed (y:Int4):NeedT:=(mkT y,1+pickF y.2.2.1 20,1+pickF y.2.2.1 20+pickF y.2.2.2 8)
def ndAt (x:Int4) (needs:List Int4) (i:Nat):Int4:=bif decide ((i:Int) < (needs.length:Int)) then getI needs t4.dflt i else (x.2.2.2,x.2.2.1,x.2.1,x.1)
def ndN (needs:List Int4):Nat:=max 1 (min needs.length 3)
def ndL (x:Int4) (needs:List Int4):List NeedT:=(List.range (ndN needs)).map fun i=>mkNeed (ndAt x needs i)
abbrev WinT:=Int × Int × Int
def mkW (w:Int × Int):WinT:=(getI [0,0,1] (0:Int) (pickF w.1 3).toNat,getI [1,2,2] (0:Int) (pickF w.1 3).toNat,pickF w.2 150)
def winFit (n:Int) (acc:List WinT) (w:WinT):Bool :=
 decide (w.2.1 < n)&&((decide ((acc.length:Int)=0)||decide ((getI acc tWin.dflt ((acc.length:Int) - 1).toNat).1 < w.1))||(decide ((getI acc tWin.dflt ((acc.length:Int) - 1).toNat).1=w.1)&&decide ((getI acc tWin.dflt ((acc.length:Int) - 1).toNat).2.1 < w.2.1)))
def winStep (n:Int) (acc:List WinT) (w:Int × Int):List WinT:=bif winFit n acc (mkW w) then acc++[mkW w] else acc
def winL (n:Int) (ws:List (Int × Int)):List WinT:=(ws.take 3).foldl (winStep n) []
def rqE (x:Int4):Int:=pickF x.1 100
def rqA (x:Int4):Int:=pickF x.2.1 4
def rqB (x:Int4):Int:=pickF x.2.1 4+pickF x.2.2.1 5
def mkReqS:Spec:=⟨true,fun args rows=>match args,rows with
 | [.agg [.int .i64 x0,.int .i64 x1,.int .i64 x2,.int .i64 x3],.sl (.pair (.int .i64) (.pair (.int .i64) (.pair (.int .i64) (.int .i64)))) needs,.sl (.pair (.int .i64) (.int .i64)) ws],[] =>
   some ⟨True,.agg [.int .i64 (rqE (x0,x1,x2,x3)),.int .i64 (rqA (x0,x1,x2,x3)),.int .i64 (rqB (x0,x1,x2,x3)),.sl tNeed (ndL (x0,x1,x2,x3) needs),.sl tWin (winL (ndN needs) ws)],[],true⟩
 | _,_=>none⟩
def sigPk10:List (Nat × Spec):=[(32,pickP)]
theorem sigPk10Ok:SigOk Tryz.prog (look sigPk10):=sigCons sigNil Tryz.func32 (by kernel_rfl) (c:=body Tryz.f32) rfl pick10Ok
theorem mkReqOk:SpecSound Tryz.prog 8 mkReqS:=by
 refine soundR (envOf sigPk10Ok) Tryz.func8 (c:=body Tryz.f8) rfl (by kernel_rfl) rfl ?_
 intro args rows out hf hpre
 split at hf <;> try (cases hf;done)
 rename_i x0 x1 x2 x3 needs ws
 cases hf
 refine ⟨Nat.le_of_ble_eq_true rfl,initI (args:=[.agg [.int .i64 x0,.int .i64 x1,.int .i64 x2,.int .i64 x3],.sl t4 needs,.sl tP2 ws]) (rows:=[]) rfl ?_⟩
 refine factSl (t:=1) (ty:=t4) rfl (fun hxs=>?_)
 have hmx:needs.length≤9223372036854775807:=by have:=hxs.1;unfold maxLen at this;omega
 refine factSl (t:=2) (ty:=tP2) rfl (fun hws=>?_)
 have hwx:ws.length≤9223372036854775807:=by have:=hws.1;unfold maxLen at this;omega
 have bp:=fun (c n:Int) (h:0 < n)=>pick_b (c:=c) (n:=n) h
 have q1:=bp x1 4 (by omega)
 have q2:=bp x2 5 (by omega)
 repeat' (first|refine zN ?_|refine zE ?_|refine zP ?_|refine pD ?_|refine pC (by first|(unfold In64;omega)|omega) ?_|refine zS ?_|refine zR ?_|refine zO ?_|refine zB ?_|refine zX ?_|refine zT ?_|refine skipI rfl ?_)
 obtain ⟨X,hX⟩:∃ X:Int4,X=(x0,x1,x2,x3):=⟨_,rfl⟩
 have hn:max 1 (min ((needs.length:Nat):Int) 3)=((ndN needs:Nat):Int):=by unfold ndN;omega
 have hn3:ndN needs≤3:=by unfold ndN;omega
 simp only [hn]
 refine loopI (σ:=Nat) (fun i=>[(9,.int .i64 i)]) (fun i=>[(7,.box [.int .i64 (pickF x0 100),.int .i64 (pickF x1 4),.int .i64 (pickF x1 4+pickF x2 5),.own 3000,.nilsl]),(3000,.seq tNeed ((List.range i).map fun i=>mkNeed (ndAt (x0,x1,x2,x3) needs i)))]) (fun i=>i≤ndN needs) (fun i=>ndN needs - i) 0 rfl (fun _=>rfl) rfl ?_ ?_ ?_
 ·exact Nat.zero_le _
 ·repeat' (first|exact trivial|with_reducible exact rfl|refine And.intro ?_ ?_)
  all_goals rfl
 ·intro i hi
  repeat' (first|refine zN ?_|refine zE ?_|refine zP ?_|refine pD ?_|refine zS ?_|refine zR ?_|refine zO ?_|refine zB ?_|refine zX ?_|refine zT ?_|refine skipI rfl ?_)
  refine condI rfl (fun c1=>?_) (fun c1=>?_)
  ·simp only [decide_eq_true_eq] at c1
   have hil:i < ndN needs:=by omega
   have hin:((i:Int)).toNat=i:=by omega
   obtain ⟨y,hy⟩:∃ y:Int4,y=ndAt (x0,x1,x2,x3) needs i:=⟨_,rfl⟩
   repeat' (first|refine zN ?_|refine zE ?_|refine zP ?_|refine pD ?_|refine zS ?_|refine zR ?_|refine zO ?_|refine zB ?_|refine zX ?_|refine zT ?_|refine skipI rfl ?_)
   refine condI rfl (fun c2=>?_) (fun c2=>?_)
   ·have hye:y=getI needs t4.dflt i:=by rw [hy];unfold ndAt;rw [c2];rfl
    repeat' (first|refine zN ?_|refine zE ?_|refine zP ?_|refine zS ?_|refine zO ?_|refine zB ?_|refine zX ?_|refine zT ?_|refine skipI rfl ?_)
    refine zR ?_
    repeat' (first|with_reducible refine pN ?_|refine pD ?_|refine pC (by (simp only [decide_eq_true_eq] at c2;omega)) ?_)
    repeat with_reducible refine cN ?_
    repeat' (first|with_reducible refine cN ?_|refine zS ?_|fail)
    refine tidyI [] [(10,.box [.int .i64 y.1,.int .i64 y.2.1,.int .i64 y.2.2.1,.int .i64 y.2.2.2])] rfl rfl ?_ ?_
    ·rw [hye]
     simp only [hin]
     repeat' (first|exact trivial|exact rfl|refine ⟨rfl,?_⟩|refine And.intro ?_ ?_)
    have p1:=bp y.1 4 (by omega)
    have p2:=bp y.2.1 2 (by omega)
    have p3:=bp y.2.2.1 20 (by omega)
    have p4:=bp y.2.2.2 8 (by omega)
    have p5:=bp (y.2.1.tdiv 6) 2 (by omega)
    repeat' (first|refine zN ?_|refine zE ?_|refine zP ?_|refine pD ?_|refine pC (by first|(unfold In64;omega)|omega) ?_|refine zS ?_|refine zR ?_|refine zO ?_|refine zB ?_|refine zX ?_|refine zT ?_|refine skipI rfl ?_)
    have hml:((List.range i).map fun i=>mkNeed (ndAt (x0,x1,x2,x3) needs i)).length=i:=by rw [List.length_map,List.length_range]
    refine condI rfl (fun c3=>?_) (fun c3=>?_)
    ·repeat' (first|refine zN ?_|refine zE ?_|refine zP ?_|refine zS ?_|refine zO ?_|refine zB ?_|refine zX ?_|refine zT ?_|refine skipI rfl ?_)
     refine zR ?_
     repeat' (first|with_reducible refine pN ?_|refine pD ?_|refine pC (by first|(unfold In64;omega)|(simp;done)|(simp;omega)) ?_)
     repeat with_reducible refine cN ?_
     refine freezeI 90 rfl ?_
     have hny:mkNeed y=([pickF y.1 4,pickF y.1 4+1+pickF y.2.1 2]++[pickF y.1 4+1+pickF y.2.1 2+1+pickF (y.2.1.tdiv 6) 2],1+pickF y.2.2.1 20,1+pickF y.2.2.1 20+pickF y.2.2.2 8):=by
      unfold mkNeed mkT mkBb mkA
      rw [show decide (pickF (y.2.1.tdiv 2) 3=0)=true from c3]
      rfl
     repeat' (first|refine zN ?_|refine zE ?_|refine zP ?_|refine pD ?_|refine pC (by first|(unfold In64;omega)|(simp only [hml,List.length_cons,List.length_nil];omega)) ?_|refine zS ?_|refine zR ?_|refine zO ?_|refine zB ?_|refine zX ?_|refine zT ?_|refine skipI rfl ?_)
     refine roundI (i+1) rfl ?_ ?_ ?_
     ·show i+1≤ndN needs
      omega
     ·show ndN needs - (i+1) < ndN needs - i
      omega
     ·repeat' (first|exact trivial|with_reducible exact rfl|refine And.intro ?_ ?_)
      all_goals (first|rfl|(rw [List.range_succ,List.map_append,List.map_cons,← hy,hny];rfl))
    ·refine freezeI 69 rfl ?_
     have hny:mkNeed y=([pickF y.1 4,pickF y.1 4+1+pickF y.2.1 2],1+pickF y.2.2.1 20,1+pickF y.2.2.1 20+pickF y.2.2.2 8):=by
      unfold mkNeed mkT mkBb mkA
      rw [show decide (pickF (y.2.1.tdiv 2) 3=0)=false from c3]
      rfl
     repeat' (first|refine zN ?_|refine zE ?_|refine zP ?_|refine pD ?_|refine pC (by first|(unfold In64;omega)|(simp only [hml,List.length_cons,List.length_nil];omega)) ?_|refine zS ?_|refine zR ?_|refine zO ?_|refine zB ?_|refine zX ?_|refine zT ?_|refine skipI rfl ?_)
     refine roundI (i+1) rfl ?_ ?_ ?_
     ·show i+1≤ndN needs
      omega
     ·show ndN needs - (i+1) < ndN needs - i
      omega
     ·repeat' (first|exact trivial|with_reducible exact rfl|refine And.intro ?_ ?_)
      all_goals (first|rfl|(rw [List.range_succ,List.map_append,List.map_cons,← hy,hny];rfl))
   ·have hye:y=(x3,x2,x1,x0):=by rw [hy];unfold ndAt;rw [c2];rfl
    refine tidyI [] [(10,.box [.int .i64 y.1,.int .i64 y.2.1,.int .i64 y.2.2.1,.int .i64 y.2.2.2])] rfl rfl ?_ ?_
    ·rw [hye]
     repeat' (first|exact trivial|exact rfl|refine ⟨rfl,?_⟩|refine And.intro ?_ ?_)
    have p1:=bp y.1 4 (by omega)
    have p2:=bp y.2.1 2 (by omega)
    have p3:=bp y.2.2.1 20 (by omega)
    have p4:=bp y.2.2.2 8 (by omega)
    have p5:=bp (y.2.1.tdiv 6) 2 (by omega)
    repeat' (first|refine zN ?_|refine zE ?_|refine zP ?_|refine pD ?_|refine pC (by first|(unfold In64;omega)|omega) ?_|refine zS ?_|refine zR ?_|refine zO ?_|refine zB ?_|refine zX ?_|refine zT ?_|refine skipI rfl ?_)
    have hml:((List.range i).map fun i=>mkNeed (ndAt (x0,x1,x2,x3) needs i)).length=i:=by rw [List.length_map,List.length_range]
    refine condI rfl (fun c3=>?_) (fun c3=>?_)
    ·repeat' (first|refine zN ?_|refine zE ?_|refine zP ?_|refine zS ?_|refine zO ?_|refine zB ?_|refine zX ?_|refine zT ?_|refine skipI rfl ?_)
     refine zR ?_
     repeat' (first|with_reducible refine pN ?_|refine pD ?_|refine pC (by first|(unfold In64;omega)|(simp;done)|(simp;omega)) ?_)
     repeat with_reducible refine cN ?_
     refine freezeI 90 rfl ?_
     have hny:mkNeed y=([pickF y.1 4,pickF y.1 4+1+pickF y.2.1 2]++[pickF y.1 4+1+pickF y.2.1 2+1+pickF (y.2.1.tdiv 6) 2],1+pickF y.2.2.1 20,1+pickF y.2.2.1 20+pickF y.2.2.2 8):=by
      unfold mkNeed mkT mkBb mkA
      rw [show decide (pickF (y.2.1.tdiv 2) 3=0)=true from c3]
      rfl
     repeat' (first|refine zN ?_|refine zE ?_|refine zP ?_|refine pD ?_|refine pC (by first|(unfold In64;omega)|(simp only [hml,List.length_cons,List.length_nil];omega)) ?_|refine zS ?_|refine zR ?_|refine zO ?_|refine zB ?_|refine zX ?_|refine zT ?_|refine skipI rfl ?_)
     refine roundI (i+1) rfl ?_ ?_ ?_
     ·show i+1≤ndN needs
      omega
     ·show ndN needs - (i+1) < ndN needs - i
      omega
     ·repeat' (first|exact trivial|with_reducible exact rfl|refine And.intro ?_ ?_)
      all_goals (first|rfl|(rw [List.range_succ,List.map_append,List.map_cons,← hy,hny];rfl))
    ·refine freezeI 69 rfl ?_
     have hny:mkNeed y=([pickF y.1 4,pickF y.1 4+1+pickF y.2.1 2],1+pickF y.2.2.1 20,1+pickF y.2.2.1 20+pickF y.2.2.2 8):=by
      unfold mkNeed mkT mkBb mkA
      rw [show decide (pickF (y.2.1.tdiv 2) 3=0)=false from c3]
      rfl
     repeat' (first|refine zN ?_|refine zE ?_|refine zP ?_|refine pD ?_|refine pC (by first|(unfold In64;omega)|(simp only [hml,List.length_cons,List.length_nil];omega)) ?_|refine zS ?_|refine zR ?_|refine zO ?_|refine zB ?_|refine zX ?_|refine zT ?_|refine skipI rfl ?_)
     refine roundI (i+1) rfl ?_ ?_ ?_
     ·show i+1≤ndN needs
      omega
     ·show ndN needs - (i+1) < ndN needs - i
      omega
     ·repeat' (first|exact trivial|with_reducible exact rfl|refine And.intro ?_ ?_)
      all_goals (first|rfl|(rw [List.range_succ,List.map_append,List.map_cons,← hy,hny];rfl))
  ·simp only [decide_eq_false_iff_not] at c1
   have hr1:((List.range i).map fun i=>mkNeed (ndAt (x0,x1,x2,x3) needs i))=ndL (x0,x1,x2,x3) needs:=by unfold ndL;rw [show i=ndN needs by omega]
   rw [hr1]
   refine freezeI 3000 rfl ?_
   repeat' (first|refine zN ?_|refine zE ?_|refine zP ?_|refine pD ?_|refine zS ?_|refine zR ?_|refine zO ?_|refine zB ?_|refine zX ?_|refine zT ?_|refine skipI rfl ?_)
   refine loopI (σ:=Nat × List WinT) (fun s=>[(14,.int .i64 s.1)]) (fun s=>[(7,.box [.int .i64 (pickF x0 100),.int .i64 (pickF x1 4),.int .i64 (pickF x1 4+pickF x2 5),.sl tNeed (ndL (x0,x1,x2,x3) needs),.own 3001]),(3001,.seq tWin s.2)]) (fun s=>(s.1≤ws.length∧s.1≤3)∧s.2.length≤s.1∧winL (ndN needs) ws=((ws.take 3).drop s.1).foldl (winStep (ndN needs)) s.2) (fun s=>3 - s.1) (0,[]) rfl (fun _=>rfl) rfl ?_ ?_ ?_
   ·exact ⟨⟨Nat.zero_le _,Nat.zero_le _⟩,Nat.le_refl _,rfl⟩
   ·repeat' (first|exact trivial|with_reducible exact rfl|refine And.intro ?_ ?_)
    all_goals rfl
   rintro ⟨k,acc⟩ ⟨⟨hk,hk3⟩,hal,hinv⟩
   dsimp only at hk hk3 hal hinv ⊢
   repeat' (first|refine zN ?_|refine zE ?_|refine zP ?_|refine pD ?_|refine zS ?_|refine zR ?_|refine zO ?_|refine zB ?_|refine zX ?_|refine zT ?_|refine skipI rfl ?_)
   refine condI rfl (fun c4=>?_) (fun c4=>?_)
   ·simp only [Bool.and_eq_true,decide_eq_true_eq] at c4
    have hkl:k < ws.length:=by omega
    have hkn:((k:Int)).toNat=k:=by omega
    rw [drop_getI (d:=tP2.dflt) (show k < (ws.take 3).length by rw [List.length_take];omega)] at hinv
    obtain ⟨x,hx⟩:∃ x:Int × Int,x=getI ws tP2.dflt k:=⟨_,rfl⟩
    have hxt:getI (ws.take 3) tP2.dflt k=x:=by
     rw [hx]
     unfold getI
     rw [List.getD_eq_getElem?_getD,List.getD_eq_getElem?_getD,List.getElem?_take,if_pos (by omega)]
    rw [hxt] at hinv
    have hx':getI ws tP2.dflt ((k:Int)).toNat=x:=by rw [hkn];exact hx.symm
    have b1:=bp x.1 3 (by omega)
    repeat' (first|refine zN ?_|refine zE ?_|refine zP ?_|refine pD ?_|refine pC (by first|omega|(simp only [hx',List.length_cons,List.length_nil];omega)|(unfold In64;omega)|(intro _ h;have h1:¬ ((acc.length:Int)=0):=(by first|(simpa using h)|(have h2:=(Bool.or_eq_false_iff.1 h).1;simpa using h2));first|omega|(unfold In64;omega)|(intro _;omega)|(intro _;unfold In64;omega))) ?_|refine zS ?_|refine zR ?_|refine zO ?_|refine zB ?_|refine zX ?_|refine zT ?_|refine skipI rfl ?_)
    simp only [hx']
    have hinv:winL (ndN needs) ws=((ws.take 3).drop (k+1)).foldl (winStep (ndN needs)) (winStep (ndN needs) acc x):=hinv
    have hstep:winStep (ndN needs) acc x=bif winFit (ndN needs) acc (mkW x) then acc++[mkW x] else acc:=rfl
    rw [hstep] at hinv
    refine condI rfl (fun c5=>?_) (fun c5=>?_)
    ·have c5':winFit (ndN needs) acc (mkW x)=true:=c5
     rw [c5',cond_true] at hinv
     repeat' (first|refine zN ?_|refine zE ?_|refine zP ?_|refine pD ?_|refine pC (by (simp only [List.length_cons,List.length_nil];omega)) ?_|refine zS ?_|refine zR ?_|refine zO ?_|refine zB ?_|refine zX ?_|refine zT ?_|refine skipI rfl ?_)
     refine roundI (k+1,acc++[mkW x]) rfl ?_ ?_ ?_
     ·exact ⟨⟨by show k+1≤ws.length;omega,by show k+1≤3;omega⟩,by show (acc++[_]).length≤k+1;simp;omega,hinv⟩
     ·show 3 - (k+1) < 3 - k
      omega
     ·repeat' (first|exact trivial|with_reducible exact rfl|refine And.intro ?_ ?_)
      all_goals rfl
    ·have c5':winFit (ndN needs) acc (mkW x)=false:=c5
     rw [c5',cond_false] at hinv
     repeat' (first|refine zN ?_|refine zE ?_|refine zP ?_|refine pD ?_|refine zS ?_|refine zR ?_|refine zO ?_|refine zB ?_|refine zX ?_|refine zT ?_|refine skipI rfl ?_)
     refine roundI (k+1,acc) rfl ?_ ?_ ?_
     ·exact ⟨⟨by show k+1≤ws.length;omega,by show k+1≤3;omega⟩,by show acc.length≤k+1;omega,hinv⟩
     ·show 3 - (k+1) < 3 - k
      omega
     ·repeat' (first|exact trivial|with_reducible exact rfl|refine And.intro ?_ ?_)
      all_goals rfl
   ·simp only [Bool.and_eq_false_iff,decide_eq_false_iff_not] at c4
    rw [List.drop_eq_nil_of_le (by rw [List.length_take];omega)] at hinv
    have hinv:winL (ndN needs) ws=acc:=hinv
    rw [hinv]
    refine freezeI 3001 rfl ?_
    repeat' (first|refine zN ?_|refine zE ?_|refine zP ?_|refine pD ?_|refine zS ?_|refine zR ?_|refine zO ?_|refine zB ?_|refine zX ?_|refine zT ?_|refine skipI rfl ?_)
    refine endR rfl ?_
    repeat' (first|exact trivial|exact rfl|refine ⟨rfl,?_⟩|refine And.intro ?_ ?_)
end Go.AM.YtmohhhbgcehnpaaGreat.Re
end

section
set_option linter.all false
namespace Go.AM.YtmohhhbgcehnpaaGreat.Re
open Go.Proofs
set_option maxRecDepth 100000
set_option maxHeartbeats 4000000
def nd0:List tNeed.El:=[([1,2],20,30)]
def st1:List tStage.El:=[(20,30,(1,10),(2,49))]
def st2:List tStage.El:=[(20,30,(2,10),(1,49))]
def cal1:CalT:=bookAll [(1,10,40,7),(2,49,79,7)] noCal
theorem mk1:makeG noCal 0 5 10 nd0 []=some (st1,79):=by kernel_rfl
theorem rb1:canB noCal 0 5 10 st1 [] 7=true:=by kernel_rfl
theorem rb1l:planL 0 5 10 st1 [] 7=[(1,10,40,7),(2,49,79,7)]:=by kernel_rfl
theorem mk2:makeG cal1 0 5 10 nd0 []=some (st2,79):=by kernel_rfl
theorem rb2:canB cal1 0 5 10 st1 [] 7=false:=by kernel_rfl
theorem rp1:repG cal1 0 5 10 st1 [] 0 5 10 nd0 [] 7 0 5 1=none:=by kernel_rfl
theorem va1:rvalidF 0 5 10 nd0 []=true:=by kernel_rfl
theorem ln1:lenF cal1=2:=by kernel_rfl
abbrev shReq:Shp:=.agg [none,none,none,some tNeed,some tWin]
def sigSn:List (Nat × Spec):=[(23,newS),(24,simpleS),(11,makeS),(25,reBookS),(26,repairS),(27,lenS),(9,rvalidS.norm [shReq])]
theorem sigSnOk:SigOk Tryz.prog (look sigSn):=sigCons (sigCons (sigCons (sigCons (sigCons (sigCons (sigCons sigNil
 Tryz.func9 (by kernel_rfl) (c:=body Tryz.f9) rfl (rvalidOk.norm _))
 Tryz.func27 (by kernel_rfl) (c:=body Tryz.f27) rfl lenOk)
 Tryz.func26 (by kernel_rfl) (c:=body Tryz.f26) rfl repairOk)
 Tryz.func25 (by kernel_rfl) (c:=body Tryz.f25) rfl reBookOk)
 Tryz.func11 (by kernel_rfl) (c:=body Tryz.f11) rfl makeOk)
 Tryz.func24 (by kernel_rfl) (c:=body Tryz.f24) rfl simpleOk)
 Tryz.func23 (by kernel_rfl) (c:=body Tryz.f23) rfl newOk
theorem cal1_good:CalG cal1∧lenF cal1≤100:=⟨(bookAll_good noCal_good).1,by rw [ln1];omega⟩
def saneS:Spec:=plain fun
 | []=>outV True (.bool true)
 | _=>none
theorem rbE1:rbErr noCal 0 5 10 st1 [] 7=0:=by unfold rbErr;rw [rb1];rfl
theorem rbC1:rbCal noCal 0 5 10 st1 [] 7=cal1:=by unfold rbCal;rw [rb1,cond_true,rb1l];rfl
theorem rbE2:rbErr cal1 0 5 10 st1 [] 7=100:=by unfold rbErr;rw [rb2];rfl
theorem rbC2:rbCal cal1 0 5 10 st1 [] 7=cal1:=by unfold rbCal;rw [rb2];rfl
theorem saneOk:SpecSound Tryz.prog 5 saneS:=by
 refine soundP (envOf sigSnOk) Tryz.func5 (c:=body Tryz.f5) rfl (by kernel_rfl) rfl ?_
 intro args out hf hpre
 split at hf <;> try (cases hf;done)
 cases hf
 refine ⟨Nat.le_of_ble_eq_true rfl,initI rfl ?_⟩
 have hnc:CalG noCal∧lenF noCal≤100:=⟨noCal_good,by rw [lenF_no];omega⟩
 repeat' (first|refine zN ?_|refine zE ?_|refine zP ?_|refine zS ?_|refine zO ?_|refine zB ?_|refine zX ?_|refine zT ?_|refine skipI rfl ?_)
 refine zR ?_
 repeat' (first|with_reducible refine pN ?_|refine pD ?_|refine pC (by exact ⟨⟨hnc.1,by have:=hnc.2;omega⟩,by decide,by decide⟩) ?_)
 repeat with_reducible refine cN ?_
 repeat' (first|refine zN ?_|refine zE ?_|refine zP ?_|refine zS ?_|refine zO ?_|refine zB ?_|refine zX ?_|refine zT ?_|refine skipI rfl ?_)
 refine zR ?_
 repeat' (first|with_reducible refine pN ?_|refine pD ?_|refine pC (by exact ⟨⟨hnc.1,by have:=hnc.2;omega⟩,by decide,by decide⟩) ?_)
 repeat with_reducible refine cN ?_
 repeat' (first|refine zN ?_|refine zE ?_|refine zP ?_|refine zS ?_|refine zO ?_|refine zB ?_|refine zX ?_|refine zT ?_|refine skipI rfl ?_)
 refine zR ?_
 repeat' (first|with_reducible refine pN ?_|refine pD ?_|refine pC (by exact ⟨⟨hnc.1,by have:=hnc.2;omega⟩,by decide,by decide⟩) ?_)
 repeat with_reducible refine cN ?_
 rw [show makeG noCal 0 5 10 [([1,2],20,30)] []=some (st1,79) from mk1]
 refine tidyI [(3,.int .i64 0)] [(2,.box [.int .i64 0,.int .i64 5,.int .i64 10,.sl tStage st1,.sl tWin []])] rfl rfl ?_ ?_
 ·repeat' (first|exact trivial|exact rfl|refine ⟨rfl,?_⟩|refine And.intro ?_ ?_)
 repeat' (first|refine zN ?_|refine zE ?_|refine zP ?_|refine pD ?_|refine zS ?_|refine zR ?_|refine zO ?_|refine zB ?_|refine zX ?_|refine zT ?_|refine skipI rfl ?_)
 refine condF rfl ?_
 repeat' (first|refine zN ?_|refine zE ?_|refine zP ?_|refine zS ?_|refine zO ?_|refine zB ?_|refine zX ?_|refine zT ?_|refine skipI rfl ?_)
 refine zR ?_
 repeat' (first|with_reducible refine pN ?_|refine pD ?_|refine pC (by exact ⟨hnc.1,by have:=hnc.2;omega⟩) ?_)
 repeat with_reducible refine cN ?_
 rw [rbE1,rbC1]
 have hc1:CalG cal1∧lenF cal1≤700000:=⟨cal1_good.1,by have:=cal1_good.2;omega⟩
 repeat' (first|refine zN ?_|refine zE ?_|refine zP ?_|refine zS ?_|refine zO ?_|refine zB ?_|refine zX ?_|refine zT ?_|refine skipI rfl ?_)
 refine zR ?_
 repeat' (first|with_reducible refine pN ?_|refine pD ?_|refine pC (by exact ⟨⟨hc1.1,by have:=hc1.2;omega⟩,by decide,by decide⟩) ?_)
 repeat with_reducible refine cN ?_
 rw [show makeG cal1 0 5 10 [([1,2],20,30)] []=some (st2,79) from mk2]
 refine tidyI [(6,.int .i64 0)] [(5,.box [.int .i64 0,.int .i64 5,.int .i64 10,.sl tStage st2,.sl tWin []])] rfl rfl ?_ ?_
 ·repeat' (first|exact trivial|exact rfl|refine ⟨rfl,?_⟩|refine And.intro ?_ ?_)
 repeat' (first|refine zN ?_|refine zE ?_|refine zP ?_|refine zS ?_|refine zO ?_|refine zB ?_|refine zX ?_|refine zT ?_|refine skipI rfl ?_)
 refine zR ?_
 repeat' (first|with_reducible refine pN ?_|refine pD ?_|refine pC (by exact ⟨hc1.1,by have:=hc1.2;omega⟩) ?_)
 repeat with_reducible refine cN ?_
 rw [rbE2,rbC2]
 repeat' (first|refine zN ?_|refine zE ?_|refine zP ?_|refine zS ?_|refine zO ?_|refine zB ?_|refine zX ?_|refine zT ?_|refine skipI rfl ?_)
 refine zR ?_
 repeat' (first|with_reducible refine pN ?_|refine pD ?_|refine pC (by exact ⟨hc1,by decide,by decide⟩) ?_)
 repeat with_reducible refine cN ?_
 rw [show repG cal1 0 5 10 st1 [] 0 5 10 [([1,2],20,30)] [] 7 0 5 1=none from rp1]
 refine tidyI [(9,.int .i64 100)] [] rfl rfl ?_ ?_
 ·repeat' (first|exact trivial|exact rfl|refine ⟨rfl,?_⟩|refine And.intro ?_ ?_)
 repeat' (first|refine zN ?_|refine zE ?_|refine zP ?_|refine pD ?_|refine zS ?_|refine zR ?_|refine zO ?_|refine zB ?_|refine zX ?_|refine zT ?_|refine skipI rfl ?_)
 refine condF rfl ?_
 repeat' (first|refine zN ?_|refine zE ?_|refine zP ?_|refine zS ?_|refine zO ?_|refine zB ?_|refine zX ?_|refine zT ?_|refine skipI rfl ?_)
 refine zR ?_
 repeat' (first|with_reducible refine pN ?_|refine pD ?_|refine pC (by decide) ?_)
 repeat with_reducible refine cN ?_
 repeat' (first|refine zN ?_|refine zE ?_|refine zP ?_|refine zS ?_|refine zO ?_|refine zB ?_|refine zX ?_|refine zT ?_|refine skipI rfl ?_)
 refine zR ?_
 repeat' (first|with_reducible refine pN ?_|refine pD ?_|refine pC (by decide) ?_)
 repeat with_reducible refine cN ?_
 refine tidyI [(12,.bool true),(13,.bool true)] [] rfl rfl ?_ ?_
 ·repeat' (first|exact trivial|exact rfl|refine ⟨rfl,?_⟩|refine And.intro ?_ ?_)
 refine zS ?_
 refine regH [(90,true),(93,true),(97,true),(101,true),(105,true),(109,true),(114,true),(118,true),(123,true)] rfl ?_
 repeat' (first|with_reducible refine pN ?_|refine pC (by first|trivial|rfl|decide|exact hc1.1.cal (by have:=hc1.2;omega)|(rw [ln1];rfl)|(rw [show rvalidF 0 5 10 [([1,2],20,30)] []=true from va1];rfl)|(simp only [ln1];rfl)) ?_)
 repeat' (first|refine zN ?_|refine zE ?_|refine zP ?_|refine pD ?_|refine zS ?_|refine zR ?_|refine zO ?_|refine zB ?_|refine zX ?_|refine zT ?_|refine skipI rfl ?_)
 refine endR rfl ?_
 repeat' (first|exact trivial|exact rfl|refine ⟨rfl,?_⟩|refine And.intro ?_ ?_)
end Go.AM.YtmohhhbgcehnpaaGreat.Re
end
