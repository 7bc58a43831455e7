/- FcE, FcF, FcC. -/
import Derived.Test.YtbepaplaahcnkaaGreatPc37
import Derived.Test.YtbepaplaahcnkaaGreatPc30
import Derived.Lib.Bytealg
import Derived.Test.YtbepaplaahcnkaaGreatPc31

set_option linter.all false
section
namespace Go.AM.YtbepaplaahcnkaaGreat.Fc
open Go.Proofs
set_option maxRecDepth 100000
set_option maxHeartbeats 4000000
def fldF (a0 a1 a2 a3:Int) (a4:Bool) (a5 a6 a7 a8 a9 a10 a11 a12 a13 a14 a15 a16 a17:Int) (a18:ByteArray) (n:Nat):Int:=(bif Nat.beq n 119 then a1 else (bif Nat.beq n 123 then a7 else (bif Nat.beq n 136 then a8 else (bif Nat.beq n 124 then a9 else (bif Nat.beq n 137 then a10 else (bif Nat.beq n 125 then a11 else (bif Nat.beq n 126 then a12 else (bif Nat.beq n 127 then a13 else (bif Nat.beq n 120 then a14 else (bif Nat.beq n 121 then a15 else (bif Nat.beq n 173 then a5 else (bif Nat.beq n 172 then a6 else (bif Nat.beq n 129 then a16 else 0)))))))))))))
def isAcc (n:Nat):Prop:=n=119∨n=123∨n=136∨n=124∨n=137∨n=125∨n=126∨n=127∨n=120∨n=121∨n=173∨n=172∨n=129
def sigNu:List (Nat × Spec):=[(119,accS 1),(123,accS 7),(136,accS 8),(124,accS 9),(137,accS 10),(125,accS 11),(126,accS 12),(127,accS 13),(120,accS 14),(121,accS 15),(173,accS 5),(172,accS 6),(129,accS 16)]
theorem sigNuOk:SigOk Tryz.prog (look sigNu):=sigCons (sigCons (sigCons (sigCons (sigCons (sigCons (sigCons (sigCons (sigCons (sigCons (sigCons (sigCons (sigCons sigNil Tryz.func129 (by kernel_rfl) (c:=body Tryz.f129) rfl avalueOk) Tryz.func172 (by kernel_rfl) (c:=body Tryz.f172) rfl auntilOk) Tryz.func173 (by kernel_rfl) (c:=body Tryz.f173) rfl atimeOk) Tryz.func121 (by kernel_rfl) (c:=body Tryz.f121) rfl arevisionOk) Tryz.func120 (by kernel_rfl) (c:=body Tryz.f120) rfl arecipeOk) Tryz.func127 (by kernel_rfl) (c:=body Tryz.f127) rfl astepOk) Tryz.func126 (by kernel_rfl) (c:=body Tryz.f126) rfl achamberOk) Tryz.func125 (by kernel_rfl) (c:=body Tryz.f125) rfl atoolOk) Tryz.func137 (by kernel_rfl) (c:=body Tryz.f137) rfl aproductOk) Tryz.func124 (by kernel_rfl) (c:=body Tryz.f124) rfl alotOk) Tryz.func136 (by kernel_rfl) (c:=body Tryz.f136) rfl aotherOk) Tryz.func123 (by kernel_rfl) (c:=body Tryz.f123) rfl awaferOk) Tryz.func119 (by kernel_rfl) (c:=body Tryz.f119) rfl aidOk
def numsS:Spec:=⟨true,fun args rows=>match args,rows with
 | [.agg [.int .i64 a0,.int .i64 a1,.int .i64 a2,.int .i64 a3,.bool a4,.int .i64 a5,.int .i64 a6,.int .i64 a7,.int .i64 a8,.int .i64 a9,.int .i64 a10,.int .i64 a11,.int .i64 a12,.int .i64 a13,.int .i64 a14,.int .i64 a15,.int .i64 a16,.int .i64 a17,.str a18],.sl (.pair .code (.pair (.int .i64) (.int .i64))) l],[]=>some ⟨True,.fn 117 [] [.ptr 0 0,.ptr 1 0],[.box [.sl tFd l],.box (fA a0 a1 a2 a3 a4 a5 a6 a7 a8 a9 a10 a11 a12 a13 a14 a15 a16 a17 a18)],true⟩
 | _,_=>none⟩
theorem numsOk:SpecSound Tryz.prog 48 numsS:=by
 refine soundR (envOf sigNil) Tryz.func48 (c:=body Tryz.f48) rfl (by kernel_rfl) rfl ?_
 intro args rows out hf hpre
 split at hf <;> try (cases hf;done)
 rename_i a0 a1 a2 a3 a4 a5 a6 a7 a8 a9 a10 a11 a12 a13 a14 a15 a16 a17 a18 l
 cases hf
 refine ⟨Nat.le_of_ble_eq_true rfl,initI (args:=[.agg (fA a0 a1 a2 a3 a4 a5 a6 a7 a8 a9 a10 a11 a12 a13 a14 a15 a16 a17 a18),.sl tFd l]) (rows:=[]) rfl ?_⟩
 repeat' (first|refine zN ?_|refine zE ?_|refine zP ?_|refine pD ?_|refine zQ ?_|refine zR ?_|refine zW ?_)
 refine endR rfl ?_
 repeat' (first|exact trivial|exact rfl|refine ⟨rfl,?_⟩|refine And.intro ?_ ?_)
def numItS:Spec:=⟨true,fun args rows=>match args,rows with
 | [.own 0,.ptr 2 0,.ptr 3 0],[.yp 1,.yld (.int .i64) false Y p,.box [.sl (.pair .code (.pair (.int .i64) (.int .i64))) l],.box [.int .i64 a0,.int .i64 a1,.int .i64 a2,.int .i64 a3,.bool a4,.int .i64 a5,.int .i64 a6,.int .i64 a7,.int .i64 a8,.int .i64 a9,.int .i64 a10,.int .i64 a11,.int .i64 a12,.int .i64 a13,.int .i64 a14,.int .i64 a15,.int .i64 a16,.int .i64 a17,.str a18]] =>
   some ⟨(l.length≤1000∧∀ x∈(l:List FdT),isAcc x.1)∧YGo (t:=.int .i64) Y p (l.map fun x=>fldF a0 a1 a2 a3 a4 a5 a6 a7 a8 a9 a10 a11 a12 a13 a14 a15 a16 a17 a18 x.1),.tup [],
    [.yp 4,.dead,.dead,.dead,.yld (.int .i64) false Y (cut (α:=Int) Y.cont p (l.map fun x=>fldF a0 a1 a2 a3 a4 a5 a6 a7 a8 a9 a10 a11 a12 a13 a14 a15 a16 a17 a18 x.1)).1],true⟩
 | _,_=>none⟩
theorem numItOk:SpecSound Tryz.prog 117 numItS:=by
 refine soundR (envOf sigNuOk) Tryz.func117 (c:=body Tryz.f117) rfl (by kernel_rfl) rfl ?_
 intro args rows out hf hpre
 split at hf <;> try (cases hf;done)
 rename_i Y p l a0 a1 a2 a3 a4 a5 a6 a7 a8 a9 a10 a11 a12 a13 a14 a15 a16 a17 a18
 cases hf
 refine ⟨Nat.le_of_ble_eq_true rfl,initI (args:=[.own 0,.ptr 2 0,.ptr 3 0]) (rows:=[.yp 1,.yld (.int .i64) false Y p,.box [.sl tFd l],.box (fA a0 a1 a2 a3 a4 a5 a6 a7 a8 a9 a10 a11 a12 a13 a14 a15 a16 a17 a18)]) rfl ?_⟩
 obtain ⟨⟨hlen,hacc⟩,hgo⟩:=hpre
 have hlen:List.length (α:=FdT) l≤1000:=hlen
 obtain ⟨G,hG⟩:∃ G:Nat→Int,G=fldF a0 a1 a2 a3 a4 a5 a6 a7 a8 a9 a10 a11 a12 a13 a14 a15 a16 a17 a18:=⟨_,rfl⟩
 rw [← hG] at hgo ⊢
 obtain ⟨tot,htot⟩:∃ tot,tot=(cut (α:=Int) Y.cont p (l.map fun (x:FdT)=>G x.1)).1:=⟨_,rfl⟩
 rw [← htot]
 repeat' (first|refine zN ?_|refine zE ?_|refine zP ?_|refine pD ?_|refine zQ ?_|refine zR ?_|refine zW ?_)
 refine renameI 100001 3001 rfl ?_
 refine loopI (σ:=Nat × List Int) (fun s=>[(8,.int .i64 s.1)]) (fun s=>[(100000,.yp 3000),(3000,.yld (.int .i64) false Y s.2)]) (fun s=>s.1≤List.length (α:=FdT) l∧YGo (t:=.int .i64) Y s.2 ((List.drop (α:=FdT) s.1 l).map fun (x:FdT)=>G x.1)∧tot=(cut (α:=Int) Y.cont s.2 ((List.drop (α:=FdT) s.1 l).map fun (x:FdT)=>G x.1)).1) (fun s=>List.length (α:=FdT) l - s.1) (0,p) rfl (fun _=>rfl) rfl ?_ ?_ ?_
 ·exact ⟨Nat.zero_le _,hgo,htot⟩
 ·repeat' (first|exact trivial|exact rfl|refine ⟨rfl,?_⟩|refine And.intro ?_ ?_)
 rintro ⟨i,q⟩ ⟨hi,hq1,hq2⟩
 dsimp only at hi hq1 hq2 ⊢
 repeat' (first|refine zN ?_|refine zE ?_|refine zP ?_|refine pD ?_|refine zQ ?_|refine zR ?_|refine zW ?_)
 refine condI rfl (fun c2=>?_) (fun c2=>?_)
 ·simp only [decide_eq_true_eq] at c2
  have hil:i < List.length (α:=FdT) l:=by omega
  have hin:((i:Int)).toNat=i:=by omega
  obtain ⟨n,lo,h,hx⟩:∃ n lo h,getI l tFd.dflt i=(n,lo,h):=⟨_,_,_,rfl⟩
  have ha:isAcc n:=by
   have:=hacc _ (show getI l tFd.dflt i∈l by simp only [getI,List.getD];rw [List.getElem?_eq_getElem hil];exact List.getElem_mem hil)
   rw [hx] at this
   exact this
  have hdr:List.drop (α:=FdT) i l=(n,lo,h)::List.drop (α:=FdT) (i+1) l:=by
   rw [← hx,List.drop_eq_getElem_cons hil]
   congr 1
   simp [getI,List.getD,List.getElem?_eq_getElem hil]
  rw [hdr] at hq1 hq2
  obtain ⟨hk1,hk2⟩:Y.ok (q++[G n])∧(Y.cont (q++[G n])=true→YGo (t:=.int .i64) Y (q++[G n]) ((List.drop (α:=FdT) (i+1) l).map fun (x:FdT)=>G x.1)):=hq1
  have hk3:tot=(bif Y.cont (q++[G n]) then cut (α:=Int) Y.cont (q++[G n]) ((List.drop (α:=FdT) (i+1) l).map fun (x:FdT)=>G x.1) else (q++[G n],false)).1:=hq2
  repeat' (first|refine zN ?_|refine zE ?_|refine zP ?_|refine pD ?_|refine zQ ?_|refine zR ?_|refine zW ?_)
  simp only [hin,hx]
  unfold isAcc at ha
  obtain ⟨y,hy⟩:∃ y,G n=y:=⟨_,rfl⟩
  rw [hy] at hk1 hk2 hk3
  rw [hG] at hy
  rcases ha with rfl|rfl|rfl|rfl|rfl|rfl|rfl|rfl|rfl|rfl|rfl|rfl|rfl
  all_goals
   repeat' (first|refine zN ?_|refine zE ?_|refine zP ?_|refine pD ?_|refine pC (by (rw [← hy] at hk1;exact hk1)) ?_|refine zQ ?_|refine zR ?_|refine zW ?_)
   refine condI rfl (fun c3=>?_) (fun c3=>?_)
   ·have c3':(!Y.cont (q++[y]))=true:=by rw [← hy];exact c3
    rw [Bool.not_eq_true'] at c3'
    rw [c3'] at hk3
    repeat' (first|refine zN ?_|refine zE ?_|refine zP ?_|refine pD ?_|refine zQ ?_|refine zR ?_|refine zW ?_)
    refine endR rfl ?_
    repeat' (first|exact trivial|exact rfl|refine ⟨rfl,?_⟩|refine And.intro ?_ ?_)
    rw [hk3,← hy]
    rfl
   ·have c3':(!Y.cont (q++[y]))=false:=by rw [← hy];exact c3
    rw [Bool.not_eq_false'] at c3'
    rw [c3'] at hk3
    repeat' (first|refine zN ?_|refine zE ?_|refine zP ?_|refine pD ?_|refine zQ ?_|refine zR ?_|refine zW ?_)
    refine roundI (i+1,q++[y]) rfl ?_ ?_ ?_
    ·exact ⟨by show i+1≤_;omega,hk2 c3',hk3⟩
    ·show List.length (α:=FdT) l - (i+1) < List.length (α:=FdT) l - i
     omega
    ·repeat' (first|exact trivial|with_reducible exact rfl|refine And.intro ?_ ?_)
     all_goals (rw [← hy];rfl)
 ·simp only [decide_eq_false_iff_not] at c2
  rw [List.drop_eq_nil_of_le (by omega)] at hq2
  repeat' (first|refine zN ?_|refine zE ?_|refine zP ?_|refine pD ?_|refine zQ ?_|refine zR ?_|refine zW ?_)
  refine endN rfl ?_
  repeat' (first|exact trivial|with_reducible exact rfl|refine And.intro ?_ ?_)
  exact hq2
theorem strB_bytes:∀ {l:List Int},(∀ x∈l,0≤x∧x < 256)→strB (bytesS l)=l:=fun {l} h=>by
 unfold strB bytesS
 simp only [List.map_map]
 rw [List.map_congr_left (g:=fun x=>x),List.map_id']
 intro x hx
 have:=h x hx
 simp only [Function.comp]
 rw [UInt8.toNat_ofNat']
 omega
theorem grpL_b {z:Int}:∀ x∈grpL z,0≤x.1∧x.1 < 128:=fun x hx=>by
 have h8:∀ y,0≤g8 y∧g8 y < 128:=fun y=>by rw [g8_eq];omega
 unfold grpL at hx
 rcases List.mem_cons.1 hx with rfl|hx
 ·exact h8 _
 ·split at hx
  ·cases hx
  ·rw [List.mem_singleton.1 hx];exact h8 _
theorem putB_b {n:Int}:∀ x∈putB n,0≤x∧x < 256:=fun x hx=>by
 unfold putB at hx
 obtain ⟨y,hy,rfl⟩:=List.mem_map.1 hx
 have:=grpL_b y hy
 unfold byteB
 cases y.2
 ·show 0≤y.1+128∧y.1+128 < 256
  omega
 ·show 0≤y.1∧y.1 < 256
  omega
theorem putB_len {n:Int}:1≤(putB n).length∧(putB n).length≤2:=by
 unfold putB grpL
 split <;> simp
def flatB (ns:List Int):List Int:=(ns.map putB).flatten
theorem flatB_snoc {ns:List Int} {n:Int}:flatB (ns++[n])=flatB ns++putB n:=by
 unfold flatB
 simp
theorem flatB_len {ns:List Int}:(flatB ns).length≤2 * ns.length:=by
 induction ns with
 | nil=>exact Nat.le_refl _
 | cons n ns ih =>
   show ((putB n)++flatB ns).length≤_
   have:=putB_len (n:=n)
   rw [List.length_append,List.length_cons]
   omega
theorem flatB_b {ns:List Int}:∀ x∈flatB ns,0≤x∧x < 256:=fun x hx=>by
 unfold flatB at hx
 obtain ⟨y,hy,hx⟩:=List.mem_flatten.1 hx
 obtain ⟨n,_,rfl⟩:=List.mem_map.1 hy
 exact putB_b x hx
def NsOk (ns:List Int):Prop:=ns.length≤1000∧∀ n∈ns,0≤n∧n≤1000
def sigPu:List (Nat × Spec):=[(115,putIntS),(116,writeS)]
theorem sigPuOk:SigOk Tryz.prog (look sigPu):=sigCons (sigCons sigNil
 Tryz.func116 (by kernel_rfl) (c:=body Tryz.f116) rfl writeOk)
 Tryz.func115 (by kernel_rfl) (c:=body Tryz.f115) rfl putIntOk
def putS:Spec:=⟨true,fun args rows=>match args,rows with
 | [.ptr 0 0,.own 1],[.bld T e u l,.seq (.int .i64) ns]=>some ⟨(T=131∧e=5)∧(l.length≤100000∧0 < List.length (α:=Int) ns)∧NsOk ns,.tup [],[.bld T e true (l++flatB ns),.dead],true⟩
 | _,_=>none⟩
theorem putOk:SpecSound Tryz.prog 46 putS:=by
 refine soundR (envOf sigPuOk) Tryz.func46 (c:=body Tryz.f46) rfl (by kernel_rfl) rfl ?_
 intro args rows out hf hpre
 split at hf <;> try (cases hf;done)
 rename_i T e u l ns
 cases hf
 refine ⟨Nat.le_of_ble_eq_true rfl,initI (args:=[.ptr 0 0,.own 1]) (rows:=[.bld T e u l,.seq (.int .i64) ns]) rfl ?_⟩
 obtain ⟨⟨rfl,rfl⟩,⟨hl,hn0⟩,hnl,hns⟩:=hpre
 obtain ⟨ub,hub⟩:∃ ub:Nat→Bool,ub=fun i=>bif decide (i=0) then u else true:=⟨_,rfl⟩
 repeat' (first|refine zN ?_|refine zE ?_|refine zP ?_|refine pD ?_|refine zQ ?_|refine zR ?_|refine zW ?_)
 refine loopI (σ:=Nat) (fun i=>[(10,.int .i64 i)]) (fun i=>[(100000,.bld 131 5 (ub i) (l++flatB (List.take (α:=Int) i ns)))]) (fun i=>i≤List.length (α:=Int) ns) (fun i=>List.length (α:=Int) ns - i) 0 rfl (fun _=>rfl) rfl ?_ ?_ ?_
 ·exact Nat.zero_le _
 ·repeat' (first|exact trivial|with_reducible exact rfl|refine And.intro ?_ ?_)
  all_goals (first|rfl|(rw [hub];rfl)|(simp [flatB];done)  )
 intro i hi
 repeat' (first|refine zN ?_|refine zE ?_|refine zP ?_|refine pD ?_|refine zQ ?_|refine zR ?_|refine zW ?_)
 refine condI rfl (fun c1=>?_) (fun c1=>?_)
 ·simp only [decide_eq_true_eq] at c1
  have hil:i < List.length (α:=Int) ns:=by omega
  have hin:((i:Int)).toNat=i:=by omega
  obtain ⟨n,hn⟩:∃ n,n=getI ns (0:Int) i:=⟨_,rfl⟩
  have hnm:n∈ns:=by
   rw [hn]
   simp only [getI,List.getD]
   rw [List.getElem?_eq_getElem hil]
   exact List.getElem_mem hil
  have htk:List.take (α:=Int) (i+1) ns=List.take (α:=Int) i ns++[n]:=by
   rw [List.take_succ_eq_append_getElem hil,hn]
   simp [getI,List.getD,List.getElem?_eq_getElem hil]
  have hnb:=hns n hnm
  have hpl:=putB_len (n:=n)
  have hfl:=flatB_len (ns:=List.take (α:=Int) i ns)
  rw [List.length_take] at hfl
  have hsz:(bytesS (putB n)).size=(putB n).length:=by
   show ((putB n).map _).toArray.size=_
   simp
  repeat' (first|refine zN ?_|refine zE ?_|refine zP ?_|refine pD ?_|refine zQ ?_|refine zR ?_|refine zW ?_)
  simp only [hin]
  rw [show getI ns (Ty.int IntKind.i64).dflt i=n from hn.symm]
  repeat' (first|refine zN ?_|refine zE ?_|refine zP ?_|refine pD ?_|refine pC (by first|exact hnb|exact ⟨⟨rfl,rfl⟩,by rw [hsz,List.length_append];omega⟩) ?_|refine zQ ?_|refine zR ?_|refine zW ?_)
  rw [strB_bytes putB_b]
  refine roundI (i+1) rfl ?_ ?_ ?_
  ·omega
  ·omega
  ·repeat' (first|exact trivial|with_reducible exact rfl|refine And.intro ?_ ?_)
   all_goals (first|rfl|(rw [hub];rfl)|(rw [htk,flatB_snoc];simp)  )
 ·simp only [decide_eq_false_iff_not] at c1
  obtain rfl:i=List.length (α:=Int) ns:=by omega
  have hub1:ub (List.length (α:=Int) ns)=true:=by
   have h0:¬ List.length (α:=Int) ns=0:=by omega
   rw [hub]
   simp only [decide_eq_false h0,cond_false]
  repeat' (first|refine zN ?_|refine zE ?_|refine zP ?_|refine pD ?_|refine zQ ?_|refine zR ?_|refine zW ?_)
  refine endN rfl ?_
  repeat' (first|exact trivial|with_reducible exact rfl|refine And.intro ?_ ?_)
  all_goals (first|rfl|exact hub1.symm|simp)
def sigPa:List (Nat × Spec):=[(46,putS),(117,numItS)]
theorem sigPaOk:SigOk Tryz.prog (look sigPa):=sigCons (sigCons sigNil
 Tryz.func117 (by kernel_rfl) (c:=body Tryz.f117) rfl numItOk)
 Tryz.func46 (by kernel_rfl) (c:=body Tryz.f46) rfl putOk
def putAllS:Spec:=⟨true,fun args rows=>match args,rows with
 | [.ptr 0 0,.fn 117 [] [.ptr 1 0,.ptr 2 0]],[.bld T e u l,.box [.sl (.pair .code (.pair (.int .i64) (.int .i64))) fl],.box [.int .i64 a0,.int .i64 a1,.int .i64 a2,.int .i64 a3,.bool a4,.int .i64 a5,.int .i64 a6,.int .i64 a7,.int .i64 a8,.int .i64 a9,.int .i64 a10,.int .i64 a11,.int .i64 a12,.int .i64 a13,.int .i64 a14,.int .i64 a15,.int .i64 a16,.int .i64 a17,.str a18]] =>
   some ⟨(T=131∧e=5∧u=true)∧l.length≤1000∧(List.length (α:=FdT) fl≤1000∧∀ x∈(fl:List FdT),isAcc x.1)∧NsOk ((fl:List FdT).map fun (x:FdT)=>fldF a0 a1 a2 a3 a4 a5 a6 a7 a8 a9 a10 a11 a12 a13 a14 a15 a16 a17 a18 x.1),
    .tup [],[.bld T e true (l++flatB ((fl:List FdT).map fun (x:FdT)=>fldF a0 a1 a2 a3 a4 a5 a6 a7 a8 a9 a10 a11 a12 a13 a14 a15 a16 a17 a18 x.1)),.dead,.dead],true⟩
 | _,_=>none⟩
theorem putAllOk:SpecSound Tryz.prog 47 putAllS:=by
 refine soundR (envOf sigPaOk) Tryz.func47 (c:=body Tryz.f47) rfl (by kernel_rfl) rfl ?_
 intro args rows out hf hpre
 split at hf <;> try (cases hf;done)
 rename_i T e u l fl a0 a1 a2 a3 a4 a5 a6 a7 a8 a9 a10 a11 a12 a13 a14 a15 a16 a17 a18
 cases hf
 refine ⟨Nat.le_of_ble_eq_true rfl,initI (args:=[.ptr 0 0,.fn 117 [] [.ptr 1 0,.ptr 2 0]]) (rows:=[.bld T e u l,.box [.sl tFd fl],.box (fA a0 a1 a2 a3 a4 a5 a6 a7 a8 a9 a10 a11 a12 a13 a14 a15 a16 a17 a18)]) rfl ?_⟩
 obtain ⟨⟨rfl,rfl,rfl⟩,hl,⟨hfl,hacc⟩,hns⟩:=hpre
 obtain ⟨L,hL⟩:∃ L:List Int,L=(fl:List FdT).map fun (x:FdT)=>fldF a0 a1 a2 a3 a4 a5 a6 a7 a8 a9 a10 a11 a12 a13 a14 a15 a16 a17 a18 x.1:=⟨_,rfl⟩
 rw [← hL] at hns ⊢
 obtain ⟨hns1,hns2⟩:=hns
 repeat' (first|refine zN ?_|refine zE ?_|refine zP ?_|refine pD ?_|refine zQ ?_|refine zR ?_|refine zW ?_)
 refine renameB 100001 3001 rfl ?_
 refine renameB 100002 3002 rfl ?_
 refine tidyI [(1,.junk)] [] rfl rfl ?_ ?_
 ·repeat' (first|exact trivial|exact rfl|refine ⟨rfl,?_⟩|refine And.intro ?_ ?_)
 refine rangeI ((.int .i64)) false (fun q=>[(2,.box [.ptr 100000 0]),(100000,.bld 131 5 true (l++flatB q))]) (fun _=>none) (L) 5 rfl rfl rfl rfl rfl rfl rfl rfl rfl (fun _=>rfl) (fun _=>rfl) (fun _=>rfl) rfl rfl rfl ?_ ?_ ?_ ?_ ?_ ?_
 ·exact ⟨rfl,rfl,rfl,by repeat' (first|exact trivial|exact rfl|refine And.intro ?_ ?_),by repeat' (first|exact trivial|exact rfl|refine And.intro ?_ ?_),rfl,rfl,rfl⟩
 ·repeat' (first|exact trivial|with_reducible exact rfl|refine And.intro ?_ ?_)
  all_goals (first|rfl|(simp [flatB]))
 ·rfl
 ·intro J
  exact ⟨_,_,rfl,fun h=>⟨⟨hfl,hacc⟩,hL ▸ h⟩,rfl,by rw [hL];rfl⟩
 ·intro k q x hq hjq hok
  refine ⟨_,rfl,?_⟩
  have hx:x∈L:=hq.subset (by simp)
  have hxb:=hns2 x hx
  have hql:=hq.length_le
  rw [List.length_append,List.length_singleton] at hql
  have hf:=flatB_len (ns:=q)
  repeat' (first|refine zN ?_|refine zE ?_|refine zP ?_|refine pD ?_|refine zQ ?_|refine zR ?_|refine zW ?_)
  refine asN ?_
  repeat' (first|refine zN ?_|refine zE ?_|refine zP ?_|refine pD ?_|refine pC (by first|exact ⟨⟨rfl,rfl⟩,⟨by rw [List.length_append];omega,Nat.one_pos⟩,by simp,fun n hn=>by rw [List.mem_singleton.1 hn];exact hxb⟩) ?_|refine zQ ?_|refine zR ?_|refine zW ?_)
  refine yN rfl rfl ?_
  repeat' (first|exact trivial|with_reducible exact rfl|refine And.intro ?_ ?_)
  all_goals (first|rfl|(rw [flatB_snoc];simp [flatB]))
 ·rw [cut_none]
  repeat' (first|refine zN ?_|refine zE ?_|refine zP ?_|refine pD ?_|refine zQ ?_|refine zR ?_|refine zW ?_)
  refine endN rfl ?_
  repeat' (first|exact trivial|with_reducible exact rfl|refine And.intro ?_ ?_)
end Go.AM.YtbepaplaahcnkaaGreat.Fc
end

section
namespace Go.AM.YtbepaplaahcnkaaGreat.Fc
open Go.Proofs Go.RowKit Go.Lib
set_option maxHeartbeats 1000000 in
set_option maxRecDepth 100000 in
theorem cmpRun (a b:ByteArray) (w:World):Calls Tryz.prog 140 #[.string a,.string b] w fun e w'=>e=.returned (.int .i64 (Lib.compareBytes a.data.toList b.data.toList))∧w'=w:=by
 have mixed:Tryz.prog.follows Departure.mixedOrders=true:=by kernel_rfl
 go_enter Tryz.func140,Tryz.ntmps140
 go_wp2
 rw [run_callFunc_extern Tryz.func174 (by kernel_rfl) (by kernel_rfl) (by kernel_rfl) (e:=Extern.BytealgCompare.compare) (by kernel_rfl),Lib.run_compareString]
 simp only [Result.andThen]
 rw [Oper.upon_value]
 go_wp2
 go_ret
 exact ⟨rfl,rfl⟩
def cmpB (a b:ByteArray):Int:=Lib.compareBytes a.data.toList b.data.toList
theorem cmpB_range:∀ (a b:List UInt8),Lib.compareBytes a b=-1∨Lib.compareBytes a b=0∨Lib.compareBytes a b=1
 | [],[]=>.inr (.inl rfl)
 | [],_::_=>.inl rfl
 | _::_,[]=>.inr (.inr rfl)
 | x::a,y::b=>by
   unfold Lib.compareBytes
   split
   ·exact .inl rfl
   ·split
    ·exact .inr (.inr rfl)
    ·exact cmpB_range a b
def compareStrS:Spec:=⟨false,fun args rows=>match args with
 | [.str a,.str b]=>some ⟨True,.int .i64 (cmpB a b),[],false⟩
 | _=>none⟩
theorem compareStrOk:SpecSound Tryz.prog 140 compareStrS:=by
 intro args rows out hf hpre hraw w0 g0 R0 vals hlt hheld hown hsep hargs
 have hrw:=hraw rfl
 subst hrw
 unfold compareStrS at hf
 dsimp only at hf
 split at hf <;> try (cases hf;done)
 rename_i a b
 cases hf
 cases hargs with
 | cons ha hargs =>
 cases hargs with
 | cons hb hargs =>
 cases hargs
 cases ha
 cases hb
 refine (cmpRun a b w0).mono ?_
 rintro e w' ⟨rfl,rfl⟩
 have hno:∀ r (o:AObj),locRow ([]:List AObj) r=some o→False:=fun r o h=>by simp [locRow] at h
 refine ⟨_,g0,R0,rfl,⟨Nat.le_refl _,rfl,rfl,rfl,fun _ _ _=>rfl,fun _ h=>h,hlt,fun b hb _=>.inl hb,fun _ _ _=>rfl,fun r o h=>(hno r o h).elim,fun r o h=>(hno r o h).elim,fun r o b h=>(hno r o h).elim,fun r r' o o' b h=>(hno r o h).elim⟩,fun _ _=>rfl,Nat.le_refl _,?_,fun _=>⟨?_,fun i o h=>by simp at h⟩⟩
 all_goals
  refine .int ?_
  rcases cmpB_range a.data.toList b.data.toList with h|h|h <;> (unfold cmpB;rw [h];rfl)
end Go.AM.YtbepaplaahcnkaaGreat.Fc
end

section
namespace Go.AM.YtbepaplaahcnkaaGreat.Fc
open Go.Proofs
set_option maxRecDepth 100000
set_option maxHeartbeats 16000000
abbrev tSh:Ty:=.pair (.slice tFd) (.pair (.slice tFd) (.pair (.fn1 tFc .bool) .bool))
abbrev ShT:Type:=tSh.El
def nm (f:Nat):FdT:=(f,1,1000000)
def idsL:List FdT:=[nm 119]
def recL:List FdT:=[nm 120,nm 121]
def namedL:List FdT:=[(123,0,1000000),(124,0,1000000),(125,0,60),(126,0,4),(127,0,40),(120,0,1000000),(121,0,1000000)]
def whoF:FdT:=(128,1,255)
def resF:FdT:=(129,-1000000,1000000)
def leI (a b:Int):Bool:=decide (a≤b)
def neI (a b:Int):Bool:=decide (a≠b)
def spanB (x:FcT):Bool:=leI x.2.2.2.2.2.1 x.2.2.2.2.2.2.1
def markB (x:FcT):Bool:=neI x.2.2.2.2.2.2.2.1 x.2.2.2.2.2.2.2.2.1
def anyB (x:FcT):Bool:=true
def shL:List (Int × ShT):=[
 (1,(idsL++[nm 123]++placeL++[(127,0,39)]++recL++spanL++[(129,-10000000,10000000)],idsL,spanB,false)),
 (2,(idsL++[whenF,resF],idsL,anyB,false)),
 (3,(idsL++[nm 123,nm 136,whenF],idsL,markB,false)),
 (4,([nm 123,nm 124,nm 137,whenF],[nm 123,whenF],anyB,false)),
 (5,([nm 137],[nm 137],anyB,true)),
 (6,(idsL++placeL++recL++spanL,idsL,spanB,false)),
 (7,(idsL++namedL++spanL++[whoF],idsL,spanB,false)),
 (8,([nm 136,whoF,whenF],[nm 136,whoF],anyB,false)),
 (9,(idsL++placeL++[whenF],idsL,anyB,false)),
 (10,([nm 120,whenF,resF],[nm 120,whenF],anyB,false)),
 (11,(idsL++placeL++spanL,idsL,spanB,false))]
def sigSh:List (Nat × Spec):=[(118,numberS),(131,placeS),(132,spanS),(130,joinS),(134,whenS),(133,isSpanS),(122,isMarkS),(135,isAnyS)]
theorem sigShOk:SigOk Tryz.prog (look sigSh):=sigCons (sigCons (sigCons (sigCons (sigCons (sigCons (sigCons (sigCons sigNil
 Tryz.func135 (by kernel_rfl) (c:=body Tryz.f135) rfl isAnyOk)
 Tryz.func122 (by kernel_rfl) (c:=body Tryz.f122) rfl isMarkOk)
 Tryz.func133 (by kernel_rfl) (c:=body Tryz.f133) rfl isSpanOk)
 Tryz.func134 (by kernel_rfl) (c:=body Tryz.f134) rfl whenOk)
 Tryz.func130 (by kernel_rfl) (c:=body Tryz.f130) rfl joinOk)
 Tryz.func132 (by kernel_rfl) (c:=body Tryz.f132) rfl spanOk)
 Tryz.func131 (by kernel_rfl) (c:=body Tryz.f131) rfl placeOk)
 Tryz.func118 (by kernel_rfl) (c:=body Tryz.f118) rfl numberOk
def shapesS:Spec:=⟨true,fun args rows=>match args,rows with
 | [],[]=>some ⟨True,.own 0,[.map (.int .i64) tSh shL],true⟩
 | _,_=>none⟩
theorem shapesOk:SpecSound Tryz.prog 49 shapesS:=by
 refine soundR (envOf sigShOk) Tryz.func49 (c:=body Tryz.f49) rfl (by kernel_rfl) rfl ?_
 intro args rows out hf hpre
 split at hf <;> try (cases hf;done)
 cases hf
 refine ⟨Nat.le_of_ble_eq_true rfl,initI rfl ?_⟩
 repeat' (first|refine zN ?_|refine zE ?_|refine zP ?_|refine zS ?_|refine zO ?_|refine zW ?_)
 refine zR ?_
 repeat' (first|with_reducible refine pN ?_|refine pD ?_|refine pC (by first|(intros;simp)|(first|exact Or.inl rfl|simp)) ?_)
 repeat with_reducible refine cN ?_
 repeat' (first|refine zN ?_|refine zE ?_|refine zP ?_|refine zS ?_|refine zO ?_|refine zW ?_)
 refine zR ?_
 repeat' (first|with_reducible refine pN ?_|refine pD ?_|refine pC (by first|(intros;simp)|(first|exact Or.inl rfl|simp)) ?_)
 repeat with_reducible refine cN ?_
 repeat' (first|refine zN ?_|refine zE ?_|refine zP ?_|refine zS ?_|refine zO ?_|refine zW ?_)
 refine zR ?_
 repeat' (first|with_reducible refine pN ?_|refine pD ?_|refine pC (by first|(intros;simp)|(first|exact Or.inl rfl|simp)) ?_)
 repeat with_reducible refine cN ?_
 repeat' (first|refine zN ?_|refine zE ?_|refine zP ?_|refine zS ?_|refine zO ?_|refine zW ?_)
 refine zR ?_
 repeat' (first|with_reducible refine pN ?_|refine pD ?_|fail)
 repeat with_reducible refine cN ?_
 repeat' (first|refine zN ?_|refine zE ?_|refine zP ?_|refine zS ?_|refine zO ?_|refine zW ?_)
 refine zR ?_
 repeat' (first|with_reducible refine pN ?_|refine pD ?_|fail)
 repeat with_reducible refine cN ?_
 repeat' (first|refine zN ?_|refine zE ?_|refine zP ?_|refine zS ?_|refine zO ?_|refine zW ?_)
 refine zR ?_
 repeat' (first|with_reducible refine pN ?_|refine pD ?_|fail)
 repeat with_reducible refine cN ?_
 repeat' (first|refine zN ?_|refine zE ?_|refine zP ?_|refine zS ?_|refine zO ?_|refine zW ?_)
 refine zR ?_
 repeat' (first|with_reducible refine pN ?_|refine pD ?_|fail)
 repeat with_reducible refine cN ?_
 refine freezeI 8 rfl ?_
 refine freezeI 11 rfl ?_
 refine freezeI 19 rfl ?_
 repeat' (first|refine zN ?_|refine zE ?_|refine zP ?_|refine zS ?_|refine zO ?_|refine zW ?_)
 refine zR ?_
 repeat' (first|with_reducible refine pN ?_|refine pD ?_|refine pC (by first|(first|exact ⟨⟩|decide|exact rfl|exact fun x=>⟨⟨rfl,trivial⟩,rfl⟩)) ?_)
 repeat with_reducible refine cN ?_
 repeat' (first|refine zN ?_|refine zE ?_|refine zP ?_|refine zQ ?_|refine zW ?_)
 refine endR rfl ?_
 repeat' (first|exact trivial|exact rfl|refine ⟨rfl,?_⟩|refine And.intro ?_ ?_)
end Go.AM.YtbepaplaahcnkaaGreat.Fc
end
