/- CaD, CaS. -/
import Derived.Test.YtdohkcddjoammaaPw17
import Derived.Test.YtdohkcddjoammaaPw19

section
set_option linter.all false
namespace Go.AM.Ytdohkcddjoammaa
open Go.Proofs
set_option maxRecDepth 100000
set_option maxHeartbeats 4000000
def startB (b:Bk.El):Int:=b.2.1
def SortedB (xs:List Bk.El):Prop:=∀ i j,i < j→j < xs.length→startB (getI xs Bk.dflt i)≤startB (getI xs Bk.dflt j)
def posF (xs:List Bk.El) (s:Int):Nat:=(xs.takeWhile fun b=>decide (startB b < s)).length
theorem posF_eq {s:Int}:∀ {xs:List Bk.El} {i:Nat},i≤xs.length→(∀ k,k < i→startB (getI xs Bk.dflt k) < s)→(i < xs.length→s≤startB (getI xs Bk.dflt i))→posF xs s=i
  | [],i,h,_,_=>by simp at h;subst h;rfl
  | x::xs,0,_,_,h=>by
    have h0:s≤startB x:=h (by simp)
    unfold posF
    rw [List.takeWhile_cons_of_neg (by simp;omega)];rfl
  | x::xs,i+1,hi,hl,h=>by
    have h0:startB x < s:=hl 0 (by omega)
    have:=posF_eq (xs:=xs) (i:=i) (by simpa using hi) (fun k hk=>hl (k+1) (by omega)) (fun hi=>h (by simpa using hi))
    unfold posF at this ⊢
    rw [List.takeWhile_cons_of_pos (by simpa using h0)]
    simp [this]
def foundF (xs:List Bk.El) (s:Int):Bool:=decide ((posF xs s:Int) < xs.length)&&decide (cmpI (startB (getI xs Bk.dflt (posF xs s))) s=0)
theorem half_u (n:Int) (h:0≤n) (k:n < 9223372036854775808):IntKind.wrap .i64 ((IntKind.wrap .u64 n).fdiv (2 ^ (min (1:Int).toNat IntKind.u64.bits)))=n / 2:=by
  have h1:IntKind.wrap .u64 n=n:=by simp [IntKind.wrap,IntKind.signed,IntKind.bits];omega
  have h2:(2:Int) ^ (min (1:Int).toNat IntKind.u64.bits)=2:=by simp [IntKind.bits]
  rw [h1,h2,Int.fdiv_eq_ediv_of_nonneg _ (by omega)]
  exact wrapId (by omega) (by omega)
theorem cmpI_neg {a b:Int}:cmpI a b < 0↔a < b:=by
  unfold cmpI
  split
  · simp;assumption
  · split <;> simp <;> omega
def addF (xs:List Bk.El) (b:Bk.El):List Bk.El:=insF xs [b] (posF xs (startB b))
theorem posF_le (xs:List Bk.El) (s:Int):posF xs s≤xs.length:=(List.takeWhile_sublist _).length_le
def freeF (xss:List (List Bk.El)) (b:Bk.El):Bool:=validB b.1 b.2.1 b.2.2.1 b.2.2.2&&!busyF xss b.1 b.2.1 b.2.2.1
def bookF (xss:List (List Bk.El)) (b:Bk.El):List (List Bk.El):=if freeF xss b=true then xss.set b.1.toNat (addF (toolL xss b.1) b) else xss
def errF (xss:List (List Bk.El)) (b:Bk.El):Int:=if freeF xss b=true then 0 else 70
def CalS (xss:List (List Bk.El)):Prop:=∀ xs∈xss,SortedB xs
def bookS:Spec:=⟨true,fun args rows=>match args,rows with
  | [.nilptr,.agg [.int .i64 tl,.int .i64 s,.int .i64 e,.int .i64 o]],[]=>some ⟨True,.int .i64 1,[],true⟩
  | [.ptr 0 0,.agg [.int .i64 tl,.int .i64 s,.int .i64 e,.int .i64 o]],[.arr (.pair (.int .i64) (.pair (.int .i64) (.pair (.int .i64) (.int .i64)))) xss none] =>
    some ⟨Cal xss∧CalS xss,.int .i64 (errF xss (tl,s,e,o)),[.arr Bk (bookF xss (tl,s,e,o)) none],true⟩
  | _,_=>none⟩
end Go.AM.Ytdohkcddjoammaa
end

section
set_option linter.all false
namespace Go.AM.Ytdohkcddjoammaa
open Go.Proofs
set_option maxRecDepth 100000
set_option maxHeartbeats 4000000
def pickF (c n:Int):Int:=(if c < 0 then -(c+1) else c) % n
def pickP:Spec:=plain fun
  | [.int .i64 c,.int .i64 n]=>outV (0 < n) (.int .i64 (pickF c n))
  | _=>none
theorem pick_b {c n:Int} (h:0 < n):0≤pickF c n∧pickF c n < n:=⟨Int.emod_nonneg _ (by omega),Int.emod_lt_of_pos _ h⟩
theorem pickF_neg {c n:Int} (h:0 < n) (c1:c < 0):pickF c n=(0 - (c+1)).tmod n:=by
  unfold pickF;rw [if_pos c1,Int.tmod_eq_emod_of_nonneg (by omega)];congr 1;omega
theorem pickF_pos {c n:Int} (h:0 < n) (c1:¬ c < 0):pickF c n=c.tmod n:=by
  unfold pickF;rw [if_neg c1,Int.tmod_eq_emod_of_nonneg (by omega)]
def mkB (e:t4.El):Bk.El:=(pickF e.1 6,pickF e.2.1 300,pickF e.2.1 300+1+pickF e.2.2.1 40,1+pickF e.2.2.2 6)
def someF (x:List t4.El):List Bk.El:=(x.take 40).map mkB
theorem someF_len (x:List t4.El):(someF x).length≤40:=by unfold someF;simp;omega
def someS:Spec:=plain fun
  | [.sl (.pair (.int .i64) (.pair (.int .i64) (.pair (.int .i64) (.int .i64)))) x]=>some ⟨True,.own 0,[.seq Bk (someF x)],false⟩
  | _=>none
def sameB:List Bk.El→List Bk.El→Bool
  | [],[]=>true
  | a::l,b::m=>(decide (a.1=b.1)&&(decide (a.2.1=b.2.1)&&(decide (a.2.2.1=b.2.2.1)&&decide (a.2.2.2=b.2.2.2))))&&sameB l m
  | _,_=>false
theorem bk_ext {a b:Bk.El} (h:(decide (a.1=b.1)&&(decide (a.2.1=b.2.1)&&(decide (a.2.2.1=b.2.2.1)&&decide (a.2.2.2=b.2.2.2))))=true):a=b:=by
  simp only [Bool.and_eq_true,decide_eq_true_eq] at h
  obtain ⟨h1,h2,h3,h4⟩:=h
  exact Prod.ext h1 (Prod.ext h2 (Prod.ext h3 h4))
theorem sameB_iff:∀ {a b:List Bk.El},sameB a b=true↔a=b
  | [],[]=>by simp [sameB]
  | [],_::_=>by simp [sameB]
  | _::_,[]=>by simp [sameB]
  | a::l,b::m=>by
    rw [sameB,Bool.and_eq_true,sameB_iff]
    constructor
    · rintro ⟨h1,rfl⟩
      rw [bk_ext h1]
    · intro h
      injection h with h1 h2
      subst h1 h2
      simp
theorem sameB_false {a b:List Bk.El} (h:a≠b):sameB a b=false:=by
  cases hs:sameB a b
  · rfl
  · exact absurd (sameB_iff.1 hs) h
def sameS:Spec:=plain fun
  | [.sl (.pair (.int .i64) (.pair (.int .i64) (.pair (.int .i64) (.int .i64)))) a,.sl (.pair (.int .i64) (.pair (.int .i64) (.pair (.int .i64) (.int .i64)))) b]=>outV True (.bool (sameB a b))
  | _=>none
theorem take_eq_succ {a b:List Bk.El} {i:Nat} (ha:i < a.length) (hb:i < b.length) (h:a.take i=b.take i) (he:getI a Bk.dflt i=getI b Bk.dflt i):a.take (i+1)=b.take (i+1):=by
  rw [take_succ_getI (d:=Bk.dflt) ha,take_succ_getI (d:=Bk.dflt) hb,h,he]
def eqC:List (List Bk.El)→List (List Bk.El)→Bool
  | [],[]=>true
  | a::l,b::m=>sameB a b&&eqC l m
  | _,_=>false
theorem eqC_iff:∀ {a b:List (List Bk.El)},eqC a b=true↔a=b
  | [],[]=>by simp [eqC]
  | [],_::_=>by simp [eqC]
  | _::_,[]=>by simp [eqC]
  | a::l,b::m=>by rw [eqC,Bool.and_eq_true,eqC_iff,sameB_iff];simp
theorem eqC_false {a b:List (List Bk.El)} (h:a≠b):eqC a b=false:=by
  cases hs:eqC a b
  · rfl
  · exact absurd (eqC_iff.1 hs) h
def equalS:Spec:=plain fun
  | [.ext (.cref (.pair (.int .i64) (.pair (.int .i64) (.pair (.int .i64) (.int .i64)))) a 0),.ext (.cref (.pair (.int .i64) (.pair (.int .i64) (.pair (.int .i64) (.int .i64)))) b 0)]=>outV (Cal a∧Cal b) (.bool (eqC a b))
  | _=>none
theorem listF_get {a:List (List Bk.El)} {i:Nat} (h:i < 60):listF a (i:Int)=getI a [] i:=by
  unfold listF
  rw [if_pos (toolB_of (by omega) (by omega))]
  simp [toolL]
end Go.AM.Ytdohkcddjoammaa
end
