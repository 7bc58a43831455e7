/- AmEval. -/
import Derived.Test.YtbepaplaahcnkaaGreatPc00

section
set_option linter.all false
namespace Go.AM
inductive TD where
 | int (k:IntKind)
 | bool
 | str
 | struct (fs:List (Nat × Nat))
 | arr (n esz:Nat) (agg:Bool)
 | slice (t:Ty) (esz bytes:Nat) (z:List AV)
 | ptr
 | fn
 | map (k v:Ty) (z:AV)
 | mmap (k a b:Ty)
 | other
structure TI where
 size:Nat
 agg:Bool
 zero:AV
 d:TD
 eqt:Option Ty
def eqTy:(t:Ty)→t.El→t.El→Option Bool
 | .int _,a,b=>some (decide (a=b))
 | .bool,a,b=>some (a == b)
 | .str,a,b=>some (decide (a=b))
 | .pair s t,x,y=>match eqTy s x.1 y.1,eqTy t x.2 y.2 with
   | some a,some b=>some (a&&b)
   | _,_=>none
 | .unit,_,_=>some true
 | _,_,_=>none
abbrev TT:=List (Nat × TI) × Bool × List (Nat × Bool)
def look {α:Type}:List (Nat × α)→Nat→Option α
 | [],_=>none
 | (k,v)::r,i=>match Nat.beq k i with
   | true=>some v
   | false=>look r i
def mem:List Nat→Nat→Bool
 | [],_=>false
 | k::r,i=>match Nat.beq k i with
   | true=>true
   | false=>mem r i
def nth {α:Type}:List α→Nat→Option α
 | [],_=>none
 | x::_,0=>some x
 | _::r,n+1=>nth r n
def dropL {α:Type}:Nat→List α→List α
 | 0,l=>l
 | _+1,[]=>[]
 | n+1,_::r=>dropL n r
def takeL {α:Type}:Nat→List α→Option (List α)
 | 0,_=>some []
 | _+1,[]=>none
 | n+1,x::r=>match takeL n r with
   | some l=>some (x::l)
   | none=>none
def overL {α:Type}:List α→List α→Option (List α)
 | [],l=>some l
 | _::_,[]=>none
 | x::xs,_::r=>match overL xs r with
   | some l=>some (x::l)
   | none=>none
def setL {α:Type}:Nat→List α→List α→Option (List α)
 | 0,xs,l=>overL xs l
 | _+1,_,[]=>none
 | n+1,xs,y::r=>match setL n xs r with
   | some l=>some (y::l)
   | none=>none
def lenL {α:Type}:List α→Nat
 | []=>0
 | _::r=>lenL r+1
def AV.cell:AV→Bool
 | .agg _=>false
 | .tup _=>false
 | .junk=>false
 | .ext (.cvals _ _)=>false
 | _=>true
def allCell:List AV→Bool
 | []=>true
 | c::r=>match c.cell with
   | true=>allCell r
   | false=>false
def AV.cells:AV→List AV
 | .agg cs=>cs
 | v=>[v]
structure Ent where
 path:List (Nat × Bool)
 av:AV
structure St where
 n:Nat
 slots:List (Nat × Ent)
 gt:List Nat
 ks:List Nat
 rows:List (Nat × AObj)
structure Res where
 conds:List Prop
 av:AV
 upd:List (Nat × AObj)
 new:List Nat
inductive RQ (α:Type) where
 | ret (a:α)
 | fail
 | ask (r:Nat) (k:AObj→RQ α)
def RQ.bind {α β:Type}:RQ α→(α→RQ β)→RQ β
 | .ret a,f=>f a
 | .fail,_=>.fail
 | .ask r k,f=>.ask r fun o=>(k o).bind f
def RQ.run {α:Type} (row:Nat→Option AObj):RQ α→List Nat→Option (α × List Nat)
 | .ret a,l=>some (a,l)
 | .fail,_=>none
 | .ask r k,l=>match row r with
   | some o=>(k o).run row (r::l)
   | none=>none
structure Out where
 pre:Prop
 ret:AV
 rows:List AObj
 al:Bool
structure Spec where
 raw:Bool
 f:List AV→List AObj→Option Out
mutual
def AV.within (p:Nat→Bool):AV→Bool
 | .own r=>p r
 | .oel r _ _ _=>p r
 | .part r _ _=>p r
 | .head r _ _=>p r
 | .ptr r _=>p r
 | .agg cs=>withinL p cs
 | .tup cs=>withinL p cs
 | .fn _ cs ds=>match withinL p cs with
   | true=>withinL p ds
   | false=>false
 | _=>true
def withinL (p:Nat→Bool):List AV→Bool
 | []=>true
 | c::r=>match AV.within p c with
   | true=>withinL p r
   | false=>false
end
mutual
def AV.ren (f:Nat→Nat):AV→AV
 | .own r=>.own (f r)
 | .oel r sz i j=>.oel (f r) sz i j
 | .part r sz l=>.part (f r) sz l
 | .head r sz l=>.head (f r) sz l
 | .ptr r j=>.ptr (f r) j
 | .agg cs=>.agg (renL f cs)
 | .tup cs=>.tup (renL f cs)
 | .fn n cs ds=>.fn n (renL f cs) (renL f ds)
 | .int k n=>.int k n
 | .bool b=>.bool b
 | .str s=>.str s
 | .sl t xs=>.sl t xs
 | .el t xs i j=>.el t xs i j
 | .nilsl=>.nilsl
 | .nilptr=>.nilptr
 | .nilfn=>.nilfn
 | .ext e=>.ext e
 | .junk=>.junk
def renL (f:Nat→Nat):List AV→List AV
 | []=>[]
 | c::r=>AV.ren f c::renL f r
end
def AObj.ren (f:Nat→Nat):AObj→AObj
 | .box cs=>.box (renL f cs)
 | .yp k=>.yp (f k)
 | .mit m k v kvs cur G=>.mit (f m) k v kvs cur G
 | .pend m k v kvs j=>.pend (f m) k v kvs j
 | .mmap k a b kvss (some (j,d))=>.mmap k a b kvss (some (j,f d))
 | o=>o
def forceL {α β:Type}:List α→(List α→β)→β
 | [],k=>k []
 | x::r,k=>forceL r fun r'=>k (x::r')
mutual
def forceV {β:Type}:AV→(AV→β)→β
 | .int l n,k=>k (.int l n)
 | .bool b,k=>k (.bool b)
 | .str s,k=>k (.str s)
 | .sl t xs,k=>k (.sl t xs)
 | .el t xs i j,k=>k (.el t xs i j)
 | .own r,k=>k (.own r)
 | .oel r sz i j,k=>k (.oel r sz i j)
 | .part r sz l,k=>k (.part r sz l)
 | .head r sz l,k=>k (.head r sz l)
 | .ptr r j,k=>k (.ptr r j)
 | .agg cs,k=>forceVL cs fun cs'=>k (.agg cs')
 | .tup cs,k=>forceVL cs fun cs'=>k (.tup cs')
 | .fn f cs ds,k=>forceVL cs fun cs'=>forceVL ds fun ds'=>k (.fn f cs' ds')
 | .nilsl,k=>k .nilsl
 | .nilptr,k=>k .nilptr
 | .nilfn,k=>k .nilfn
 | .ext e,k=>k (.ext e)
 | .junk,k=>k .junk
def forceVL {β:Type}:List AV→(List AV→β)→β
 | [],k=>k []
 | c::r,k=>forceV c fun c'=>forceVL r fun r'=>k (c'::r')
end
def forceO {β:Type}:AObj→(AObj→β)→β
 | .box cs,k=>forceVL cs fun cs'=>k (.box cs')
 | .seq t xs,k=>k (.seq t xs)
 | .arr t xss h,k=>k (.arr t xss h)
 | .map a b l,k=>k (.map a b l)
 | .yp j,k=>k (.yp j)
 | .yld t two Y p,k=>k (.yld t two Y p)
 | .mit m a b l c G,k=>k (.mit m a b l c G)
 | .mit0,k=>k .mit0
 | .pend m a b l j,k=>k (.pend m a b l j)
 | .mmap x a b l h,k=>k (.mmap x a b l h)
 | .bld T e u l,k=>k (.bld T e u l)
 | .bag t xs,k=>k (.bag t xs)
 | .dead,k=>k .dead
def forceR {β:Type}:List (Nat × AObj)→(List (Nat × AObj)→β)→β
 | [],k=>k []
 | (i,o)::r,k=>forceO o fun o'=>forceR r fun r'=>k ((i,o')::r')
def getI {α:Type} (xs:List α) (d:α) (i:Nat):α:=xs.getD i d
def encAt (t:Ty) (xs:List t.El) (i:Nat):List AV:=enc t (getI xs t.dflt i)
def loadC (ti:TI) (cs:List AV) (j:Nat):RQ Res :=
 match ti.agg with
 | true=>match takeL ti.size (dropL j cs) with
   | some l=>.ret ⟨[],.agg l,[],[]⟩
   | none=>.fail
 | false=>match nth cs j with
   | some v=>.ret ⟨[],v,[],[]⟩
   | none=>.fail
def withC (p:Prop):RQ Res→RQ Res:=fun q=>q.bind fun|⟨c,a,u,n⟩=>.ret ⟨p::c,a,u,n⟩
def evLoad (ti:TI):AV→RQ Res
 | .ptr r j=>.ask r fun
   | .box cs=>loadC ti cs j
   | _=>.fail
 | .el t xs i j=>loadC ti (encAt t xs i) j
 | .oel r sz i j=>.ask r fun
   | .seq t xs=>match Nat.beq sz t.size with
     | true=>withC (i < xs.length) (loadC ti (encAt t xs i) j)
     | false=>.fail
   | _=>.fail
 | _=>.fail
def evStore (ti:TI) (v:AV):AV→RQ Res
 | .ptr r j=>.ask r fun
   | .box cs=>match Nat.beq (lenL v.cells) ti.size,allCell v.cells,setL j v.cells cs with
     | true,true,some cs'=>.ret ⟨[],.junk,[(r,.box cs')],[]⟩
     | _,_,_=>.fail
   | _=>.fail
 | .oel r sz i j=>.ask r fun
   | .seq t xs=>match Nat.beq sz t.size,Nat.beq (lenL v.cells) ti.size,allCell v.cells,setL j v.cells (encAt t xs i) with
     | true,true,true,some cs'=>match dec t cs' with
       | some (x,[])=>.ret ⟨[i < xs.length],.junk,[(r,.seq t (xs.set i x))],[]⟩
       | _=>.fail
     | _,_,_,_=>.fail
   | _=>.fail
 | _=>.fail
def key (d:Nat):Nat→Nat
 | 0=>d
 | i+1=>(i+1) * 4096+d
def evNew (d:Nat) (cs:List AV):RQ Res :=
 match allCell cs with
 | true=>.ret ⟨[],.ptr d 0,[(d,.box cs)],[d]⟩
 | false=>.fail
def fillA (place:Nat→Option (Nat × Nat)):List (Nat × AV)→List AV→Option (List AV)
 | [],cs=>some cs
 | (i,v)::rest,cs=>match place i with
   | some (off,sz)=>match Nat.beq (lenL v.cells) sz,allCell v.cells,setL off v.cells cs with
     | true,true,some cs'=>fillA place rest cs'
     | _,_,_=>none
   | none=>none
def evBuild (ti:TI) (parts:List (Nat × AV)):RQ Res :=
 match ti.d with
 | .struct fs=>match fillA (nth fs) parts ti.zero.cells with
   | some cs=>.ret ⟨[],.agg cs,[],[]⟩
   | none=>.fail
 | .arr _ esz _=>match fillA (fun i=>some (i * esz,esz)) parts ti.zero.cells with
   | some cs=>.ret ⟨[],.agg cs,[],[]⟩
   | none=>.fail
 | _=>.fail
def repA (n:Nat) (z:List AV):List AV :=
 match n with
 | 0=>[]
 | m+1=>z++repA m z
def decN (t:Ty):Nat→List AV→Option (List t.El)
 | 0,[]=>some []
 | 0,_::_=>none
 | n+1,l=>match dec t l with
   | some (x,r)=>match decN t n r with
     | some xs=>some (x::xs)
     | none=>none
   | none=>none
def evBuildSlice (d:Nat) (ti:TI) (n:Nat) (parts:List (Nat × AV)):RQ Res :=
 match ti.d with
 | .slice t esz bytes z=>match fillA (fun i=>some (i * esz,esz)) parts (repA n z),Nat.ble (n * esz) 16777216,Nat.ble (n * t.bytes) 16777216,Nat.beq esz t.size,Nat.beq (lenL z) esz,Nat.ble n 16777216 with
   | some cs,true,true,true,true,true=>match decN t n cs with
     | some xs=>.ret ⟨[],.own d,[(d,.seq t xs)],[d]⟩
     | none=>.fail
   | _,_,_,_,_,_=>.fail
 | _=>.fail
def frz1Q (v:AV) (ms:List Nat):RQ (AV × List Nat):=match v with
 | .own m=>.ask m fun
   | .seq u xs=>.ret (.sl u xs,m::ms)
   | _=>.fail
 | v=>.ret (v,ms)
def frzLQ:List AV→List Nat→RQ (List AV × List Nat)
 | [],ms=>.ret ([],ms)
 | v::r,ms=>(frz1Q v ms).bind fun|(x,m1)=>(frzLQ r m1).bind fun|(xs,m2)=>.ret (x::xs,m2)
def frzGQ (v:AV) (ms:List Nat):RQ (AV × List Nat):=match v with
 | .agg cs=>(frzLQ cs ms).bind fun|(xs,m1)=>.ret (.agg xs,m1)
 | v=>frz1Q v ms
def frzPQ:List (Nat × AV)→List Nat→RQ (List (Nat × AV) × List Nat)
 | [],ms=>.ret ([],ms)
 | (i,v)::r,ms=>(frzGQ v ms).bind fun|(x,m1)=>(frzPQ r m1).bind fun|(xs,m2)=>.ret ((i,x)::xs,m2)
def frz1K {β:Type} (v:AV) (ms:List Nat) (k:AV→List Nat→RQ β):RQ β:=match v with
 | .own m=>.ask m fun
   | .seq u xs=>k (.sl u xs) (m::ms)
   | _=>.fail
 | v=>k v ms
def frzLK {β:Type}:List AV→List Nat→(List AV→List Nat→RQ β)→RQ β
 | [],ms,k=>k [] ms
 | v::r,ms,k=>frz1K v ms fun x m1=>frzLK r m1 fun xs m2=>k (x::xs) m2
def frzGK {β:Type} (v:AV) (ms:List Nat) (k:AV→List Nat→RQ β):RQ β:=match v with
 | .agg cs=>frzLK cs ms fun xs m1=>k (.agg xs) m1
 | v=>frz1K v ms k
def frzPK {β:Type}:List (Nat × AV)→List Nat→(List (Nat × AV)→List Nat→RQ β)→RQ β
 | [],ms,k=>k [] ms
 | (i,v)::r,ms,k=>frzGK v ms fun x m1=>frzPK r m1 fun xs m2=>k ((i,x)::xs) m2
def appU (l:List (Nat × AObj)) (ms:List Nat):List (Nat × AObj) :=
 match l with
 | []=>ms.map fun m=>(m,.dead)
 | x::r=>x::appU r ms
def evBuildX (d:Nat) (ti:TI) (n:Nat) (parts:List (Nat × AV)):RQ Res :=
 (frzPQ parts []).bind fun|(ps,ms)=>(evBuildSlice d ti n ps).bind fun|⟨cs,a,u,w⟩=>.ret ⟨cs,a,appU u ms,w⟩
def evBuildK (d:Nat) (ti:TI) (n:Nat) (parts:List (Nat × AV)):RQ Res :=
 frzPK parts [] fun ps ms=>(evBuildSlice d ti n ps).bind fun|⟨cs,a,u,w⟩=>.ret ⟨cs,a,appU u ms,w⟩
def evField (ti:TI) (f:Nat) (a:AV):RQ Res :=
 match ti.d with
 | .struct fs=>match nth fs f with
   | some (off,sz)=>match Nat.beq sz 0,a with
     | false,.ptr r j=>.ret ⟨[],.ptr r (j+off),[],[]⟩
     | false,.el t xs i j=>.ret ⟨[],.el t xs i (j+off),[],[]⟩
     | false,.oel r z i j=>.ret ⟨[],.oel r z i (j+off),[],[]⟩
     | _,_=>.fail
   | none=>.fail
 | _=>.fail
def evIndexAddr (ti:TI) (a:AV) (i:Int):RQ Res :=
 match ti.d with
 | .slice _ esz _ _=>match a with
   | .sl u xs=>match Nat.beq esz u.size with
     | true=>.ret ⟨[0≤i,i < xs.length],.el u xs i.toNat 0,[],[]⟩
     | false=>.fail
   | .own r=>.ask r fun
     | .seq u xs=>match Nat.beq esz u.size with
       | true=>.ret ⟨[0≤i,i < xs.length],.oel r esz i.toNat 0,[],[]⟩
       | false=>.fail
     | _=>.fail
   | _=>.fail
 | .arr n esz _=>match a with
   | .ptr r j=>.ret ⟨[0≤i,i < n],.ptr r (j+i.toNat * esz),[],[]⟩
   | .el t xs k j=>.ret ⟨[0≤i,i < n],.el t xs k (j+i.toNat * esz),[],[]⟩
   | .oel r z k j=>.ret ⟨[0≤i,i < n],.oel r z k (j+i.toNat * esz),[],[]⟩
   | _=>.fail
 | _=>.fail
def evIndex (ti:TI) (cs:List AV) (m:Int):RQ Res :=
 match ti.d with
 | .arr n esz true=>match takeL esz (dropL (m.toNat * esz) cs) with
   | some l=>.ret ⟨[0≤m,m < n],.agg l,[],[]⟩
   | none=>.fail
 | .arr n esz false=>match Nat.beq esz 1,nth cs (m.toNat * esz) with
   | true,some v=>.ret ⟨[0≤m,m < n],v,[],[]⟩
   | _,_=>.fail
 | _=>.fail
def b2 (conds:List Prop) (v:AV):RQ Res:=.ret ⟨conds,v,[],[]⟩
def evCmp (op:BinOp) (e:Bool):RQ Res :=
 match op with
 | .eql=>b2 [] (.bool e)
 | .neq=>b2 [] (.bool (!e))
 | _=>.fail
abbrev In64 (n:Int):Prop:=-9223372036854775808≤n∧n≤9223372036854775807
def arith (strict:Bool) (k:IntKind) (n:Int):RQ Res :=
 match strict,k with
 | true,.i64=>b2 [In64 n] (.int .i64 n)
 | _,_=>b2 [] (.int k (k.wrap n))
def quoI (strict:Bool) (k:IntKind) (a b:Int):RQ Res :=
 match strict with
 | true=>b2 [0 < b] (.int k (a.tdiv b))
 | false=>b2 [b≠0] (.int k (k.wrap (a.tdiv b)))
def evBinInt (strict:Bool) (op:BinOp) (k l:IntKind) (a b:Int):RQ Res :=
 match op with
 | .shl=>b2 [0≤b] (.int k (k.wrap (a * 2 ^ (min b.toNat k.bits))))
 | .shr=>b2 [0≤b] (.int k (a.fdiv (2 ^ (min b.toNat k.bits))))
 | .add=>match kindEq k l with|true=>arith strict k (a+b)|false=>.fail
 | .sub=>match kindEq k l with|true=>arith strict k (a - b)|false=>.fail
 | .mul=>match kindEq k l with|true=>arith strict k (a * b)|false=>.fail
 | .quo=>match kindEq k l with|true=>quoI strict k a b|false=>.fail
 | .rem=>match kindEq k l with|true=>b2 [b≠0] (.int k (a.tmod b))|false=>.fail
 | .eql=>match kindEq k l with|true=>b2 [] (.bool (decide (a=b)))|false=>.fail
 | .neq=>match kindEq k l with|true=>b2 [] (.bool (decide (a≠b)))|false=>.fail
 | .lss=>match kindEq k l with|true=>b2 [] (.bool (decide (a < b)))|false=>.fail
 | .leq=>match kindEq k l with|true=>b2 [] (.bool (decide (a≤b)))|false=>.fail
 | .gtr=>match kindEq k l with|true=>b2 [] (.bool (decide (b < a)))|false=>.fail
 | .geq=>match kindEq k l with|true=>b2 [] (.bool (decide (b≤a)))|false=>.fail
 | .and=>match kindEq k .u64,kindEq l .u64 with|true,true=>(bif decide (b=127) then b2 [0≤a] (.int .u64 (a % 128)) else b2 [0≤a,a < 4294967296,b=4294967295] (.int .u64 a))|_,_=>.fail
 | .or=>match kindEq k .u8,kindEq l .u8 with|true,true=>b2 [0≤a,a < 128,b=128] (.int .u8 (a+128))|_,_=>.fail
 | .xor=>match kindEq k .u64,kindEq l .u64 with|true,true=>b2 [b=0] (.int .u64 a)|_,_=>.fail
 | _=>.fail
def evBin (strict:Bool) (ti:Option TI) (op:BinOp) (x y:AV):RQ Res :=
 match x,y with
 | .int k a,.int l b=>evBinInt strict op k l a b
 | .bool a,.bool b=>match ti with
   | some ⟨_,_,_,.bool,_⟩=>evCmp op (a == b)
   | _=>.fail
 | .str a,.str b=>match ti with
   | some ⟨_,_,_,.str,_⟩=>evCmp op (decide (a=b))
   | _=>.fail
 | .agg cs,.agg ds=>match ti with
   | some ⟨_,true,_,_,some t⟩=>match dec t cs,dec t ds with
     | some (x,[]),some (y,[])=>match eqTy t x y with
       | some e=>evCmp op e
       | none=>.fail
     | _,_=>.fail
   | _=>.fail
 | .nilptr,.nilptr=>match ti with
   | some ⟨_,_,_,.ptr,_⟩=>evCmp op true
   | _=>.fail
 | .ptr _ _,.nilptr=>match ti with
   | some ⟨_,_,_,.ptr,_⟩=>evCmp op false
   | _=>.fail
 | _,_=>.fail
def isTrue:Operand→Bool
 | .const (.bool b)=>b
 | _=>false
def isFalse:Operand→Bool
 | .const (.bool b)=>!b
 | _=>false
def evPick (xo yo:Operand) (c:Bool) (x y:AV):RQ Res :=
 match x,y with
 | .bool a,.bool b=>match isTrue xo,isFalse yo with
   | true,_=>b2 [] (.bool (c||b))
   | _,true=>b2 [] (.bool (c&&a))
   | _,_=>b2 [] (.bool (bif c then a else b))
 | .int k a,.int l b=>match kindEq k l with
   | true=>b2 [] (.int k (bif c then a else b))
   | false=>.fail
 | .junk,.bool b=>b2 [c=false] (.bool b)
 | .bool a,.junk=>b2 [c=true] (.bool a)
 | _,_=>.fail
def evLen (ti:TI) (x:AV):RQ Res :=
 match ti.d with
 | .slice _ _ _ _=>match x with
   | .sl _ xs=>b2 [] (.int .i64 xs.length)
   | .nilsl=>b2 [] (.int .i64 0)
   | .own r=>.ask r fun
     | .seq _ xs=>b2 [] (.int .i64 xs.length)
     | _=>.fail
   | _=>.fail
 | .str=>match x with
   | .str s=>b2 [] (.int .i64 s.size)
   | _=>.fail
 | _=>.fail
def listOf (t:Ty) (x:AV):RQ (List t.El) :=
 match x with
 | .sl u xs=>match Ty.same u t with
   | some ⟨h⟩=>castK h xs .ret
   | none=>.fail
 | .nilsl=>.ret []
 | .own r=>.ask r fun
   | .seq u xs=>match Ty.same u t with
     | some ⟨h⟩=>castK h xs .ret
     | none=>.fail
   | _=>.fail
 | _=>.fail
def evAppend (d:Nat) (ti:TI) (s x:AV):RQ Res :=
 match ti.d with
 | .slice t esz bytes z=>match Nat.beq esz t.size,Nat.ble t.bytes bytes,Nat.ble 1 esz,Nat.ble 1 bytes,Nat.beq (lenL z) esz with
   | true,true,true,true,true=>(listOf t x).bind fun ys=>match s with
     | .nilsl=>.ret ⟨[ys.length * bytes≤140737488355328],.own d,[(d,.seq t ys)],[d]⟩
     | .own r=>.ask r fun
       | .seq u xs=>match Ty.same u t with
         | some ⟨h⟩=>castK h xs fun xs=>.ret ⟨[(xs.length+ys.length) * bytes≤140737488355328],.own d,[(d,.seq t (xs++ys)),(r,.dead)],[d]⟩
         | none=>.fail
       | _=>.fail
     | _=>.fail
   | _,_,_,_,_=>.fail
 | _=>.fail
def boundOf (d:Int):Option AV→Option Int
 | none=>some d
 | some (.int _ n)=>some n
 | some _=>none
def evSlice (d:Nat) (ti:TI) (x:AV) (lo hi:Option AV):RQ Res :=
 match ti.d with
 | .slice _ esz _ _=>match x with
   | .own r=>match lo,hi with
     | none,some (.int _ n)=>.ask r fun
       | .seq u xs=>match Nat.beq esz u.size with
         | true=>.ret ⟨[0≤n,n≤xs.length],.own d,[(d,.seq u (xs.take n.toNat)),(r,.dead)],[d]⟩
         | false=>.fail
       | _=>.fail
     | _,_=>.fail
   | .sl u xs=>match Nat.beq esz u.size,boundOf 0 lo,boundOf xs.length hi with
     | true,some l,some h=>.ret ⟨[0≤l,l≤h,h≤xs.length],.sl u ((xs.take h.toNat).drop l.toNat),[],[]⟩
     | _,_,_=>.fail
   | .nilsl=>match boundOf 0 lo,boundOf 0 hi with
     | some l,some h=>.ret ⟨[l=0,h=0],.nilsl,[],[]⟩
     | _,_=>.fail
   | _=>.fail
 | _=>.fail
def AV.plain:AV→AV
 | .ext (.nn t xs)=>.sl t xs
 | .ext (.full t xs)=>.sl t xs
 | .ext (.nl t)=>.sl t []
 | v=>v
def evLoadX (ti:TI):Ext→RQ Res
 | .cref t xss j=>match ti.agg with
   | true=>.ret ⟨[j=0,xss.length=ti.size],.ext (.cvals t xss),[],[]⟩
   | false=>.ret ⟨[j < xss.length],.sl t (getI xss [] j),[],[]⟩
 | _=>.fail
def evTake (d:Nat) (ti:TI) (r j:Nat):AObj→RQ Res
 | .arr t xss none=>match ti.agg with
   | true=>.fail
   | false=>.ret ⟨[j < xss.length],.own d,[(d,.seq t (getI xss [] j)),(r,.arr t xss (some j))],[d]⟩
 | _=>.fail
def isArr:AObj→Bool
 | .arr _ _ _=>true
 | _=>false
def evLoadD (d:Nat) (ti:TI) (x:AV):RQ Res :=
 match x with
 | .ext e=>evLoadX ti e
 | .ptr r j=>.ask r fun o=>match isArr o with
   | true=>evTake d ti r j o
   | false=>evLoad ti (.ptr r j)
 | x=>evLoad ti x
def holeIs:Option Nat→Nat→Prop
 | none,_=>True
 | some k,j=>k=j
def evPut (ti:TI) (v:AV) (r j:Nat):AObj→RQ Res
 | .arr t xss h=>match ti.agg,Nat.beq ti.size 1,v with
   | false,true,.own m=>.ask m fun
     | .seq u ys=>match Ty.same u t with
       | some ⟨e⟩=>castK e ys fun ys=>.ret ⟨[j < xss.length,holeIs h j],.junk,[(r,.arr t (xss.set j ys) none),(m,.dead)],[]⟩
       | none=>.fail
     | _=>.fail
   | _,_,_=>.fail
 | _=>.fail
def evStoreD (ti:TI) (v:AV) (x:AV):RQ Res :=
 match x with
 | .ptr r j=>.ask r fun o=>match isArr o with
   | true=>evPut ti v r j o
   | false=>evStore ti v (.ptr r j)
 | x=>evStore ti v x
def evStoreX (ti:TI) (v x:AV):RQ Res :=
 match x,v with
 | .oel r sz i j,.ptr k 0=>match Nat.beq k r with
   | true=>.fail
   | false=>.ask k fun
     | .box cs=>.ask r fun
       | .seq (.opt t) _=>match dec t cs with
         | some (y,[])=>(evStore ti (.ext (.opt t (some y))) (.oel r sz i j)).bind fun r1=>.ret ⟨r1.conds,r1.av,appU r1.upd [k],r1.new⟩
         | _=>.fail
       | _=>.fail
     | _=>.fail
 | x,v=>evStoreD ti v x
def evFieldV (ti:TI) (f:Nat) (a:AV):RQ Res :=
 match a with
 | .agg cs=>match ti.d with
   | .struct fs=>match nth fs f with
     | some (off,sz)=>match Nat.beq sz 1,nth cs off with
       | true,some v=>.ret ⟨[],v,[],[]⟩
       | _,_=>.fail
     | none=>.fail
   | _=>.fail
 | _=>.fail
def evFieldX (ti:TI) (f:Nat) (a:AV):RQ Res :=
 match a with
 | .ext (.cref t xss j)=>match ti.d with
   | .struct fs=>match nth fs f with
     | some (off,sz)=>match Nat.beq sz 0 with
       | false=>.ret ⟨[],.ext (.cref t xss (j+off)),[],[]⟩
       | true=>.fail
     | none=>.fail
   | _=>.fail
 | a=>evField ti f a
def evIndexAddrX (ti:TI) (a:AV) (i:Int):RQ Res :=
 match a with
 | .ext (.cref t xss j)=>match ti.d with
   | .arr n esz _=>.ret ⟨[0≤i,i < n],.ext (.cref t xss (j+i.toNat * esz)),[],[]⟩
   | _=>.fail
 | a=>evIndexAddr ti a.plain i
def evIndexX (ti:TI) (x:AV) (m:Int):RQ Res :=
 match x with
 | .agg cs=>evIndex ti cs m
 | .str s=>match ti.d with
   | .str=>.ret ⟨[0≤m,m < s.size],.int .u8 (s.data.toList.getD m.toNat 0).toNat,[],[]⟩
   | _=>.fail
 | .ext (.cvals t xss)=>match ti.d with
   | .arr n esz false=>match Nat.beq esz 1 with
     | true=>.ret ⟨[0≤m,m < n,m < xss.length],.sl t (getI xss [] m.toNat),[],[]⟩
     | false=>.fail
   | _=>.fail
 | _=>.fail
def evBinX (strict:Bool) (ti:Option TI) (op:BinOp) (x y:AV):RQ Res :=
 match x,y with
 | .ext (.cref _ _ _),.nilptr=>match ti with
   | some ⟨_,_,_,.ptr,_⟩=>evCmp op false
   | _=>.fail
 | .ext (.nn _ _),.nilsl=>match ti with
   | some ⟨_,_,_,.slice _ _ _ _,_⟩=>evCmp op false
   | _=>.fail
 | .ext (.nl _),.nilsl=>match ti with
   | some ⟨_,_,_,.slice _ _ _ _,_⟩=>evCmp op true
   | _=>.fail
 | .nilsl,.nilsl=>match ti with
   | some ⟨_,_,_,.slice _ _ _ _,_⟩=>evCmp op true
   | _=>.fail
 | .ext (.opt _ y),.nilptr=>match ti with
   | some ⟨_,_,_,.ptr,_⟩=>evCmp op y.isNone
   | _=>.fail
 | .ext (.mnil b),.ext .nilm=>match ti with
   | some ⟨_,_,_,.map _ _ _,_⟩=>evCmp op b
   | _=>.fail
 | x,y=>evBin strict ti op x y
def evSliceX (d:Nat) (ti:TI) (x:AV) (lo hi mx:Option AV):RQ Res :=
 match mx with
 | none=>match x,lo,hi with
   | .own r,some (.int _ l),none=>match ti.d with
     | .slice _ esz _ _=>.ask r fun
       | .seq u xs=>match Nat.beq esz u.size with
         | true=>.ret ⟨[0≤l,l < xs.length],.part r esz l.toNat,[],[]⟩
         | false=>.fail
       | _=>.fail
     | _=>.fail
   | x,lo,hi=>evSlice d ti x.plain lo hi
 | some (.int _ m)=>match x.plain,hi with
   | .sl u xs,some (.int _ h)=>match ti.d with
     | .slice _ esz _ _=>match Nat.beq esz u.size,boundOf 0 lo with
       | true,some l=>.ret ⟨[0≤l,l≤h,h≤xs.length,m=h],.ext (.full u ((xs.take h.toNat).drop l.toNat)),[],[]⟩
       | _,_=>.fail
     | _=>.fail
   | _,_=>.fail
 | _=>.fail
def evAppendX (d:Nat) (ti:TI) (s x:AV):RQ Res :=
 match s with
 | .ext (.full u xs)=>match ti.d with
   | .slice t esz bytes z=>match Nat.beq esz t.size,Nat.ble t.bytes bytes,Nat.ble 1 esz,Nat.ble 1 bytes,Nat.beq (lenL z) esz with
     | true,true,true,true,true=>(listOf t x.plain).bind fun ys=>match Ty.same u t with
       | some ⟨h⟩=>castK h xs fun xs=>.ret ⟨[0 < ys.length,(xs.length+ys.length) * bytes≤140737488355328],.own d,[(d,.seq t (xs++ys))],[d]⟩
       | none=>.fail
     | _,_,_,_,_=>.fail
   | _=>.fail
 | s=>evAppend d ti s x.plain
def evClear (ti:TI) (x:AV):RQ Res :=
 match x with
 | .part r sz l=>match ti.d with
   | .slice t esz _ z=>.ask r fun
     | .seq u xs=>match Nat.beq sz u.size,Nat.beq esz u.size,Nat.ble 1 esz,Nat.beq (lenL z) esz,dec u z with
       | true,true,true,true,some (y,[])=>.ret ⟨[l≤xs.length],.junk,[(r,.seq u (xs.take l++List.replicate (xs.length - l) y))],[]⟩
       | _,_,_,_,_=>.fail
     | _=>.fail
   | _=>.fail
 | _=>.fail
def evMakeS (d:Nat) (ti:TI) (n:Int):RQ Res :=
 match ti.d with
 | .slice t esz bytes z=>match Nat.beq esz t.size,Nat.ble t.bytes bytes,Nat.ble 1 esz,Nat.ble 1 bytes,Nat.beq (lenL z) esz,dec t z with
   | true,true,true,true,true,some (y,[])=>.ret ⟨[0≤n,n.toNat * bytes≤140737488355328],.own d,[(d,.seq t (List.replicate n.toNat y))],[d]⟩
   | _,_,_,_,_,_=>.fail
 | _=>.fail
def evAppendZ (d:Nat) (ti ui:TI) (s:AV) (n:Int):RQ Res :=
 match s,ui.d with
 | .nilsl,.int .i64=>withC (0 < n) (evMakeS d ti n)
 | _,_=>.fail
def strB (s:ByteArray):List Int:=s.data.toList.map fun (b:UInt8)=>(b.toNat:Int)
def bytesS (xs:List Int):ByteArray:=⟨(xs.map fun n=>UInt8.ofNat n.toNat).toArray⟩
def evAppendS (d:Nat) (ti ui:TI) (s:AV) (x:ByteArray):RQ Res :=
 match ti.d,ui.d with
 | .slice t esz bytes z,.str=>match Ty.same t (.int .u8),Nat.beq esz 1,Nat.beq bytes 1,Nat.beq (lenL z) esz with
   | some _,true,true,true=>match s with
     | .nilsl=>.ret ⟨[x.size≤140737488355328],.own d,[(d,.seq (.int .u8) (strB x))],[d]⟩
     | .own r=>.ask r fun
       | .seq u xs=>match Ty.same u (.int .u8) with
         | some ⟨h⟩=>castK h xs fun xs=>.ret ⟨[xs.length+x.size≤140737488355328],.own d,[(d,.seq (.int .u8) (xs++strB x)),(r,.dead)],[d]⟩
         | none=>.fail
       | _=>.fail
     | _=>.fail
   | _,_,_,_=>.fail
 | _,_=>.fail
def evHead (ti:TI) (r:Nat) (n:Int):RQ Res :=
 match ti.d with
 | .slice _ esz _ _=>.ask r fun
   | .seq u xs=>match Nat.beq esz u.size with
     | true=>.ret ⟨[0≤n,n≤xs.length,0 < xs.length],.head r esz n.toNat,[],[]⟩
     | false=>.fail
   | _=>.fail
 | _=>.fail
def evCopy (ti:TI) (x y:AV):RQ Res :=
 match ti.d with
 | .slice _ esz _ _=>match Nat.beq esz 1 with
   | true=>match x,y with
     | .own r,.sl u ys=>.ask r fun
       | .seq t xs=>match Ty.same u t,Nat.beq t.size 1 with
         | some ⟨h⟩,true=>castK h ys fun ys=>.ret ⟨[0 < xs.length,0 < ys.length,ys.length≤xs.length],.int .i64 ys.length,[(r,.seq t (ys++xs.drop ys.length))],[]⟩
         | _,_=>.fail
       | _=>.fail
     | .part r sz l,.head r' _ h=>match Nat.beq r r',Nat.beq sz 1 with
       | true,true=>.ask r fun
         | .seq t xs=>match Nat.beq t.size 1 with
           | true=>.ret ⟨[l < xs.length,h≤xs.length],.int .i64 (min h (xs.length - l):Nat),[(r,.seq t (xs.take l++xs.take (min h (xs.length - l))++xs.drop (l+min h (xs.length - l))))],[]⟩
           | false=>.fail
         | _=>.fail
       | _,_=>.fail
     | _,_=>.fail
   | false=>.fail
 | _=>.fail
def evConv (si ti:TI) (x:AV):RQ Res :=
 match ti.d,x with
 | .int k,.int _ n=>b2 [] (.int k (k.wrap n))
 | .str,.own r=>match si.d with
   | .slice ty _ _ _=>match Ty.same ty (.int .u8) with
     | some _=>.ask r fun
       | .seq u xs=>match Ty.same u (.int .u8) with
         | some ⟨h⟩=>castK h xs fun xs=>b2 [] (.str (bytesS xs))
         | none=>.fail
       | _=>.fail
     | none=>.fail
   | _=>.fail
 | _,_=>.fail
def mapFind (k v:Ty) (x:k.El):List (k.El × v.El)→Option v.El
 | []=>none
 | e::l=>bif keyEq k x e.1 then some e.2 else mapFind k v x l
def keyLt:(t:Ty)→t.El→t.El→Bool
 | .int _,a,b=>decide (a < b)
 | _,_,_=>false
def mapPut (k v:Ty) (x:k.El) (y:v.El):List (k.El × v.El)→List (k.El × v.El)
 | []=>[]
 | e::l=>bif keyEq k x e.1 then (x,y)::l else e::mapPut k v x y l
def mapIns (k v:Ty) (x:k.El) (y:v.El):List (k.El × v.El)→List (k.El × v.El)
 | []=>[(x,y)]
 | e::l=>bif keyLt k x e.1 then (x,y)::e::l else e::mapIns k v x y l
def mapSet (k v:Ty) (x:k.El) (y:v.El) (l:List (k.El × v.El)):List (k.El × v.El):=match mapFind k v x l with
 | some _=>mapPut k v x y l
 | none=>mapIns k v x y l
def castM {β:Type} {a b c d:Ty} (h:a=c) (k:b=d) (l:List (a.El × b.El)) (f:List (c.El × d.El)→β):β :=
 Eq.rec (motive:=fun c _=>(List (c.El × d.El)→β)→β) (Eq.rec (motive:=fun d _=>(List (a.El × d.El)→β)→β) (fun f=>f l) k) h f
def keyInt (t:Ty) (k:Ty) (x:AV):Option k.El:=match intsT t with
 | true=>decV k x
 | false=>none
def evMake (d:Nat) (ti:TI):RQ Res :=
 match ti.d with
 | .map k v _=>.ret ⟨[],.own d,[(d,.map k v [])],[d]⟩
 | .mmap k a b=>.ret ⟨[],.own d,[(d,.mmap k a b [] none)],[d]⟩
 | _=>.fail
def one:Ty→Bool
 | .int _=>true
 | .bool=>true
 | _=>false
def ansOf (S:Nat→Option Spec) (f:Nat) (r:Ty) (args:List AV):Option r.El:=match S f with
 | some s=>match s.f args [] with
   | some o=>decV r o.ret
   | none=>none
 | none=>none
def preOf (S:Nat→Option Spec) (f:Nat) (args:List AV):Prop:=match S f with
 | some s=>s.raw=false∧match s.f args [] with
   | some o=>o.pre
   | none=>False
 | none=>False
def seeV (S:Nat→Option Spec) (t:Ty) (y:AV):AV × List Prop:=match t,y with
 | .fn1 a r,.fn f [] []=>(.ext (.fn1 a r fun x=>(ansOf S f r [encV a x]).getD r.dflt),[one r=true,∀ x,preOf S f [encV a x]∧(ansOf S f r [encV a x]).isSome=true])
 | .fn2 a r,.fn f [] []=>(.ext (.fn2 a r fun x x'=>(ansOf S f r [encV a x,encV a x']).getD r.dflt),[one r=true,∀ x x',preOf S f [encV a x,encV a x']∧(ansOf S f r [encV a x,encV a x']).isSome=true])
 | _,y=>(y,[])
def seeD (S:Nat→Option Spec):(t:Ty)→List AV→Option (List AV × List AV × List Prop)
 | .pair a b,l=>match seeD S a l with
   | some (c,l1,p)=>match seeD S b l1 with
     | some (c',l2,p')=>some (c++c',l2,p++p')
     | none=>none
   | none=>none
 | t,x::l=>match Nat.beq t.size 1 with
   | true=>match seeV S t x with
     | (y,p)=>some ([y],l,p)
   | false=>none
 | _,[]=>none
def seeG (S:Nat→Option Spec) (t:Ty) (y:AV):AV × List Prop:=match y with
 | .agg cs=>match seeD S t cs with
   | some (ds,[],p)=>(.agg ds,p)
   | _=>(y,[])
 | y=>seeV S t y
def mmIdx (k:Ty) {α:Type} (x:k.El):List (k.El × α)→Option Nat
 | []=>none
 | e::l=>bif keyEq k x e.1 then some 0 else match mmIdx k x l with
   | some j=>some (j+1)
   | none=>none
def evUpdM (k:Ty) (r:Nat) (x y:AV):RQ Res:=match y with
 | .own m=>match Nat.beq m r with
   | true=>.fail
   | false=>.ask r fun
     | .mmap k' a b kvss none=>.ask m fun
       | .map a' b' l=>match Ty.same k' k,Ty.same a' a,Ty.same b' b,keyInt k' k' x with
         | some _,some ⟨h⟩,some ⟨h'⟩,some z=>castM h h' l fun l=>.ret ⟨[mmIdx k' z kvss=none],.junk,[(r,.mmap k' a b (kvss++[(z,l)]) none),(m,.dead)],[]⟩
         | _,_,_,_=>.fail
       | _=>.fail
     | _=>.fail
 | _=>.fail
def evUpd (S:Nat→Option Spec) (ti:TI) (m x y:AV):RQ Res :=
 match ti.d,m with
 | .mmap k _ _,.own r=>evUpdM k r x y
 | .map k v _,.own r=>.ask r fun
   | .map k' v' kvs=>match Ty.same k' k,Ty.same v' v,keyInt k k x,decV v (seeG S v y).1 with
     | some ⟨h⟩,some ⟨h'⟩,some x,some z=>castM h h' kvs fun kvs=>.ret ⟨(seeG S v y).2,.junk,[(r,.map k v (mapSet k v x z kvs))],[]⟩
     | _,_,_,_=>.fail
   | _=>.fail
 | _,_=>.fail
def evUpdX (S:Nat→Option Spec) (ti:TI) (m x y:AV):RQ Res:=match y with
 | .agg cs=>(frzLQ cs []).bind fun|(ds,ms)=>(evUpd S ti m x (.agg ds)).bind fun|⟨cs,a,u,w⟩=>.ret ⟨cs,a,appU u ms,w⟩
 | y=>evUpd S ti m x y
def evUpdK (S:Nat→Option Spec) (ti:TI) (m x y:AV):RQ Res:=match y with
 | .agg cs=>frzLK cs [] fun ds ms=>(evUpd S ti m x (.agg ds)).bind fun|⟨cs,a,u,w⟩=>.ret ⟨cs,a,appU u ms,w⟩
 | y=>evUpd S ti m x y
def evRangeM (d:Nat) (ti:TI) (x:AV):RQ Res :=
 match ti.d,x with
 | .map _ _ _,.own r=>.ask r fun
   | .map k v kvs=>.ret ⟨[],.own d,[(d,.mit r k v kvs none none),(r,.dead)],[d]⟩
   | _=>.fail
 | .map _ _ _,.ext (.mnil b)=>.ret ⟨[b=true],.own d,[(d,.mit0)],[d]⟩
 | _,_=>.fail
def evEntryM (x:AV):RQ Res :=
 match x with
 | .own r=>.ask r fun
   | .mit _ k v _ (some y) _=>b2 [] (.tup [encV k y.1,encV v y.2])
   | _=>.fail
 | _=>.fail
def okV (ok:Bool) (v:AV) (b:Bool):AV:=match ok with
 | true=>.tup [v,.bool b]
 | false=>v
def evLookM (k:Ty) (x:AV):AObj→RQ Res
 | .mmap k' _ _ kvss h=>match Ty.same k' k,keyInt k' k' x with
   | some _,some z=>match h with
     | none=>b2 [] (.ext (.mnil (mmIdx k' z kvss).isNone))
     | some (j,d)=>b2 [mmIdx k' z kvss=some j] (.own d)
   | _,_=>.fail
 | _=>.fail
def evEntryP (d:Nat) (ti:TI) (m x:AV):RQ Res :=
 match ti.d,m with
 | .map k v z,.own r=>.ask r fun
   | .map k' v' kvs=>match Ty.same k' k,Ty.same v' v,keyInt k k x,decV v z with
     | some ⟨h⟩,some ⟨h'⟩,some x,some y=>castM h h' kvs fun kvs=>.ret ⟨[],.tup [encV v ((mapFind k v x kvs).getD y),.own d],[(d,.pend r k v (bif (mapFind k v x kvs).isSome then kvs else kvs++[(x,y)]) ((mmIdx k x kvs).getD kvs.length)),(r,.dead)],[d]⟩
     | _,_,_,_=>.fail
   | _=>.fail
 | _,_=>.fail
def setVal {α β:Type} (y:β):Nat→List (α × β)→List (α × β)
 | _,[]=>[]
 | 0,e::l=>(e.1,y)::l
 | j+1,e::l=>e::setVal y j l
def evEntryS (m s y:AV):RQ Res :=
 match m,s with
 | .own r,.own d=>match Nat.beq r d with
   | true=>.fail
   | false=>.ask d fun
     | .pend r' k v kvs j=>match Nat.beq r r',decV v y with
       | true,some z=>.ret ⟨[],.junk,[(r,.map k v (setVal z j kvs)),(d,.dead)],[]⟩
       | _,_=>.fail
     | _=>.fail
 | _,_=>.fail
def evLookup (ti:TI) (ok:Bool) (m x:AV):RQ Res :=
 match ti.d,m with
 | .mmap k _ _,.own r=>match ok with
   | true=>.fail
   | false=>.ask r (evLookM k x)
 | .map k v z,.own r=>.ask r fun
   | .map k' v' kvs=>match Ty.same k' k,Ty.same v' v,keyInt k k x,decV v z with
     | some ⟨h⟩,some ⟨h'⟩,some x,some y=>castM h h' kvs fun kvs=>.ret ⟨[],okV ok (encV v ((mapFind k v x kvs).getD y)) (mapFind k v x kvs).isSome,[],[]⟩
     | some ⟨h⟩,some ⟨h'⟩,some x,none=>castM h h' kvs fun kvs=>.ret ⟨[(mapFind k v x kvs).isSome=true],okV ok (encV v ((mapFind k v x kvs).getD v.dflt)) true,[],[]⟩
     | _,_,_,_=>.fail
   | _=>.fail
 | .map k v z,.ext .nilm=>match keyInt k k x,decV v z with
   | some _,some y=>.ret ⟨[],okV ok (encV v y) false,[],[]⟩
   | _,_=>.fail
 | _,_=>.fail
def evFn:Ext→List AV→RQ Res
 | .fn1 a r c,[x]=>match decV a x,one r with
   | some x,true=>b2 [] (encV r (c x))
   | _,_=>.fail
 | .fn2 a r c,[x,y]=>match decV a x,decV a y,one r with
   | some x,some y,true=>b2 [] (encV r (c x y))
   | _,_,_=>.fail
 | _,_=>.fail
def viewA (x:AV):RQ AV :=
 match x with
 | .own r=>.ask r fun
   | .seq t xs=>.ret (.sl t xs)
   | _=>.fail
 | .ptr r 0=>.ask r fun
   | .arr t xss none=>.ret (.ext (.cref t xss 0))
   | .box [.own k]=>.ask k fun
     | .seq t xs=>.ret (.el (.slice t) [xs] 0 0)
     | _=>.fail
   | _=>.fail
 | v=>.ret v.plain
def viewC:List AV→RQ (List AV)
 | []=>.ret []
 | c::r=>(viewA c).bind fun c'=>(viewC r).bind fun r'=>.ret (c'::r')
def viewL:List AV→RQ (List AV)
 | []=>.ret []
 | .agg cs::r=>(viewC cs).bind fun cs'=>(viewL r).bind fun r'=>.ret (.agg cs'::r')
 | c::r=>(viewA c).bind fun c'=>(viewL r).bind fun r'=>.ret (c'::r')
def viewAK {β:Type} (x:AV) (k:AV→RQ β):RQ β :=
 match x with
 | .own r=>.ask r fun
   | .seq t xs=>k (.sl t xs)
   | _=>.fail
 | .ptr r 0=>.ask r fun
   | .arr t xss none=>k (.ext (.cref t xss 0))
   | .box [.own q]=>.ask q fun
     | .seq t xs=>k (.el (.slice t) [xs] 0 0)
     | _=>.fail
   | _=>.fail
 | v=>k v.plain
def viewCK {β:Type}:List AV→(List AV→RQ β)→RQ β
 | [],k=>k []
 | c::r,k=>viewAK c fun c'=>viewCK r fun r'=>k (c'::r')
def viewLK {β:Type}:List AV→(List AV→RQ β)→RQ β
 | [],k=>k []
 | .agg cs::r,k=>viewCK cs fun cs'=>viewLK r fun r'=>k (.agg cs'::r')
 | c::r,k=>viewAK c fun c'=>viewLK r fun r'=>k (c'::r')
def keysFrom (d:Nat):Nat→List AObj→List Nat
 | _,[]=>[]
 | i,_::r=>key d i::keysFrom d (i+1) r
def zipK:List Nat→List AObj→List (Nat × AObj)
 | k::ks,o::os=>(k,o)::zipK ks os
 | _,_=>[]
def addK (l:List Nat) (r:Nat):List Nat:=match mem l r with
 | true=>l
 | false=>l++[r]
mutual
def AV.keys (l:List Nat):AV→List Nat
 | .own r=>addK l r
 | .oel r _ _ _=>addK l r
 | .part r _ _=>addK l r
 | .head r _ _=>addK l r
 | .ptr r _=>addK l r
 | .agg cs=>keysL l cs
 | .tup cs=>keysL l cs
 | .fn _ cs ds=>keysL (keysL l cs) ds
 | _=>l
def keysL (l:List Nat):List AV→List Nat
 | []=>l
 | c::r=>keysL (AV.keys l c) r
end
def appK:List Nat→List Nat→List Nat
 | [],l=>l
 | x::r,l=>x::appK r l
def snocN:List Nat→Nat→List Nat
 | [],r=>[r]
 | x::l,r=>x::snocN l r
def addKK {β:Type} (l:List Nat) (r:Nat) (k:List Nat→β):β:=match mem l r with
 | true=>k l
 | false=>forceL (snocN l r) k
mutual
def keysVK {β:Type}:AV→List Nat→(List Nat→β)→β
 | .own r,l,k=>addKK l r k
 | .oel r _ _ _,l,k=>addKK l r k
 | .part r _ _,l,k=>addKK l r k
 | .head r _ _,l,k=>addKK l r k
 | .ptr r _,l,k=>addKK l r k
 | .agg cs,l,k=>keysLK cs l k
 | .tup cs,l,k=>keysLK cs l k
 | .fn _ cs ds,l,k=>keysLK cs l fun l=>keysLK ds l k
 | _,l,k=>k l
def keysLK {β:Type}:List AV→List Nat→(List Nat→β)→β
 | [],l,k=>k l
 | c::r,l,k=>keysVK c l fun l=>keysLK r l k
end
def keysOK {β:Type} (l:List Nat) (o:AObj) (k:List Nat→β):β:=match o with
 | .box cs=>keysLK cs l k
 | .yp j=>addKK l j k
 | .mmap _ _ _ _ (some (_,d))=>addKK l d k
 | _=>k l
def grow:Nat→List Nat→List Nat→RQ (List Nat)
 | 0,_,_=>.fail
 | _+1,[],all=>.ret all
 | n+1,r::pend,all=>.ask r fun o=>keysOK all o fun all'=>forceL (appK pend (dropL (lenL all) all')) fun pend'=>grow n pend' all'
def askAll:List Nat→RQ (List AObj)
 | []=>.ret []
 | r::l=>.ask r fun o=>(askAll l).bind fun os=>.ret (o::os)
def nodupK:List Nat→Bool
 | []=>true
 | k::r=>match mem r k with
   | true=>false
   | false=>nodupK r
def withinOs (p:Nat→Bool):List AObj→Bool
 | []=>true
 | .box cs::r=>match withinL p cs with
   | true=>withinOs p r
   | false=>false
 | .yp k::r=>match p k with
   | true=>withinOs p r
   | false=>false
 | .mit m _ _ _ _ _::r=>match p m with
   | true=>withinOs p r
   | false=>false
 | .pend m _ _ _ _::r=>match p m with
   | true=>withinOs p r
   | false=>false
 | .mmap _ _ _ _ (some (_,d))::r=>match p d with
   | true=>withinOs p r
   | false=>false
 | _::r=>withinOs p r
def toLoc:List Nat→Nat→Nat
 | [],_=>0
 | k::r,i=>match Nat.beq k i with
   | true=>0
   | false=>toLoc r i+1
def fromLoc (d:Nat):Nat→List Nat→Nat→Nat
 | j,[],i=>key d (j+i)
 | _,k::_,0=>k
 | j,_::r,i+1=>fromLoc d j r i
def mapRen (f:Nat→Nat):List AObj→List AObj
 | []=>[]
 | o::r=>o.ren f::mapRen f r
def evCall (S:Nat→Option Spec) (d:Nat) (f:Nat) (args:List AV):RQ Res :=
 match S f with
 | none=>.fail
 | some s=>match s.raw with
   | false=>viewLK args fun args0=>forceVL args0 fun args'=>match withinL (fun _=>false) args',s.f args' [] with
     | true,some o=>match o.al with
       | false=>.ret ⟨[o.pre],o.ret.ren (key d),zipK (keysFrom d 0 o.rows) (mapRen (key d) o.rows),keysFrom d 0 o.rows⟩
       | true=>.fail
     | _,_=>.fail
   | true=>keysLK args [] fun l=>(grow 60 l l).bind fun all=>(askAll all).bind fun objs =>
     match nodupK all,withinL (mem all) args,withinOs (mem all) objs,s.f (renL (toLoc all) args) (mapRen (toLoc all) objs) with
     | true,true,true,some o=>match takeL (lenL all) o.rows with
       | some _=>.ret ⟨[o.pre],o.ret.ren (fromLoc d 0 all),zipK (appK all (keysFrom d 0 (dropL (lenL all) o.rows))) (mapRen (fromLoc d 0 all) o.rows),keysFrom d 0 (dropL (lenL all) o.rows)⟩
       | none=>.fail
     | _,_,_,_=>.fail
def decY (t:Ty) (two:Bool) (args:List AV):Option t.El:=match two with
 | false=>match args with
   | [x]=>decV t x
   | _=>none
 | true=>match t,args with
   | .pair a b,[x,y]=>match decV a x,decV b y with
     | some u,some v=>some (u,v)
     | _,_=>none
   | _,_=>none
def seeA (x:AV):RQ AV:=match x with
 | .own r=>.ask r fun
   | .seq t xs=>.ret (.sl t xs)
   | _=>.fail
 | v=>.ret v
def seeC:List AV→RQ (List AV)
 | []=>.ret []
 | c::r=>(seeA c).bind fun c'=>(seeC r).bind fun r'=>.ret (c'::r')
def seeL:List AV→RQ (List AV)
 | []=>.ret []
 | .agg cs::r=>(seeC cs).bind fun cs'=>(seeL r).bind fun r'=>.ret (.agg cs'::r')
 | c::r=>(seeA c).bind fun c'=>(seeL r).bind fun r'=>.ret (c'::r')
def ownC:List AV→List Nat
 | []=>[]
 | .own r::l=>r::ownC l
 | _::l=>ownC l
def ownL:List AV→List Nat
 | []=>[]
 | .agg cs::r=>appK (ownC cs) (ownL r)
 | .own k::r=>k::ownL r
 | _::r=>ownL r
def deadL:List Nat→List (Nat × AObj)
 | []=>[]
 | k::r=>(k,.dead)::deadL r
def evYield (d r:Nat) (args:List AV):RQ Res:=.ask r fun
 | .yp k=>.ask k fun
   | .yld t two Y p=>(seeL args).bind fun args'=>match decY t two args',Nat.beq r k with
     | some x,false=>.ret ⟨[Y.ok (p++[x])],.bool (Y.cont (p++[x])),(r,.yp d)::(d,.yld t two Y (p++[x]))::(k,.dead)::deadL (ownL args),[d]⟩
     | _,_=>.fail
   | _=>.fail
 | _=>.fail
def evOp (tt:TT) (S:Nat→Option Spec) (get:Operand→AV) (d:Nat) (op:Op):RQ Res :=
 match op with
 | .move x=>b2 [] (get x)
 | .assign x=>b2 [] (get x)
 | .pick c a b=>match get c with
   | .bool t=>evPick a b t (get a) (get b)
   | _=>.fail
 | .alloc e=>match look tt.1 e with
   | some ti=>evNew d ti.zero.cells
   | none=>.fail
 | .box e v=>match look tt.1 e with
   | some ti=>match Nat.beq (lenL (get v).cells) ti.size with
     | true=>evNew d (get v).cells
     | false=>.fail
   | none=>.fail
 | .build t ps=>match look tt.1 t with
   | some ti=>evBuild ti (ps.toList.map fun p=>(p.1,get p.2))
   | none=>.fail
 | .buildSlice t n ps=>match look tt.1 t with
   | some ti=>evBuildK d ti n (ps.toList.map fun p=>(p.1,get p.2))
   | none=>.fail
 | .load t a=>match look tt.1 t with
   | some ti=>evLoadD d ti (get a)
   | none=>.fail
 | .store t a v=>match look tt.1 t with
   | some ti=>evStoreX ti (get v) (get a)
   | none=>.fail
 | .nilCheck x=>match get x with
   | .ptr r j=>b2 [] (.ptr r j)
   | .ext (.cref t xss j)=>b2 [] (.ext (.cref t xss j))
   | .el t xs i j=>b2 [] (.el t xs i j)
   | .ext (.opt t y)=>b2 [y.isSome=true] (.el t [y.getD t.dflt] 0 0)
   | _=>.fail
 | .convert s t x=>match look tt.1 s,look tt.1 t with
   | some si,some ti=>evConv si ti (get x)
   | _,_=>.fail
 | .binOp op t x y _=>evBinX tt.2.1 (look tt.1 t) op (get x) (get y)
 | .unOp op _ x=>match op,get x with
   | .not,.bool b=>b2 [] (.bool (!b))
   | .neg,.int k n=>arith tt.2.1 k (0 - n)
   | _,_=>.fail
 | .makeFunc (.func f) fs cs=>b2 [] (.fn f (fs.toList.map get) (cs.toList.map get))
 | .fieldAddr t x f=>match look tt.1 t with
   | some ti=>evFieldX ti f (get x)
   | none=>.fail
 | .field t x f=>match look tt.1 t with
   | some ti=>evFieldV ti f (get x)
   | none=>.fail
 | .indexAddr t x i=>match look tt.1 t,get i with
   | some ti,.int _ n=>evIndexAddrX ti (get x) n
   | _,_=>.fail
 | .index t x i=>match look tt.1 t,get i with
   | some ti,.int _ n=>evIndexX ti (get x) n
   | _,_=>.fail
 | .slice t x lo hi mx=>match look tt.1 t with
   | some ti=>match look tt.2.2 d,get x,lo,hi.map get,mx with
     | some _,.own r,none,some (.int _ n),none=>evHead ti r n
     | _,_,_,_,_=>evSliceX d ti (get x) (lo.map get) (hi.map get) (mx.map get)
   | none=>.fail
 | .makeSlice t l c=>match look tt.1 t,get l,get c with
   | some ti,.int _ n,.int _ m=>withC (m=n) (evMakeS d ti n)
   | _,_,_=>.fail
 | .makeMap t r=>match r,look tt.1 t with
   | none,some ti=>evMake d ti
   | _,_=>.fail
 | .mapUpdate t m x y=>match look tt.1 t with
   | some ti=>evUpdK S ti (get m) (get x) (get y)
   | none=>.fail
 | .insert t m x y=>match look tt.1 t with
   | some ti=>evUpdK S ti (get m) (get x) (get y)
   | none=>.fail
 | .lookup t m x ok=>match look tt.1 t with
   | some ti=>evLookup ti ok (get m) (get x)
   | none=>.fail
 | .mapEntry t m x=>match look tt.1 t with
   | some ti=>evEntryP d ti (get m) (get x)
   | none=>.fail
 | .entryStore _ m s y=>evEntryS (get m) (get s) (get y)
 | .range t x=>match look tt.1 t with
   | some ti=>evRangeM d ti (get x)
   | none=>.fail
 | .entry x=>evEntryM (get x)
 | .extract t i=>match get t with
   | .tup vs=>match nth vs i with
     | some v=>b2 [] v
     | none=>.fail
   | _=>.fail
 | .call c=>match c.callee with
   | .builtin .len=>match c.args.toList,c.argTypes.toList with
     | [x],[t]=>match look tt.1 t with
       | some ti=>evLen ti (get x).plain
       | none=>.fail
     | _,_=>.fail
   | .builtin .clear=>match c.args.toList,c.argTypes.toList with
     | [x],[t]=>match look tt.1 t with
       | some ti=>evClear ti (get x)
       | none=>.fail
     | _,_=>.fail
   | .builtin .copy=>match c.args.toList,c.argTypes.toList with
     | [x,y],[t,u]=>match Nat.beq t u,look tt.1 t with
       | true,some ti=>evCopy ti (get x) (get y)
       | _,_=>.fail
     | _,_=>.fail
   | .builtin .append=>match c.args.toList,c.argTypes.toList with
     | [s,x],[t,u]=>match Nat.beq t u,look tt.1 t with
       | true,some ti=>evAppendX d ti (get s) (get x)
       | false,some ti=>match look tt.1 u,get x with
         | some ui,.int .i64 n=>evAppendZ d ti ui (get s) n
         | some ui,.str x=>evAppendS d ti ui (get s) x
         | _,_=>.fail
       | _,_=>.fail
     | _,_=>.fail
   | .builtin .cap=>match c.args.toList,c.argTypes.toList with
     | [x],[t]=>match look tt.1 t,get x with
       | some ⟨_,_,_,.slice _ _ _ _,_⟩,.nilsl=>b2 [] (.int .i64 0)
       | _,_=>.fail
     | _,_=>.fail
   | .builtin .max=>match c.args.toList with
     | [x,y]=>match get x,get y with
       | .int k a,.int l b=>match kindEq k l with
         | true=>b2 [] (.int k (max a b))
         | false=>.fail
       | _,_=>.fail
     | _=>.fail
   | .builtin .min=>match c.args.toList with
     | [x,y]=>match get x,get y with
       | .int k a,.int l b=>match kindEq k l with
         | true=>b2 [] (.int k (min a b))
         | false=>.fail
       | _,_=>.fail
     | _=>.fail
   | .value f=>match get f with
     | .fn f fs cs=>evCall S d f (fs++(c.args.toList.map get++cs))
     | .ext e=>evFn e (c.args.toList.map get)
     | .own r=>evYield d r (c.args.toList.map get)
     | _=>.fail
   | _=>.fail
 | _=>.fail
def ofConst:Value→AV
 | .int k n=>.int k n
 | .bool b=>.bool b
 | .string s=>.str s
 | .slice none 0 0=>.nilsl
 | .pointer none=>.nilptr
 | .nilFunc=>.nilfn
 | .map none=>.ext .nilm
 | _=>.junk
def St.ent (st:St) (t:Nat):Ent:=match look st.slots t with
 | some e=>e
 | none=>⟨[],.junk⟩
def St.get (st:St):Operand→AV
 | .tmp t=>(st.ent t).av
 | .const v=>ofConst v
 | .func f=>.fn f [] []
 | .global _=>.junk
def pathEq:List (Nat × Bool)→List (Nat × Bool)→Bool
 | [],[]=>true
 | (a,x)::r,(b,y)::s=>match Nat.beq a b,(x == y) with
   | true,true=>pathEq r s
   | _,_=>false
 | _,_=>false
def isTail (p:List (Nat × Bool)):List (Nat × Bool)→Bool
 | []=>pathEq p []
 | x::q=>match pathEq p (x::q) with
   | true=>true
   | false=>isTail p q
def St.pathOf (st:St):Operand→List (Nat × Bool)
 | .tmp t=>(st.ent t).path
 | _=>[]
def allTail (st:St) (p:List (Nat × Bool)):List Operand→Bool
 | []=>true
 | x::r=>match isTail (st.pathOf x) p with
   | true=>allTail st p r
   | false=>false
def opList:Op→List Operand
 | .move x=>[x]
 | .assign x=>[x]
 | .box _ x=>[x]
 | .load _ x=>[x]
 | .nilCheck x=>[x]
 | .unOp _ _ x=>[x]
 | .fieldAddr _ x _=>[x]
 | .field _ x _=>[x]
 | .extract x _=>[x]
 | .range _ x=>[x]
 | .entry x=>[x]
 | .build _ ps=>ps.toList.map (·.2)
 | .buildSlice _ _ ps=>ps.toList.map (·.2)
 | .store _ a v=>[a,v]
 | .binOp _ _ a v _=>[a,v]
 | .indexAddr _ a v=>[a,v]
 | .index _ a v=>[a,v]
 | .makeFunc _ fs cs=>fs.toList++cs.toList
 | .slice _ x lo hi mx=>x::(lo.toList++(hi.toList++mx.toList))
 | .convert _ _ x=>[x]
 | .mapUpdate _ m x y=>[m,x,y]
 | .mapEntry _ m x=>[m,x]
 | .entryStore _ m s y=>[m,s,y]
 | .insert _ m x y=>[m,x,y]
 | .lookup _ m x _=>[m,x]
 | .makeSlice _ l c=>[l,c]
 | .call c=>match c.callee with
   | .value f=>f::c.args.toList
   | _=>c.args.toList
 | _=>[]
def opsOk (st:St) (p:List (Nat × Bool)):Op→Bool
 | .pick (.tmp c) a b=>match isTail (st.pathOf (.tmp c)) p,isTail (st.pathOf a) ((c,true)::p),isTail (st.pathOf b) ((c,false)::p) with
   | true,true,true=>true
   | _,_,_=>false
 | .pick _ _ _=>false
 | op=>allTail st p (opList op)
def St.pathAt (st:St) (ops:List Oper):Option (Nat × Bool)→Option (List (Nat × Bool))
 | none=>some []
 | some (j,w)=>match nth ops j with
   | some o=>match o.dst with
     | some t=>match (st.ent t).av with
       | .bool _=>some ((t,w)::(st.ent t).path)
       | _=>none
     | none=>none
   | none=>none
def underP (st:St):List (Nat × Bool)→Prop→Prop
 | [],c=>c
 | (t,w)::r,c=>underP st r (match isTail (st.ent t).path r,(st.ent t).av with
   | true,.bool b=>b=w→c
   | _,_=>False)
def mapUnder (st:St) (p:List (Nat × Bool)):List Prop→List Prop
 | []=>[]
 | c::r=>underP st p c::mapUnder st p r
def underK {β:Type} (st:St):List (Nat × Bool)→Prop→(Prop→β)→β
 | [],c,k=>k c
 | (t,w)::r,c,k=>match isTail (st.ent t).path r,(st.ent t).av with
   | true,.bool b=>underK st r (b=w→c) k
   | _,_=>underK st r False k
def mapUnderK {β:Type} (st:St) (p:List (Nat × Bool)):List Prop→(List Prop→β)→β
 | [],k=>k []
 | c::r,k=>underK st p c fun c'=>mapUnderK st p r fun r'=>k (c'::r')
def addRows:List (Nat × AObj)→List (Nat × AObj)→List (Nat × AObj)
 | [],l=>l
 | x::r,l=>x::addRows r l
def passed:Nat:=100000
def freshAll (ks:List Nat):List Nat→Bool
 | []=>true
 | k::r=>match mem ks k,mem r k,Nat.blt k 100000 with
   | false,false,true=>freshAll ks r
   | _,_,_=>false
def gtOf:List (Nat × Bool)→List Nat→List Nat
 | [],l=>l
 | (t,_)::_,l=>t::l
structure Tr where
 rd:List Nat
 wr:List Nat
def keysOf:List (Nat × AObj)→List Nat
 | []=>[]
 | (k,_)::r=>k::keysOf r
def deads:List (Nat × AObj)→List (Nat × AObj)
 | []=>[]
 | (k,_)::r=>(k,.dead)::deads r
def allIn (ks:List Nat):List Nat→Bool
 | []=>true
 | k::r=>match mem ks k with
   | true=>allIn ks r
   | false=>false
def litAll (st:St):List (Nat × Bool)→Bool
 | []=>true
 | (t,w)::r=>match isTail (st.ent t).path r,(st.ent t).av,w with
   | true,.bool true,true=>litAll st r
   | true,.bool false,false=>litAll st r
   | _,_,_=>false
def litNo (hs:List (Nat × Bool)) (st:St):List (Nat × Bool)→Bool
 | []=>false
 | (t,w)::r=>match look hs t with
   | none=>litNo hs st r
   | some _=>match isTail (st.ent t).path r,(st.ent t).av,w with
     | true,.bool true,false=>true
     | true,.bool false,true=>true
     | _,_,_=>litNo hs st r
def allHint (hs:List (Nat × Bool)):List (Nat × Bool)→Bool
 | []=>true
 | (t,_)::r=>match look hs t with
   | none=>false
   | some _=>allHint hs r
def litYes (hs:List (Nat × Bool)) (st:St) (p:List (Nat × Bool)):Bool:=match allHint hs p with
 | true=>litAll st p
 | false=>false
def pinR (x:Bool):Res→RQ Res
 | ⟨cs,.bool b,upd,new⟩=>.ret ⟨(b=x)::cs,.bool x,upd,new⟩
 | r=>.ret r
def pin (hs:List (Nat × Bool)) (d:Nat) (q:RQ Res):RQ Res:=match look hs d with
 | none=>q
 | some x=>q.bind (pinR x)
def evAt (tt:TT) (S:Nat→Option Spec) (no:Bool) (get:Operand→AV) (op:Op) (dst:Option Nat):RQ Res:=match no with
 | true=>.ret ⟨[],.junk,[],[]⟩
 | false=>match dst with
   | some d=>pin tt.2.2 d (evOp tt S get d op)
   | none=>evOp tt S get 65535 op
def stepO {β:Type} (tt:TT) (S:Nat→Option Spec) (ops:List Oper) (o:Oper) (st:St) (k:List Prop→St→Tr→Option β):Option β :=
 match st.pathAt ops o.guard with
 | none=>none
 | some p => forceL p fun p=>match opsOk st p o.op,(evAt tt S (litNo tt.2.2 st p) st.get o.op o.dst).run (look st.rows) [] with
   | true,some (⟨cs,av,upd,new⟩,rd)=>forceV av fun av=>forceR upd fun upd=>forceL new fun new=>match st with
     | ⟨n,slots,gt,ks,rows⟩=>match freshAll ks new,p,upd with
       | true,[],_=>match o.dst with
         | none=>forceL (appK new ks) fun ks'=>forceL (addRows upd rows) fun rows'=>k cs ⟨n,slots,gt,ks',rows'⟩ ⟨rd,appK new (keysOf upd)⟩
         | some d=>match mem gt d,Nat.blt d n with
           | false,true=>forceL (appK new ks) fun ks'=>forceL (addRows upd rows) fun rows'=>k cs ⟨n,(d,⟨[],av⟩)::slots,gt,ks',rows'⟩ ⟨rd,appK new (keysOf upd)⟩
           | _,_=>none
       | true,_::_,_=>match litYes tt.2.2 ⟨n,slots,gt,ks,rows⟩ p,o.dst with
        | true,some d=>match mem gt d,Nat.blt d n with
         | false,true=>forceL (appK new ks) fun ks'=>forceL (addRows upd rows) fun rows'=>k cs ⟨n,(d,⟨[],av⟩)::slots,gt,ks',rows'⟩ ⟨rd,appK new (keysOf upd)⟩
         | _,_=>none
        | _,_=>match new with
         | []=>match o.dst,allIn (appK new ks) (keysOf upd) with
           | some d,true=>match mem (gtOf p gt) d,Nat.blt d n with
             | false,true=>mapUnderK ⟨n,slots,gt,ks,rows⟩ p cs fun cs'=>forceL (appK new ks) fun ks'=>forceL (addRows (deads upd) rows) fun rows'=>k cs' ⟨n,(d,⟨p,av⟩)::slots,gtOf p gt,ks',rows'⟩ ⟨rd,appK new (keysOf upd)⟩
             | _,_=>none
           | _,_=>none
         | _::_=>match litAll ⟨n,slots,gt,ks,rows⟩ p,o.dst with
           | true,some d=>match mem gt d,Nat.blt d n with
             | false,true=>forceL (appK new ks) fun ks'=>forceL (addRows upd rows) fun rows'=>k cs ⟨n,(d,⟨[],av⟩)::slots,gt,ks',rows'⟩ ⟨rd,appK new (keysOf upd)⟩
             | _,_=>none
           | _,_=>none
       | _,_,_=>none
   | _,_=>none
def appP:List Prop→List Prop→List Prop
 | [],l=>l
 | x::r,l=>x::appP r l
def runO {β:Type} (tt:TT) (S:Nat→Option Spec) (ops:List Oper):List Oper→St→List Prop→List Tr→(List Prop→St→List Tr→Option β)→Option β
 | [],st,cs,ts,k=>k cs st ts
 | o::r,st,cs,ts,k=>stepO tt S ops o st fun c st' t=>forceL (appP cs c) fun cs'=>runO tt S ops r st' cs' (t::ts) k
def dropPaths:List Nat→List (Nat × Ent)→List (Nat × Ent)
 | _,[]=>[]
 | dr,(t,e)::r=>match e.path with
   | []=>match mem dr t with
     | true=>dropPaths dr r
     | false=>(t,e)::dropPaths dr r
   | _::_=>dropPaths (t::dr) r
def St.done {β:Type} (st:St) (k:St→β):β:=match st with
 | ⟨n,slots,gt,ks,rows⟩=>match gt with
   | []=>k ⟨n,slots,[],ks,rows⟩
   | _::_=>forceL (dropPaths [] slots) fun slots'=>k ⟨n,slots',[],ks,rows⟩
def allP:List Prop→Prop→Prop
 | [],q=>q
 | p::r,q=>p∧allP r q
def disj (a b:List Nat):Bool:=match a with
 | []=>true
 | x::r=>match mem b x with
   | true=>false
   | false=>disj r b
def indep (a b:Tr):Bool:=match disj a.wr b.rd,disj a.wr b.wr,disj a.rd b.wr with
 | true,true,true=>true
 | _,_,_=>false
def waitsAny (o:Oper) (l:List Nat):Bool:=o.after.toList.any fun e=>Region.binds .any e&&mem l e.on
def apartL (ops:List Oper) (x y:Oper):Bool:=Oper.apart ops.toArray x y
def isIntMap (tt:TT) (t:Nat):Bool:=match look tt.1 t with
 | some ti=>match ti.d with
   | .map (.int _) _ _=>true
   | _=>false
 | none=>false
def insPair (tt:TT) (x y:Oper):Bool:=match x.op,y.op with
 | .insert t (.tmp m) (.const (.int _ n)) _,.insert t' (.tmp m') (.const (.int _ n')) _=>match x.guard,x.dst,y.guard,y.dst,Nat.beq t t',Nat.beq m m',isIntMap tt t,decide (n=n') with
   | none,none,none,none,true,true,true,false=>true
   | _,_,_,_,_,_,_,_=>false
 | _,_=>false
def insIndep (a b:Tr):Bool:=match a.rd,a.wr,b.rd,b.wr with
 | r::fx,_::mx,_::fy,_::my=>!mem fx r&&!mem fy r&&!mem mx r&&!mem my r&&disj mx fy&&disj mx my&&disj my fx
 | _,_,_,_=>false
def indepX (tt:TT) (x y:Oper) (tx ty:Tr):Bool:=match indep tx ty with
 | true=>true
 | false=>match insPair tt x y with
   | true=>insIndep tx ty
   | false=>false
def freeFrom (tt:TT) (ops:List Oper) (x:Oper) (tx:Tr) (wl:List Nat) (j:Nat):List Oper→List Tr→Bool
 | [],[]=>true
 | y::r,ty::s=>match waitsAny y wl with
   | true=>freeFrom tt ops x tx (j::wl) (j+1) r s
   | false=>match apartL ops x y,indepX tt x y tx ty with
     | true,true=>freeFrom tt ops x tx wl (j+1) r s
     | _,_=>false
 | _,_=>false
def freeAll (tt:TT) (ops:List Oper):Nat→List Oper→List Tr→Bool
 | _,[],[]=>true
 | k,x::r,tx::s=>match freeFrom tt ops x tx [k] (k+1) r s with
   | true=>freeAll tt ops (k+1) r s
   | false=>false
 | _,_,_=>false
def readyAll:Nat→List Oper→Bool
 | _,[]=>true
 | k,o::r=>match o.after.toList.all fun e=>!Region.binds .any e||Nat.blt e.on k with
   | true=>readyAll (k+1) r
   | false=>false
def noSel:List Oper→Bool
 | []=>true
 | o::r=>match o.op with
   | .select _ _=>false
   | _=>noSel r
def revT:List Tr→List Tr→List Tr
 | [],l=>l
 | x::r,l=>revT r (x::l)
def drawOk (tt:TT) (draw:Bool) (ops:List Oper) (ts:List Tr):Bool:=match draw with
 | false=>true
 | true=>match noSel ops,readyAll 0 ops with
   | true,true=>freeAll tt ops 0 ops (revT ts [])
   | _,_=>false
inductive AExit where
 | normal
 | exit (id:Nat)
 | ret
def subSlots (st:St):List (Nat × Ent)→Prop
 | []=>True
 | (t,e)::r=>look st.slots t=some e∧subSlots st r
def subRows (st:St):List (Nat × AObj)→Prop
 | []=>True
 | (k,o)::r=>look st.rows k=some o∧subRows st r
def withinSlots (p:Nat→Bool):List (Nat × Ent)→Bool
 | []=>true
 | (_,e)::r=>match AV.within p e.av with
   | true=>withinSlots p r
   | false=>false
def withinRows (p:Nat→Bool):List (Nat × AObj)→Bool
 | []=>true
 | (k,.box cs)::r=>match p k,withinL p cs with
   | true,true=>withinRows p r
   | _,_=>false
 | (k,.yp j)::r=>match p k,p j with
   | true,true=>withinRows p r
   | _,_=>false
 | (k,.mit j _ _ _ _ _)::r=>match p k,p j with
   | true,true=>withinRows p r
   | _,_=>false
 | (k,.pend j _ _ _ _)::r=>match p k,p j with
   | true,true=>withinRows p r
   | _,_=>false
 | (k,.mmap _ _ _ _ (some (_,j)))::r=>match p k,p j with
   | true,true=>withinRows p r
   | _,_=>false
 | (k,_)::r=>match p k with
   | true=>withinRows p r
   | false=>false
def subKs (st:St):List Nat→Bool
 | []=>true
 | k::r=>match mem st.ks k with
   | true=>subKs st r
   | false=>false
structure Sub (st m:St):Prop where
 n:m.n=st.n
 gt:m.gt=[]
 gt0:st.gt=[]
 slots:subSlots st m.slots
 rows:subRows st m.rows
 ks:subKs st m.ks=true
 inSlots:withinSlots (mem m.ks) m.slots=true
 inRows:withinRows (mem m.ks) m.rows=true
mutual
def expV (src:Nat→Option (Option Nat)):AV→AV→Prop
 | .own i,x=>match x,src i with
   | .own k,some (some k')=>k'=k
   | .nilsl,some none=>True
   | _,_=>False
 | .ptr i j,x=>match x,src i with
   | .ptr k j',some (some k')=>k'=k∧j=j'
   | _,_=>False
 | .agg cs,x=>match x with
   | .agg ds=>expL src cs ds
   | _=>False
 | .tup cs,x=>match x with
   | .tup ds=>expL src cs ds
   | _=>False
 | .int k n,x=>.int k n=x
 | .bool b,x=>.bool b=x
 | .str s,x=>.str s=x
 | .sl t xs,x=>match x with
   | .nilsl=>xs=[]
   | x=>.sl t xs=x
 | .nilsl,x=>.nilsl=x
 | .nilptr,x=>.nilptr=x
 | .ext .any,x=>x.cell=true
 | .ext e,x=>.ext e=x
 | .el t xs i j,x=>.el t xs i j=x
 | .junk,_=>True
 | .fn f cs ds,x=>match x with
   | .fn g cs' ds'=>f=g∧expL src cs cs'∧expL src ds ds'
   | _=>False
 | _,_=>False
def expL (src:Nat→Option (Option Nat)):List AV→List AV→Prop
 | [],[]=>True
 | c::cs,d::ds=>expV src c d∧expL src cs ds
 | _,_=>False
end
def nilsOf {α:Type}:List AV→List (List α)→Prop
 | [],[]=>True
 | .nilsl::ds,[]::xss=>nilsOf ds xss
 | _,_=>False
def expO (src:Nat→Option (Option Nat)):AObj→AObj→Prop
 | .box cs,x=>match x with
   | .box ds=>expL src cs ds
   | _=>False
 | .seq t xs,x=>.seq t xs=x
 | .arr t xss h,x=>match x with
   | .box ds=>h=none∧nilsOf ds xss
   | x=>.arr t xss h=x
 | .map k v l,x=>.map k v l=x
 | .yp i,x=>match x with
   | .yp k=>(match src i with
     | some (some k')=>k'=k
     | _=>False)
   | _=>False
 | .yld t two Y p,x=>.yld t two Y p=x
 | .mit0,x=>.mit0=x
 | .bld T e u l,x=>.bld T e u l=x
 | .bag t xs,x=>match x with
   | .seq u ys=>∃ h:u=t,(Ty.castL h ys).Perm xs
   | .bag u ys=>∃ h:u=t,(Ty.castL h ys).Perm xs
   | _=>False
 | .pend m k v kvs j,x=>match x with
   | .pend m' k' v' kvs' j'=>AObj.pend 0 k v kvs j=.pend 0 k' v' kvs' j'∧(match src m with
     | some (some q)=>q=m'
     | _=>False)
   | _=>False
 | .mmap k a b kvss none,x=>.mmap k a b kvss none=x
 | .mmap k a b kvss (some (j,d)),x=>match x with
   | .mmap k' a' b' kvss' (some (j',d'))=>AObj.mmap k a b kvss (some (j,0))=.mmap k' a' b' kvss' (some (j',0))∧(match src d with
     | some (some q)=>q=d'
     | _=>False)
   | _=>False
 | .mit m k v kvs cur G,x=>match x with
   | .mit m' k' v' kvs' cur' G'=>AObj.mit 0 k v kvs cur G=.mit 0 k' v' kvs' cur' G'∧(match src m with
     | some (some q)=>q=m'
     | _=>False)
   | _=>False
 | .dead,_=>True
def expRow (st:St) (src:Nat→Option (Option Nat)) (i:Nat) (o:AObj):Prop :=
 match src i with
 | some (some k)=>match look st.rows k with
   | some o'=>expO src o o'
   | none=>match o with
     | .dead=>True
     | _=>False
 | some none=>match o with
   | .seq _ xs=>xs=[]
   | .dead=>True
   | _=>False
 | none=>False
def someK:List (Option Nat)→List Nat
 | []=>[]
 | some k::r=>k::someK r
 | none::r=>someK r
def slotsX (st:St) (src:Nat→Option (Option Nat)):List (Nat × Ent)→Prop
 | []=>True
 | (t,e)::r=>(match e.path with
   | []=>match look st.slots t with
     | some ⟨[],v⟩=>expV src e.av v
     | _=>False
   | _::_=>False)∧slotsX st src r
def rowsX (st:St) (src:Nat→Option (Option Nat)):List (Nat × AObj)→Prop
 | []=>True
 | (k,o)::r=>expRow st src k o∧rowsX st src r
def fstL:List (Nat × Option Nat)→List Nat
 | []=>[]
 | (k,_)::r=>k::fstL r
def sndL:List (Nat × Option Nat)→List (Option Nat)
 | []=>[]
 | (_,k)::r=>k::sndL r
def ksX (st:St):List (Nat × Option Nat)→Bool
 | []=>true
 | (k,x)::r=>match (match x with
    | some k'=>mem st.ks k'
    | none=>true),Nat.blt k 100000||(match x with
    | some k'=>Nat.beq k' k
    | none=>false) with
   | true,true=>ksX st r
   | _,_=>false
structure SubX (st m:St) (L:List (Nat × Option Nat)):Prop where
 n:m.n=st.n
 gt:m.gt=[]
 gt0:st.gt=[]
 slots:slotsX st (look L) m.slots
 rows:rowsX st (look L) m.rows
 ks:m.ks=fstL L
 keys:ksX st L=true
 nodup:nodupK (someK (sndL L))=true
inductive SubA (st m:St):Prop where
 | same:Sub st m→SubA st m
 | ren (L:List (Nat × Option Nat)):SubX st m L→SubA st m
def LoopVC (W:St→(AExit→St→Prop)→Prop) (st:St) (Q:AExit→St→Prop):Prop :=
 ∃ (σ:Type) (mk:σ→St) (I:σ→Prop) (μ:σ→Nat) (s₀:σ),I s₀∧SubA st (mk s₀) ∧
  ∀ s,I s→W (mk s) fun e st'=>match e with
   | .normal=>∃ s',I s'∧μ s' < μ s∧SubA st' (mk s')
   | e=>Q e st'
def branch (b:Bool) (x y:Prop):Prop:=(b=true→x)∧(b=false→y)
def wp (tt:TT) (S:Nat→Option Spec):Code→St→(AExit→St→Prop)→Prop
 | .skip,st,Q=>Q .normal st
 | .label _,st,Q=>Q .normal st
 | .region _ ops draw,st,Q=>match runO tt S ops.toList ops.toList st [] [] fun cs st' ts=>match drawOk tt draw ops.toList ts with
    | true=>some (allP cs (st'.done fun st'=>Q .normal st'))
    | false=>none with
   | some p=>p
   | none=>False
 | .seq a b,st,Q=>wp tt S a st fun e st'=>match e with
   | .normal=>wp tt S b st' Q
   | e=>Q e st'
 | .cond c a b,st,Q=>match st.pathOf c,st.get c with
   | [],.bool t=>branch t (wp tt S a st Q) (wp tt S b st Q)
   | _,_=>False
 | .block id c,st,Q=>wp tt S c st fun e st'=>match e with
   | .exit i=>match Nat.beq i id with
     | true=>Q .normal st'
     | false=>Q (.exit i) st'
   | e=>Q e st'
 | .loop c,st,Q=>LoopVC (wp tt S c) st Q
 | .exit id,st,Q=>Q (.exit id) st
 | .scope c,st,Q=>wp tt S c st Q
 | .ret,st,Q=>Q .ret st
 | _,_,_=>False
def slotsOf:Nat→List AV→List (Nat × Ent)
 | _,[]=>[]
 | i,v::r=>(i,⟨[],v⟩)::slotsOf (i+1) r
def upTo:Nat→Nat→List Nat
 | 0,_=>[]
 | n+1,i=>i::upTo n (i+1)
def rowsOf:Nat→List AObj→List (Nat × AObj)
 | _,[]=>[]
 | i,o::r=>(i,o)::rowsOf (i+1) r
def St.init (n:Nat) (args:List AV) (rows:List AObj):St:=⟨n,slotsOf 0 (renL (100000+·) args),[],upTo (lenL rows) 100000,rowsOf 100000 (mapRen (100000+·) rows)⟩
def resOf (tt:TT) (st:St):ResultVar→Option AV
 | .tmp t=>match look st.slots t with
   | some ⟨[],v⟩=>some v
   | _=>none
 | .cell t ty=>match look st.slots t,look tt.1 ty with
   | some ⟨[],.ptr r 0⟩,some ti=>match look st.rows r with
     | some (.box cs)=>match (loadC ti cs 0).run (fun _=>none) [] with
       | some (⟨_,v,_,_⟩,_)=>some v
       | none=>none
     | _=>none
   | _,_=>none
def resL (tt:TT) (st:St):List ResultVar→Option (List AV)
 | []=>some []
 | x::r=>match resOf tt st x,resL tt st r with
   | some v,some vs=>some (v::vs)
   | _,_=>none
def tupOf:List AV→AV
 | [v]=>v
 | vs=>.tup vs
def srcOf (m:Nat) (news:List (Option Nat)) (i:Nat):Option (Option Nat):=match Nat.blt i m with
 | true=>some (some (100000+i))
 | false=>nth news (i - m)
def expRows (st:St) (src:Nat→Option (Option Nat)):Nat→List AObj→Prop
 | _,[]=>True
 | i,o::r=>expRow st src i o∧expRows st src (i+1) r
def newsOk (st:St) (news:List (Option Nat)):Bool:=match nodupK (someK news) with
 | true=>(someK news).all fun k=>Nat.blt k 100000&&mem st.ks k
 | false=>false
def Ty.flat:Ty→Bool
 | .slice _=>false
 | .fn1 _ _=>false
 | .fn2 _ _=>false
 | .opt _=>false
 | .pair a b=>match a.flat with
   | true=>b.flat
   | false=>false
 | _=>true
mutual
def naV:AV→Bool
 | .sl _ _=>false
 | .el _ _ _ _=>false
 | .fn _ _ _=>false
 | .ext .any=>true
 | .ext _=>false
 | .agg cs=>naL cs
 | .tup cs=>naL cs
 | _=>true
def naL:List AV→Bool
 | []=>true
 | c::r=>match naV c with
   | true=>naL r
   | false=>false
end
def naRows:List AObj→Bool
 | []=>true
 | .seq t _::r=>match t.flat with
   | true=>naRows r
   | false=>false
 | .arr t _ _::r=>match t.flat with
   | true=>naRows r
   | false=>false
 | .dead::r=>naRows r
 | .map _ _ _::_=>false
 | .yp _::_=>false
 | .yld _ _ _ _::_=>false
 | .mit _ _ _ _ _ _::_=>false
 | .mit0::_=>false
 | .bld _ _ _ _::_=>false
 | .bag _ _::_=>false
 | .pend _ _ _ _ _::_=>false
 | .mmap _ _ _ _ _::_=>false
 | .box _::_=>false
structure Fin (tt:TT) (rv:List ResultVar) (m:Nat) (out:Out) (st:St) (news:List (Option Nat)) (vs:List AV):Prop where
 res:resL tt st rv=some vs
 gt:st.gt=[]
 ret:expV (srcOf m news) out.ret (tupOf vs)
 rows:expRows st (srcOf m news) 0 out.rows
 len:lenL out.rows=m+lenL news
 news:newsOk st news=true
 pas:(upTo m 100000).all (mem st.ks)=true
 na:out.al=false→m=0∧naV out.ret=true∧naRows out.rows=true
end Go.AM
end
