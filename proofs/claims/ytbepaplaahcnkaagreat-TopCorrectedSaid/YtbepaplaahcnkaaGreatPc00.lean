/- AmDefs. -/
import Derived.ProofKit
import Derived.Laws.AppendOwn
import Derived.Laws.CopyRow
import Derived.Orders
import Derived.KernelRfl
import Derived.Laws.Bits64b
import Derived.RangeFuncSeq
import Derived.Test.YtbepaplaahcnkaaGreatChecked

section
set_option linter.all false
namespace Go.AM
noncomputable abbrev PG:Program:=Go.Proofs.Tryz.prog
inductive Ty where
 | int (k:IntKind)
 | bool
 | str
 | unit
 | pair (a b:Ty)
 | slice (t:Ty)
 | fn1 (a r:Ty)
 | fn2 (a r:Ty)
 | opt (t:Ty)
 | code
@[reducible] def Ty.El:Ty→Type
 | .int _=>Int
 | .bool=>Bool
 | .str=>ByteArray
 | .unit=>Unit
 | .pair a b=>a.El × b.El
 | .slice t=>List t.El
 | .fn1 a r=>a.El→r.El
 | .fn2 a r=>a.El→a.El→r.El
 | .opt t=>Option t.El
 | .code=>Nat
def Ty.dflt:(t:Ty)→t.El
 | .int _=>(0:Int)
 | .bool=>false
 | .str=>ByteArray.empty
 | .unit=>()
 | .pair a b=>(a.dflt,b.dflt)
 | .slice _=>[]
 | .fn1 _ r=>fun _=>r.dflt
 | .fn2 _ r=>fun _ _=>r.dflt
 | .opt _=>none
 | .code=>(0:Nat)
def Ty.size:Ty→Nat
 | .int _=>1
 | .bool=>1
 | .str=>1
 | .unit=>0
 | .pair a b=>a.size+b.size
 | .slice _=>1
 | .fn1 _ _=>1
 | .fn2 _ _=>1
 | .opt _=>1
 | .code=>1
def kindBytes:IntKind→Nat
 | .i8=>1
 | .u8=>1
 | .i16=>2
 | .u16=>2
 | .i32=>4
 | .u32=>4
 | .i64=>8
 | .u64=>8
def Ty.bytes:Ty→Nat
 | .int k=>kindBytes k
 | .bool=>1
 | .str=>16
 | .unit=>0
 | .pair a b=>a.bytes+b.bytes
 | .slice _=>24
 | .fn1 _ _=>8
 | .fn2 _ _=>8
 | .opt _=>8
 | .code=>8
def kindEq:IntKind→IntKind→Bool
 | .i8,.i8=>true
 | .u8,.u8=>true
 | .i16,.i16=>true
 | .u16,.u16=>true
 | .i32,.i32=>true
 | .u32,.u32=>true
 | .i64,.i64=>true
 | .u64,.u64=>true
 | _,_=>false
theorem kindEq_eq:∀ {a b:IntKind},kindEq a b=true→a=b:=by
 intro a b h
 cases a <;> cases b <;> first|rfl|(simp [kindEq] at h)
def Ty.same:(a b:Ty)→Option (PLift (a=b))
 | .int k,.int l=>if h:kindEq k l=true then some ⟨by rw [kindEq_eq h]⟩ else none
 | .bool,.bool=>some ⟨rfl⟩
 | .str,.str=>some ⟨rfl⟩
 | .unit,.unit=>some ⟨rfl⟩
 | .pair a b,.pair c d=>match Ty.same a c,Ty.same b d with
   | some ⟨h⟩,some ⟨k⟩=>some ⟨by rw [h,k]⟩
   | _,_=>none
 | .slice a,.slice b=>match Ty.same a b with
   | some ⟨h⟩=>some ⟨by rw [h]⟩
   | none=>none
 | .fn1 a b,.fn1 c d=>match Ty.same a c,Ty.same b d with
   | some ⟨h⟩,some ⟨k⟩=>some ⟨by rw [h,k]⟩
   | _,_=>none
 | .fn2 a b,.fn2 c d=>match Ty.same a c,Ty.same b d with
   | some ⟨h⟩,some ⟨k⟩=>some ⟨by rw [h,k]⟩
   | _,_=>none
 | .opt a,.opt b=>match Ty.same a b with
   | some ⟨h⟩=>some ⟨by rw [h]⟩
   | none=>none
 | .code,.code=>some ⟨rfl⟩
 | _,_=>none
def Ty.castL {a b:Ty} (h:a=b) (xs:List a.El):List b.El:=h ▸ xs
def castK {β:Type} {a b:Ty} (h:a=b) (xs:List a.El) (k:List b.El→β):β:=Eq.rec (motive:=fun c _=>(List c.El→β)→β) (fun k=>k xs) h k
theorem castK_eq {β:Type} {a b:Ty} (h:a=b) (xs:List a.El) (k:List b.El→β):castK h xs k=k (Ty.castL h xs):=by subst h;rfl
def castE {β:Type} {a b:Ty} (h:a=b) (x:a.El) (k:b.El→β):β:=Eq.rec (motive:=fun c _=>(c.El→β)→β) (fun k=>k x) h k
inductive Ext where
 | nn (t:Ty) (xs:List t.El)
 | cref (t:Ty) (xss:List (List t.El)) (j:Nat)
 | cvals (t:Ty) (xss:List (List t.El))
 | full (t:Ty) (xs:List t.El)
 | nl (t:Ty)
 | fn1 (a r:Ty) (c:a.El→r.El)
 | fn2 (a r:Ty) (c:a.El→a.El→r.El)
 | opt (t:Ty) (y:Option t.El)
 | nilm
 | mnil (b:Bool)
 | any
inductive AV where
 | int (k:IntKind) (n:Int)
 | bool (b:Bool)
 | str (s:ByteArray)
 | sl (t:Ty) (xs:List t.El)
 | el (t:Ty) (xs:List t.El) (i j:Nat)
 | own (r:Nat)
 | oel (r sz i j:Nat)
 | part (r sz l:Nat)
 | head (r sz h:Nat)
 | ptr (r j:Nat)
 | agg (cs:List AV)
 | tup (vs:List AV)
 | fn (f:Nat) (first cap:List AV)
 | nilsl
 | nilptr
 | nilfn
 | ext (e:Ext)
 | junk
structure YD (t:Ty) where
 ok:List t.El→Prop
 cont:List t.El→Bool
 J:List t.El→(Nat→Prop)→(Nat→Prop)→World→Prop
structure MitG where
 es:Array MapEntry
 clock:Nat
 since:Nat
 seen:Array Nat
 c0:Nat
inductive AObj where
 | box (cs:List AV)
 | seq (t:Ty) (xs:List t.El)
 | arr (t:Ty) (xss:List (List t.El)) (hole:Option Nat)
 | map (k v:Ty) (kvs:List (k.El × v.El))
 | yp (k:Nat)
 | yld (t:Ty) (two:Bool) (Y:YD t) (p:List t.El)
 | mit (m:Nat) (k v:Ty) (kvs:List (k.El × v.El)) (cur:Option (k.El × v.El)) (G:Option MitG)
 | mit0
 | pend (m:Nat) (k v:Ty) (kvs:List (k.El × v.El)) (j:Nat)
 | mmap (k a b:Ty) (kvss:List (k.El × List (a.El × b.El))) (h:Option (Nat × Nat))
 | bld (T e:Nat) (u:Bool) (l:List Int)
 | bag (t:Ty) (xs:List t.El)
 | dead
def blkOf:Value→Option Nat
 | .slice (some a) _ (_+1)=>some a.block
 | _=>none
def ownsSeq (w:World) (e:TypeId) (size:Nat) (v:Value) (n:Nat) (xs:List Value):Prop :=
 xs.length=n * size ∧
 ((∃ a,v=.slice a 0 0∧n=0) ∨
  ∃ g cap cur,v=.slice (some ⟨g,0,none⟩) n cap∧0 < cap∧w.heap[g]?=some (.cells cur e (0,0))∧n≤cap∧cap≤maxLen∧cur.size=cap * size∧cur.toList.take (n * size)=xs)
structure Gh where
 b:Nat
 v:Value
def lay {α:Type} (p:α→List Value→Prop):List α→List Value→Prop
 | [],vs=>vs=[]
 | x::xs,vs=>∃ a b,vs=a++b∧p x a∧lay p xs b
def Reads {α:Type} (R:Nat→Prop) (w:World) (_bytes:Nat) (p:α→List Value→Prop) (xs:List α) (v:Value):Prop :=
 ∃ a cap,v=.slice a xs.length cap∧xs.length≤cap∧cap≤maxLen∧xs.length≤maxLen ∧
  (0 < xs.length→∃ (ad:Addr) (vs:List Value),a=some ad∧ad.spot=none∧R ad.block∧lay p xs vs∧∀ j u,vs[j]?=some u→w.cell? (ad.add j)=some u)
def valOf:Ty→List Value→Value
 | .pair _ _,vs=>.agg vs.toArray
 | _,[v]=>v
 | _,_=>undef
def ReadsAt {α:Type} (R:Nat→Prop) (w:World) (size:Nat) (p:α→List Value→Prop) (xs:List α) (i j:Nat) (v:Value):Prop :=
 ∃ (ad:Addr) (vs:List Value),v=.pointer (some (ad.add (i * size+j)))∧ad.spot=none∧R ad.block∧lay p xs vs∧(∀ k u,vs[k]?=some u→w.cell? (ad.add k)=some u)
def RelEl (R:Nat→Prop) (w:World):(t:Ty)→t.El→List Value→Prop
 | .int k,n,vs=>vs=[.int k n]∧k.wrap n=n
 | .bool,b,vs=>vs=[.bool b]
 | .str,s,vs=>vs=[.string s]∧s.size≤maxLen
 | .unit,_,vs=>vs=[]
 | .pair a b,x,vs=>∃ us ws,vs=us++ws∧RelEl R w a x.1 us∧RelEl R w b x.2 ws
 | .slice t,xs,vs=>∃ v,vs=[v]∧Reads R w t.bytes (RelEl R w t) xs v
 | .fn1 a r,c,vs=>∃ f first cap,vs=[.func (.func f) first cap]∧(∀ args w1,(callFunc f args).run PG w1=.ok (.enter f args) w1) ∧
  ∀ (R':Nat→Prop) (w':World),(∀ b,R b→R' b)→(∀ ad:Addr,R ad.block→w'.cell? ad=w.cell? ad)→(∀ b,R' b→b < w'.heap.size) →
   ∀ x us,RelEl R' w' a x us→Calls PG f (first++#[valOf a us]++cap) w' fun e w''=>∃ u,e=.returned u∧RelEl (fun _=>False) w'' r (c x) [u]∧w'.grownBy w'' none
 | .fn2 a r,c,vs=>∃ f first cap,vs=[.func (.func f) first cap]∧(∀ args w1,(callFunc f args).run PG w1=.ok (.enter f args) w1) ∧
  ∀ (R':Nat→Prop) (w':World),(∀ b,R b→R' b)→(∀ ad:Addr,R ad.block→w'.cell? ad=w.cell? ad)→(∀ b,R' b→b < w'.heap.size) →
   ∀ x y us vs,RelEl R' w' a x us→RelEl R' w' a y vs→Calls PG f (first++#[valOf a us,valOf a vs]++cap) w' fun e w''=>∃ u,e=.returned u∧RelEl (fun _=>False) w'' r (c x y) [u]∧w'.grownBy w'' none
 | .opt t,y,vs=>(y=none∧vs=[.pointer none])∨∃ x v,y=some x∧vs=[v]∧ReadsAt R w t.size (RelEl R w t) [x] 0 0 v
 | .code,n,vs=>vs=[.func (.func n) #[] #[]]
def RowR (R:Nat→Prop) (w:World) (t:Ty) (xss:List (List t.El)) (vs:List Value):Prop :=
 vs.length=xss.length∧∀ (i:Nat) (u:Value) (xs:List t.El),vs[i]?=some u→xss[i]?=some xs→Reads R w t.bytes (RelEl R w t) xs u
def RelX (R:Nat→Prop) (w:World):Ext→Value→Prop
 | .nn t xs,v=>Reads R w t.bytes (RelEl R w t) xs v∧∃ a n c,v=.slice (some a) n c
 | .cref t xss j,v=>∃ b vs,v=.pointer (some ⟨b,j,none⟩)∧R b∧RowR R w t xss vs∧∀ i u,vs[i]?=some u→w.cell? ⟨b,i,none⟩=some u
 | .cvals t xss,v=>∃ vs,v=.agg vs.toArray∧RowR R w t xss vs
 | .full t xs,v=>Reads R w t.bytes (RelEl R w t) xs v∧∃ a,v=.slice a xs.length xs.length
 | .nl _,v=>∃ c,v=.slice none 0 c∧c≤maxLen
 | .fn1 a r c,v=>RelEl R w (.fn1 a r) c [v]
 | .fn2 a r c,v=>RelEl R w (.fn2 a r) c [v]
 | .opt t y,v=>RelEl R w (.opt t) y [v]
 | .nilm,v=>v=.map none
 | .mnil b,v=>∃ o,v=.map o∧b=o.isNone
 | .any,v=>v.oneCell'=true
mutual
inductive RelV (g:Nat→Gh) (K:Nat→Prop) (R:Nat→Prop) (w:World):AV→Value→Prop where
 | int {k:IntKind} {n:Int}:k.wrap n=n→RelV g K R w (.int k n) (.int k n)
 | bool {b:Bool}:RelV g K R w (.bool b) (.bool b)
 | str {s:ByteArray}:s.size≤maxLen→RelV g K R w (.str s) (.string s)
 | sl {t:Ty} {xs:List t.El} {v:Value}:Reads R w t.bytes (RelEl R w t) xs v→RelV g K R w (.sl t xs) v
 | el {t:Ty} {xs:List t.El} {i j:Nat} {v:Value}:i < xs.length→ReadsAt R w t.size (RelEl R w t) xs i j v→RelV g K R w (.el t xs i j) v
 | own {r:Nat}:K r→(g r).v.oneCell'=true→RelV g K R w (.own r) (g r).v
 | oel {r sz i j b n cap:Nat}:K r→(g r).v=.slice (some ⟨b,0,none⟩) n cap→RelV g K R w (.oel r sz i j) (.pointer (some ⟨b,i * sz+j,none⟩))
 | part {r sz l b n cap:Nat}:K r→(g r).v=.slice (some ⟨b,0,none⟩) n cap→l < n→RelV g K R w (.part r sz l) (.slice (some ⟨b,l * sz,none⟩) (n - l) (cap - l))
 | head {r sz h b n cap:Nat}:K r→(g r).v=.slice (some ⟨b,0,none⟩) n cap→h≤n→RelV g K R w (.head r sz h) (.slice (some ⟨b,0,none⟩) h cap)
 | ptr {r j:Nat}:K r→RelV g K R w (.ptr r j) (.pointer (some ⟨(g r).b,j,none⟩))
 | agg {cs:List AV} {vs:List Value}:RelL g K R w cs vs→RelV g K R w (.agg cs) (.agg vs.toArray)
 | tup {cs:List AV} {vs:List Value}:RelL g K R w cs vs→RelV g K R w (.tup cs) (.tuple vs.toArray)
 | fn {f:Nat} {cs ds:List AV} {vs us:List Value}:RelL g K R w cs vs→RelL g K R w ds us→RelV g K R w (.fn f cs ds) (.func (.func f) vs.toArray us.toArray)
 | nilsl:RelV g K R w .nilsl (.slice none 0 0)
 | nilptr:RelV g K R w .nilptr (.pointer none)
 | nilfn:RelV g K R w .nilfn .nilFunc
 | ext {e:Ext} {v:Value}:RelX R w e v→RelV g K R w (.ext e) v
 | junk {v:Value}:RelV g K R w .junk v
inductive RelL (g:Nat→Gh) (K:Nat→Prop) (R:Nat→Prop) (w:World):List AV→List Value→Prop where
 | nil:RelL g K R w [] []
 | cons {c:AV} {cs:List AV} {v:Value} {vs:List Value}:RelV g K R w c v→RelL g K R w cs vs→RelL g K R w (c::cs) (v::vs)
end
def ElemR (R:Nat→Prop) (w:World) (t:Ty) (xs:List t.El) (v:Value):Prop :=
 ∃ e vs,ownsSeq w e t.size v xs.length vs∧lay (RelEl R w t) xs vs∧xs.length * t.bytes≤140737488355328
structure ArrH (R:Nat→Prop) (w:World) (b:Nat) (t:Ty) (xss:List (List t.El)) (h:Option Nat) (vs:List Value):Prop where
 len:vs.length=xss.length
 one:∀ v∈vs,v.oneCell'=true
 el:∀ i v xs,vs[i]?=some v→xss[i]?=some xs→h≠some i→ElemR R w t xs v
 off:∀ (i:Nat) v,vs[i]?=some v→h≠some i→blkOf v≠some b
 sep:∀ (i j:Nat) v u c,vs[i]?=some v→vs[j]?=some u→h≠some i→h≠some j→blkOf v=some c→blkOf u=some c→i=j
def MapE (R:Nat→Prop) (w:World) (k v:Ty):List (k.El × v.El)→List MapEntry→Prop
 | [],[]=>True
 | x::xs,e::es=>(∃ us,RelEl R w k x.1 us∧e.key=valOf k us)∧(∃ vs,RelEl R w v x.2 vs∧e.val=valOf v vs)∧MapE R w k v xs es
 | _,_=>False
def intsT:Ty→Bool
 | .int _=>true
 | .str=>true
 | .pair a b=>match intsT a with
   | true=>intsT b
   | false=>false
 | _=>false
def keyEq:(t:Ty)→t.El→t.El→Bool
 | .int _,a,b=>decide (a=b)
 | .str,a,b=>decide (a=b)
 | .pair a b,x,y=>keyEq a x.1 y.1&&keyEq b x.2 y.2
 | _,_,_=>false
structure MapH (R:Nat→Prop) (w:World) (k v:Ty) (kvs:List (k.El × v.El)) (es:List MapEntry) (clock:Nat):Prop where
 rel:∃ l,l.Perm kvs∧MapE R w k v l es
 lt:∀ e∈es,e.born < clock
 nd:(es.map (·.born)).Nodup
 dk:kvs.Pairwise fun a b=>keyEq k a.1 b.1=false
 ki:intsT k=true
def VHas (v:Value) (b:Nat):Prop:=∃ xs:List Value,v=.tuple xs.toArray∧Value.int .u64 (b:Int)∈xs
theorem VHas_of (O:Nat→Prop) (n:Nat) (h:∀ b,O b→b < n):∃ v,∀ b,VHas v b↔O b:=by
 classical
 refine ⟨.tuple (((List.range n).filter fun b=>decide (O b)).map fun (b:Nat)=>Value.int .u64 (b:Int)).toArray,fun b=>⟨?_,fun hb=>⟨_,rfl,?_⟩⟩⟩
 ·rintro ⟨xs,e,hx⟩
  have e:=List.toArray_inj (Value.tuple.inj e)
  subst e
  simp only [List.mem_map,List.mem_filter,List.mem_range,decide_eq_true_eq] at hx
  obtain ⟨c,⟨_,hc⟩,e⟩:=hx
  simp only [Value.int.injEq,true_and] at e
  obtain rfl:c=b:=by omega
  exact hc
 ·simp only [List.mem_map,List.mem_filter,List.mem_range,decide_eq_true_eq]
  exact ⟨b,⟨h b hb,hb⟩,rfl⟩
def SameW (w w':World):Prop:=w'.os=w.os∧w'.tape=w.tape∧w'.output=w.output∧w.heap.size≤w'.heap.size
theorem SameW.refl (w:World):SameW w w:=⟨rfl,rfl,rfl,Nat.le_refl _⟩
theorem SameW.trans {a b c:World} (h:SameW a b) (k:SameW b c):SameW a c:=⟨k.1.trans h.1,k.2.1.trans h.2.1,k.2.2.1.trans h.2.2.1,Nat.le_trans h.2.2.2 k.2.2.2⟩
abbrev FR (ro:Option Nat):Fence:={ Fence.wide with round:=ro }
def YArgs (R:Nat→Prop) (w:World):(t:Ty)→Bool→t.El→List Value→Prop
 | t,false,x,vs=>∃ us,RelEl R w t x us∧vs=[valOf t us]
 | .pair a b,true,x,vs=>∃ us us',RelEl R w a x.1 us∧RelEl R w b x.2 us'∧vs=[valOf a us,valOf b us']
 | _,true,_,_=>False
structure YLaw {t:Ty} (two:Bool) (Y:YD t) (l:Nat):Prop where
 mono:∀ {p:List t.El} {O R R':Nat→Prop} {w w':World},(∀ b,R b→R' b)→(∀ b,O b→w'.heap[b]?=w.heap[b]?)→(∀ b,R b→w'.heap[b]?=w.heap[b]?)→SameW w w'→Y.J p O R w→Y.J p O R' w'
 lt:∀ {p:List t.El} {O R:Nat→Prop} {w:World} {b:Nat},Y.J p O R w→O b→b < w.heap.size
 call:∀ {p:List t.El} {x:t.El} {vals:List Value} {O R:Nat→Prop} {w:World} (ro:Option Nat),Y.J p O R w→Y.ok (p++[x])→(∀ b,O b→¬ R b)→(∀ b,R b→b < w.heap.size)→YArgs R w t two x vals →
  YieldAt (FR ro) 0 PG l vals.toArray w fun e w'=>e=.returned (.bool (Y.cont (p++[x])))∧∃ O',Y.J (p++[x]) O' R w'∧(∀ b,O' b→¬ R b)∧(∀ b,O' b→O b∨w.heap.size≤b)∧SameW w w'∧(∀ b,b < w.heap.size→¬ O b→w'.heap[b]?=w.heap[b]?)
structure MitH (R:Nat→Prop) (w:World) (k v:Ty) (kvs:List (k.El × v.El)) (cur:Option (k.El × v.El)) (b bm:Nat) (D:MitG):Prop where
 it:w.heap[b]?=some (.mapIter (some bm) D.since D.seen D.c0)
 mp:w.heap[bm]?=some (.map D.es D.clock)
 rel:MapH R w k v kvs D.es.toList D.clock
 old:∀ x∈D.es.toList,x.born < D.since
 sc:D.since≤D.c0
 sk:D.since≤D.clock
 cu:∀ y,cur=some y→D.c0=D.clock∧∃ e∈D.es.toList,D.seen.back?=some e.born∧(∃ us,RelEl R w k y.1 us∧e.key=valOf k us)∧∃ vs,RelEl R w v y.2 vs∧e.val=valOf v vs
def MMapE (R:Nat→Prop) (w:World) (k a b:Ty) (hole:Nat→Bool) (bm:Nat):Nat→List (k.El × List (a.El × b.El))→List MapEntry→List Nat→Prop
 | _,[],[],[]=>True
 | i,x::xs,e::es,n::ns=>(∃ us,RelEl R w k x.1 us∧e.key=valOf k us)∧e.val=.map (some n)∧n≠bm∧(hole i=false→∃ es' clock,w.heap[n]?=some (.map es' clock)∧MapH R w a b x.2 es'.toList clock)∧MMapE R w k a b hole bm (i+1) xs es ns
 | _,_,_,_=>False
structure MMapH (R:Nat→Prop) (w:World) (k a b:Ty) (kvss:List (k.El × List (a.El × b.El))) (hole:Nat→Bool) (bm:Nat) (es:List MapEntry) (ns:List Nat) (clock:Nat):Prop where
 rel:MMapE R w k a b hole bm 0 kvss es ns
 lt:∀ e∈es,e.born < clock
 nd:(es.map (·.born)).Nodup
 sep:ns.Nodup
def holeAt (h:Option (Nat × Nat)) (i:Nat):Bool:=match h with
 | some (j,_)=>Nat.beq i j
 | none=>false
def valB (es:List MapEntry) (i:Nat) (b:Nat):Prop:=∃ e,es[i]?=some e∧e.val=.map (some b)
def MitD (R:Nat→Prop) (w:World) (k v:Ty) (kvs:List (k.El × v.El)) (G:Option MitG) (D:MitG):Prop:=match G with
 | none=>D.seen=#[]
 | some D'=>D=D'∧MapE R w k v kvs D.es.toList
def bldP (b:Nat) (u:Bool):Value:=.pointer (match u with
 | true=>some ⟨b,0,none⟩
 | false=>none)
def RowH (g:Nat→Gh) (K:Nat→Prop) (R:Nat→Prop) (w:World) (r:Nat):AObj→Prop
 | .box cs=>∃ vs t,w.heap[(g r).b]?=some (.cells vs.toArray t (0,0))∧RelL g K R w cs vs∧∀ v∈vs,v.oneCell'=true
 | .seq t xs=>ElemR R w t xs (g r).v
 | .arr t xss h=>∃ vs ty,w.heap[(g r).b]?=some (.cells vs.toArray ty (0,0))∧ArrH R w (g r).b t xss h vs
 | .map k v kvs=>∃ b es clock,(g r).v=.map (some b)∧w.heap[b]?=some (.map es clock)∧MapH R w k v kvs es.toList clock
 | .yp k=>K k∧(g r).v=.func (.yield (g k).b) #[] #[]
 | .yld _ two Y p=>YLaw two Y (g r).b∧Y.J p (VHas (g r).v) R w
 | .mit m k v kvs cur G=>(K m∧(g m).v=.map (some (g r).b))∧∃ (b:Nat) (D:MitG),(g r).v=.pointer (some ⟨b,0,none⟩)∧MitD R w k v kvs G D∧MitH R w k v kvs cur b (g r).b D
 | .mit0=>∃ b since seen c0,(g r).v=.pointer (some ⟨b,0,none⟩)∧w.heap[b]?=some (.mapIter none since seen c0)
 | .pend m k v kvs j=>(K m∧(g m).v=.map (some (g r).b))∧∃ (es:Array MapEntry) (clock:Nat) (e:MapEntry) (j':Nat) (l:List (k.El × v.El)) (p:k.El × v.El),w.heap[(g r).b]?=some (.map es clock)∧MapH R w k v kvs es.toList clock∧(l.Perm kvs∧MapE R w k v l es.toList∧es[j']?=some e∧l[j']?=some p∧kvs[j]?=some p)∧(g r).v=.int .i64 e.born
 | .mmap k a b kvss h=>∃ bm es clock ns,(g r).v=.map (some bm)∧w.heap[bm]?=some (.map es clock)∧MMapH R w k a b kvss (holeAt h) bm es.toList ns clock∧∀ j d,h=some (j,d)→j < kvss.length∧K d∧∃ n,ns[j]?=some n∧(g d).v=.map (some n)
 | .bag t xs=>∃ ys:List t.El,ys.Perm xs∧ElemR R w t ys (g r).v
 | .bld T e u l=>∃ v,w.heap[(g r).b]?=some (.cells #[bldP (g r).b u,v] T (0,0))∧ownsSeq w e 1 v l.length (l.map (Value.int .u8))∧blkOf v≠some (g r).b
 | .dead=>True
def Own (g:Nat→Gh) (w:World) (r:Nat):AObj→Nat→Prop
 | .box _,b=>b=(g r).b
 | .seq _ _,b=>blkOf (g r).v=some b
 | .arr _ _ h,b=>b=(g r).b∨∃ (vs:List Value) (ty:TypeId) (i:Nat) (v:Value),w.heap[(g r).b]?=some (.cells vs.toArray ty (0,0))∧vs[i]?=some v∧h≠some i∧blkOf v=some b
 | .map _ _ _,b=>(g r).v=.map (some b)
 | .yp _,_=>False
 | .yld _ _ _ _,b=>VHas (g r).v b
 | .mit _ _ _ _ _ _,b=>(g r).v=.pointer (some ⟨b,0,none⟩)∨b=(g r).b
 | .mit0,b=>(g r).v=.pointer (some ⟨b,0,none⟩)
 | .pend _ _ _ _ _,b=>b=(g r).b
 | .mmap _ _ _ _ h,b=>(g r).v=.map (some b)∨∃ (bm:Nat) (es:Array MapEntry) (clock i:Nat),(g r).v=.map (some bm)∧w.heap[bm]?=some (.map es clock)∧holeAt h i=false∧valB es.toList i b
 | .bag _ _,b=>blkOf (g r).v=some b
 | .bld _ _ _ _,b=>b=(g r).b∨∃ (p v:Value) (T:TypeId),w.heap[(g r).b]?=some (.cells #[p,v] T (0,0))∧blkOf v=some b
 | .dead,_=>False
def enc:(t:Ty)→t.El→List AV
 | .int k,n=>[.int k n]
 | .bool,b=>[.bool b]
 | .str,s=>[.str s]
 | .unit,_=>[]
 | .pair a b,x=>enc a x.1++enc b x.2
 | .slice t,xs=>[.sl t xs]
 | .fn1 a r,c=>[.ext (.fn1 a r c)]
 | .fn2 a r,c=>[.ext (.fn2 a r c)]
 | .opt t,y=>[.ext (.opt t y)]
 | .code,n=>[.fn n [] []]
def dec:(t:Ty)→List AV→Option (t.El × List AV)
 | .int k,.int l n::r=>match kindEq k l with
   | true=>some (n,r)
   | false=>none
 | .bool,.bool b::r=>some (b,r)
 | .str,.str s::r=>some (s,r)
 | .unit,r=>some ((),r)
 | .pair a b,l=>match dec a l with
   | some (x,r)=>match dec b r with
     | some (y,r')=>some ((x,y),r')
     | none=>none
   | none=>none
 | .slice t,.sl u xs::r=>match Ty.same u t with
   | some ⟨h⟩=>castK h xs fun xs=>some (xs,r)
   | none=>none
 | .slice _,.nilsl::r=>some ([],r)
 | .fn1 a r,.ext (.fn1 a' r' c)::l=>match Ty.same (.fn1 a' r') (.fn1 a r) with
   | some ⟨h⟩=>castE (a:=.fn1 a' r') (b:=.fn1 a r) h c fun c=>some (c,l)
   | none=>none
 | .fn2 a r,.ext (.fn2 a' r' c)::l=>match Ty.same (.fn2 a' r') (.fn2 a r) with
   | some ⟨h⟩=>castE (a:=.fn2 a' r') (b:=.fn2 a r) h c fun c=>some (c,l)
   | none=>none
 | .opt t,.ext (.opt t' y)::l=>match Ty.same (.opt t') (.opt t) with
   | some ⟨h⟩=>castE (a:=.opt t') (b:=.opt t) h y fun y=>some (y,l)
   | none=>none
 | .opt _,.nilptr::l=>some (none,l)
 | .code,.fn n [] []::l=>some (n,l)
 | _,_=>none
def decV (t:Ty) (x:AV):Option t.El:=match t,x with
 | .pair a b,.agg cs=>match dec (.pair a b) cs with
   | some (y,[])=>some y
   | _=>none
 | .pair _ _,_=>none
 | t,x=>match dec t [x] with
   | some (y,[])=>some y
   | _=>none
def encV:(t:Ty)→t.El→AV
 | .int k,n=>.int k n
 | .bool,b=>.bool b
 | .str,s=>.str s
 | .unit,_=>.junk
 | .pair a b,x=>.agg (enc (.pair a b) x)
 | .slice t,xs=>.sl t xs
 | .fn1 a r,c=>.ext (.fn1 a r c)
 | .fn2 a r,c=>.ext (.fn2 a r c)
 | .opt t,y=>.ext (.opt t y)
 | .code,n=>.fn n [] []
end Go.AM
end
