/- AmWalk. -/
import Derived.Test.YtbepaplaahcnkaaGreatPc15

section
set_option linter.all false
namespace Go.AM
def OkEl:(t:Ty)→t.El→Prop
 | .int k,n=>k.wrap n=n
 | .bool,_=>True
 | .str,s=>s.size≤maxLen
 | .unit,_=>True
 | .pair a b,x=>OkEl a x.1∧OkEl b x.2
 | .slice t,xs=>List.length (α:=t.El) xs≤maxLen∧∀ y,List.Mem (α:=t.El) y xs→OkEl t y
 | .fn1 _ _,_=>True
 | .fn2 _ _,_=>True
 | .opt _,_=>True
 | .code,_=>True
theorem lay_ok {α:Type} {p:α→List Value→Prop} {q:α→Prop} (h:∀ x vs,p x vs→q x):∀ {xs:List α} {vs:List Value},lay p xs vs→∀ y∈xs,q y
 | [],_,_=>by simp
 | x::xs,_,⟨a,b,_,h1,h2⟩=>fun y hy=>by
   rcases List.mem_cons.1 hy with rfl|hy
   ·exact h _ _ h1
   ·exact lay_ok h h2 y hy
theorem RelEl_ok {R:Nat→Prop} {w:World}:∀ {t:Ty} {x:t.El} {vs:List Value},RelEl R w t x vs→OkEl t x
 | .int _,_,_,h=>h.2
 | .bool,_,_,_=>trivial
 | .str,_,_,h=>h.2
 | .unit,_,_,_=>trivial
 | .pair _ _,_,_,⟨_,_,_,h1,h2⟩=>⟨RelEl_ok h1,RelEl_ok h2⟩
 | .slice t,xs,_,⟨_,_,a,cap,_,_,_,h3,h4⟩=>by
   refine ⟨h3,fun y hy=>?_⟩
   have hl:0 < List.length (α:=t.El) xs:=List.length_pos_of_mem hy
   obtain ⟨_,vs,_,_,_,hlay,_⟩:=h4 hl
   exact lay_ok (q:=fun y=>OkEl t y) (fun _ _=>RelEl_ok) hlay y hy
 | .fn1 _ _,_,_,_=>trivial
 | .fn2 _ _,_,_,_=>trivial
 | .opt _,_,_,_=>trivial
 | .code,_,_,_=>trivial
theorem Reads_ok {R:Nat→Prop} {w:World} {t:Ty} {xs:List t.El} {v:Value} (h:Reads R w t.bytes (RelEl R w t) xs v):OkEl (.slice t) xs:=RelEl_ok (t:=.slice t) ⟨v,rfl,h⟩
theorem wrap64 {n:Int} (h:IntKind.wrap .i64 n=n):-9223372036854775808≤n∧n≤9223372036854775807:=by
 simp [IntKind.wrap,IntKind.signed,IntKind.bits] at h;omega
def seqA:Code→Code
 | .seq a _=>a
 | c=>c
def seqB:Code→Code
 | .seq _ b=>b
 | c=>c
def isSeq:Code→Bool
 | .seq _ _=>true
 | _=>false
def inner:Code→Code
 | .block _ c=>c
 | .loop c=>c
 | .scope c=>c
 | c=>c
def isLoop:Code→Bool
 | .loop _=>true
 | _=>false
def isScope:Code→Bool
 | .scope _=>true
 | _=>false
def blockId:Code→Option Nat
 | .block i _=>some i
 | _=>none
def exitId:Code→Option Nat
 | .exit i=>some i
 | _=>none
def isRet:Code→Bool
 | .ret=>true
 | _=>false
def isSkip:Code→Bool
 | .skip=>true
 | .label _=>true
 | _=>false
def thenC:Code→Code
 | .cond _ a _=>a
 | c=>c
def elseC:Code→Code
 | .cond _ _ b=>b
 | c=>c
def keepS (st:St) (ov:List (Nat × AV)):List Nat→List (Nat × Ent)
 | []=>[]
 | t::r=>match look ov t with
   | some v=>(t,⟨[],v⟩)::keepS st ov r
   | none=>match look st.slots t with
     | some ⟨[],v⟩=>(t,⟨[],v⟩)::keepS st ov r
     | _=>keepS st ov r
def forceE {β:Type}:List (Nat × Ent)→(List (Nat × Ent)→β)→β
 | [],k=>k []
 | (t,⟨p,v⟩)::r,k=>forceV v fun v=>forceE r fun r=>k ((t,⟨p,v⟩)::r)
theorem forceE_eq {β:Type}:∀ (l:List (Nat × Ent)) (k:List (Nat × Ent)→β),forceE l k=k l
 | [],_=>rfl
 | (t,⟨p,v⟩)::r,k=>by simp only [forceE];rw [forceV_eq,forceE_eq r]
def dedR:List Nat→List (Nat × AObj)→List (Nat × AObj)
 | _,[]=>[]
 | seen,(k,o)::r=>match mem seen k with
   | true=>dedR seen r
   | false=>(k,o)::dedR (k::seen) r
def tidy {β:Type} (K:List Nat) (st:St) (k:St→β):β:=match st with
 | ⟨n,slots,gt,ks,rows⟩=>forceE (keepS ⟨n,slots,gt,ks,rows⟩ [] K) fun slots=>forceR (dedR [] rows) fun rows=>k ⟨n,slots,gt,ks,rows⟩
def usesOf:List Operand→List Nat→List Nat→List Nat
 | [],_,l=>l
 | .tmp t::r,d,l=>match mem d t,mem l t with
   | false,false=>usesOf r d (t::l)
   | _,_=>usesOf r d l
 | _::r,d,l=>usesOf r d l
def dstOf (d:List Nat):Option Nat→List Nat
 | none=>d
 | some t=>t::d
def crossOps:List Oper→List Nat→List Nat→List Nat
 | [],_,l=>l
 | o::r,d,l=>crossOps r (dstOf d o.dst) (usesOf o.op.operands.toList d l)
def crossing:Code→List Nat→List Nat
 | .region _ ops _,l=>crossOps ops.toList [] l
 | .seq a b,l=>crossing b (crossing a l)
 | .cond c a b,l=>crossing b (crossing a (usesOf [c] [] l))
 | .block _ c,l=>crossing c l
 | .loop c,l=>crossing c l
 | .scope c,l=>crossing c l
 | .rangeFunc f _ a b,l=>crossing b (crossing a (usesOf [f] [] l))
 | _,l=>l
def resSlots:List ResultVar→List Nat→List Nat
 | [],l=>l
 | .tmp t::r,l=>resSlots r (usesOf [.tmp t] [] l)
 | .cell t _::r,l=>resSlots r (usesOf [.tmp t] [] l)
def insN (n:Nat):List Nat→List Nat
 | []=>[n]
 | m::r=>match Nat.blt n m with
   | true=>n::m::r
   | false=>m::insN n r
def sortN:List Nat→List Nat
 | []=>[]
 | n::r=>insN n (sortN r)
def keepOf (fn:Func) (c:Code):List Nat:=sortN (resSlots fn.results.toList (crossing c []))
def regRun (tt:TT) (S:Nat→Option Spec) (K:List Nat) (c:Code) (st:St):Option (List Prop × St):=match c with
 | .region _ ops draw=>runO tt S ops.toList ops.toList st [] [] fun cs st' ts=>match drawOk tt draw ops.toList ts with
   | true=>st'.done fun st'=>tidy K st' fun st'=>some (cs,st')
   | false=>none
 | _=>none
def condRun (c:Code) (st:St):Option Bool:=match c with
 | .cond o _ _=>match st.pathOf o,st.get o with
   | [],.bool t=>some t
   | _,_=>none
 | _=>none
structure Env (P:Program) (tt:TT) (S:Nat→Option Spec):Type where
 hT:TTok P tt
 hS:SigOk P S
 hm:P.follows .mixedOrders=true
 ro:Option Nat:=none
def WP {P:Program} {tt:TT} {S:Nat→Option Spec} (_E:Env P tt S) (_K:List Nat) (c:Code) (st:St) (Z:AExit→St→Prop):Prop :=
 codeOk c=true→∀ (C:Ctx) (g:Nat→Gh) (R:Nat→Prop) (a:Act) (w:World) (Q:Exit→Act→World→Prop),Rel C g R st a w →
  (∀ C' e s g' R' a' w',Later C C'→Z e s→Rel C' g' R' s a' w'→Q (toExit e) a' w')→c.wpIn (FR _E.ro) 0 P Q a w
def contSeq {P:Program} {tt:TT} {S:Nat→Option Spec} (E:Env P tt S) (K:List Nat) (b:Code) (Q:AExit→St→Prop) (e:AExit) (st':St):Prop:=match e with
 | .normal=>WP E K b st' Q
 | e=>Q e st'
def contBlk (id:Nat) (Q:AExit→St→Prop) (e:AExit) (st':St):Prop:=match e with
 | .exit i=>match Nat.beq i id with
   | true=>Q .normal st'
   | false=>Q (.exit i) st'
 | e=>Q e st'
section
variable {P:Program} {tt:TT} {S:Nat→Option Spec} {E:Env P tt S} {K:List Nat} {c b:Code} {st:St} {Q:AExit→St→Prop}
theorem stepO_nat {ops:List Oper} {o:Oper}:∃ r:Option (List Prop × St × Tr),∀ (β:Type) (k:List Prop→St→Tr→Option β),stepO tt S ops o st k=r.bind fun x=>k x.1 x.2.1 x.2.2:=by
 refine ⟨stepO tt S ops o st fun c s t=>some (c,s,t),fun β k=>?_⟩
 unfold stepO
 obtain ⟨n,slots,gt,ks,rows⟩:=st
 dsimp only
 split
 ·rfl
 ·simp only [forceL_eq]
  split <;> try rfl
  simp only [forceV_eq,forceR_eq,forceL_eq,mapUnderK_eq]
  repeat' (first|rfl|split)
theorem runO_nat {ops:List Oper}:∀ {l:List Oper} {st:St} {cs:List Prop} {ts:List Tr},∃ r:Option (List Prop × St × List Tr),∀ (β:Type) (k:List Prop→St→List Tr→Option β),runO tt S ops l st cs ts k=r.bind fun x=>k x.1 x.2.1 x.2.2
 | [],st,cs,ts=>⟨some (cs,st,ts),fun _ _=>rfl⟩
 | o::l,st,cs,ts=>by
   obtain ⟨r,hr⟩:=stepO_nat (tt:=tt) (S:=S) (ops:=ops) (o:=o) (st:=st)
   cases r with
   | none=>exact ⟨none,fun β k=>by simp only [runO];rw [hr];rfl⟩
   | some x =>
     obtain ⟨c,s,t⟩:=x
     obtain ⟨r2,hr2⟩:=runO_nat (ops:=ops) (l:=l) (st:=s) (cs:=appP cs c) (ts:=t::ts)
     refine ⟨r2,fun β k=>?_⟩
     simp only [runO]
     rw [hr]
     simp only [Option.bind_some,forceL_eq]
     exact hr2 β k
theorem done_nat {st:St}:∃ s,∀ (β:Type) (k:St→β),st.done k=k s:=by
 obtain ⟨n,slots,gt,ks,rows⟩:=st
 cases gt with
 | nil=>exact ⟨_,fun _ _=>rfl⟩
 | cons x r=>exact ⟨_,fun _ k=>by simp only [St.done];rw [forceL_eq]⟩
theorem allP_mk:∀ {cs:List Prop} {q:Prop},(∀ p∈cs,p)→q→allP cs q
 | [],_,_,h=>h
 | c::cs,_,hc,h=>⟨hc c (by simp),allP_mk (fun p hp=>hc p (by simp [hp])) h⟩
theorem wpI (k:wp tt S c st Q):WP E K c st Q:=fun hc C _ _ _ _ _ hrel hq=>wp_sound E.hT E.hS E.hm hc k hrel fun e s g' R' a' w' hz hr=>hq C e s g' R' a' w' (Later.refl C) hz hr
theorem look_keepS {ov:List (Nat × AV)}:∀ {K:List Nat} {t:Nat} {e:Ent},look (keepS st ov K) t=some e→(∃ v,look ov t=some v∧e=⟨[],v⟩)∨(look ov t=none∧look st.slots t=some e∧e.path=[])
 | [],t,e,h=>by simp [keepS,look] at h
 | u::r,t,e,h=>by
   simp only [keepS] at h
   split at h
   ·rename_i v hv
    rw [look_cons] at h
    by_cases hu:u=t
    ·subst hu;simp at h;exact .inl ⟨v,hv,h.symm⟩
    ·simp [hu] at h;exact look_keepS h
   ·rename_i hv
    split at h
    ·rename_i v hl
     rw [look_cons] at h
     by_cases hu:u=t
     ·subst hu;simp at h;subst h;exact .inr ⟨hv,hl,rfl⟩
     ·simp [hu] at h;exact look_keepS h
    ·exact look_keepS h
theorem look_dedR:∀ {rows:List (Nat × AObj)} {seen:List Nat} {r:Nat},look (dedR seen rows) r=if mem seen r=true then none else look rows r
 | [],seen,r=>by simp [dedR,look]
 | (k,o)::l,seen,r=>by
   simp only [dedR]
   split
   ·rename_i hm
    rw [look_dedR,look_cons]
    by_cases hk:k=r
    ·subst hk;rw [hm];simp
    ·simp [hk]
   ·rename_i hm
    rw [look_cons,look_cons,look_dedR,mem_cons]
    by_cases hk:k=r
    ·subst hk;rw [hm];simp
    ·simp [hk]
theorem tidy_sound {C:Ctx} {g:Nat→Gh} {R:Nat→Prop} {a:Act} {w:World} (hrel:Rel C g R st a w):Rel C g R ⟨st.n,keepS st [] K,st.gt,st.ks,dedR [] st.rows⟩ a w:=by
 have hrows:look (dedR [] st.rows)=look st.rows:=funext fun r=>by rw [look_dedR];simp [mem]
 refine ⟨hrel.size,hrel.defers,fun t e he=>?_,fun t e he u x hx=>?_,?_⟩
 ·rcases look_keepS he with ⟨v,h,_⟩|⟨_,h,_⟩
  ·simp [look] at h
  ·exact hrel.slots t e h
 ·rcases look_keepS he with ⟨v,h,_⟩|⟨_,h,hp⟩
  ·simp [look] at h
  ·rw [hp] at hx;simp at hx
 ·show HeapR C g R _ (look (dedR [] st.rows)) w
  rw [hrows];exact hrel.heap
theorem tidy_eq {β:Type} {st:St} (k:St→β):tidy K st k=k ⟨st.n,keepS st [] K,st.gt,st.ks,dedR [] st.rows⟩:=by
 obtain ⟨n,slots,gt,ks,rows⟩:=st
 simp only [tidy,forceE_eq,forceR_eq]
theorem regI {cs:List Prop} {st':St} (h:regRun tt S K c st=some (cs,st')) (k:allP cs (Q .normal st')):WP E K c st Q:=by
 unfold regRun at h
 split at h
 ·rename_i id ops draw
  intro hc C g R a w Z hrel hq
  refine wp_sound (Z:=fun e s=>e=.normal∧(∀ p∈cs,p)∧Q .normal st'∧st'=⟨s.n,keepS s [] K,s.gt,s.ks,dedR [] s.rows⟩) E.hT E.hS E.hm hc ?_ hrel ?_
  ·simp only [wp]
   obtain ⟨r,hr⟩:=runO_nat (tt:=tt) (S:=S) (ops:=ops.toList) (l:=ops.toList) (st:=st) (cs:=[]) (ts:=[])
   rw [hr] at h ⊢
   cases r with
   | none=>cases h
   | some x =>
     obtain ⟨c,s,t⟩:=x
     simp only [Option.bind_some] at h ⊢
     split at h <;> try (cases h;done)
     rename_i hd
     obtain ⟨s',hs'⟩:=done_nat (st:=s)
     rw [hs',tidy_eq] at h
     cases h
     simp only [hd]
     rw [hs']
     obtain ⟨h1,h2⟩:=allP_spec k
     refine allP_mk h1 ⟨trivial,h1,h2,rfl⟩
  ·rintro e s g' R' a' w' ⟨rfl,h1,h2,h3⟩ hr
   exact hq C .normal st' g' R' a' w' (Later.refl C) h2 (h3 ▸ tidy_sound hr)
 ·cases h
theorem regH (hs:List (Nat × Bool)) {cs:List Prop} {st':St} (h:regRun (tt.1,tt.2.1,hs) S K c st=some (cs,st')) (k:allP cs (Q .normal st')):WP E K c st Q :=
 regI (E:=(⟨E.hT,E.hS,E.hm,E.ro⟩:Env P (tt.1,tt.2.1,hs) S)) h k
theorem seqI (h:isSeq c=true) (k:WP E K (seqA c) st (contSeq E K (seqB c) Q)):WP E K c st Q:=by
 cases c <;> simp [isSeq] at h
 rename_i x y
 intro hc C g R a w Z hrel hq
 simp only [codeOk,Bool.and_eq_true] at hc
 refine wpIn_seq (k hc.1 C g R a w _ hrel ?_)
 intro C1 e s g' R' a' w' hx hz hr
 cases e with
 | normal=>exact hz hc.2 C1 g' R' a' w' Z hr fun C2 e s g R a w hx2=>hq C2 e s g R a w (hx.trans hx2)
 | exit id=>exact hq C1 (.exit id) s g' R' a' w' hx hz hr
 | ret=>exact hq C1 .ret s g' R' a' w' hx hz hr
theorem skipI (h:isSkip c=true) (k:Q .normal st):WP E K c st Q:=by
 cases c <;> simp [isSkip] at h <;> exact wpI k
theorem retI (h:isRet c=true) (k:Q .ret st):WP E K c st Q:=by
 cases c <;> simp [isRet] at h
 exact wpI k
theorem exitI {i:Nat} (h:exitId c=some i) (k:Q (.exit i) st):WP E K c st Q:=by
 cases c <;> simp [exitId] at h
 subst h;exact wpI k
theorem scopeI (h:isScope c=true) (k:WP E K (inner c) st Q):WP E K c st Q:=by
 cases c <;> simp [isScope] at h
 intro hc C g R a w Z hrel hq
 simp only [codeOk] at hc
 refine wpIn_scope_straight (k hc C g R a w _ hrel ?_)
 intro C1 e s g' R' a' w' hx hz hr
 cases e with
 | normal=>exact hq C1 .normal s g' R' a' w' hx hz hr
 | exit id=>exact hq C1 (.exit id) s g' R' a' w' hx hz hr
 | ret=>exact hq C1 .ret s g' R' a' w' hx hz hr
theorem blockI {i:Nat} (h:blockId c=some i) (k:WP E K (inner c) st (contBlk i Q)):WP E K c st Q:=by
 cases c <;> simp [blockId] at h
 subst h
 rename_i id c
 intro hc C g R a w Z hrel hq
 simp only [codeOk] at hc
 refine wpIn_block (k hc C g R a w _ hrel ?_)
 intro C1 e s g' R' a' w' hx hz hr
 cases e with
 | normal=>exact hq C1 .normal s g' R' a' w' hx hz hr
 | ret=>exact hq C1 .ret s g' R' a' w' hx hz hr
 | exit i =>
   simp only [contBlk] at hz
   show Exit.inBlock id Z (.exit i) a' w'
   simp only [Exit.inBlock]
   split at hz
   ·rename_i hi
    rw [if_pos (beq_eq hi)]
    exact hq C1 .normal s g' R' a' w' hx hz hr
   ·rename_i hi
    rw [if_neg (beq_ne hi)]
    exact hq C1 (.exit i) s g' R' a' w' hx hz hr
theorem condI {t:Bool} (h:condRun c st=some t) (x:t=true→WP E K (thenC c) st Q) (y:t=false→WP E K (elseC c) st Q):WP E K c st Q:=by
 cases c <;> simp only [condRun] at h <;> try (cases h;done)
 split at h <;> try (cases h;done)
 rename_i hp ht
 cases h
 intro hc C g R a w Z hrel hq
 simp only [codeOk,Bool.and_eq_true] at hc
 have hv:=get_rel hrel (operandB_spec hc.1.1) (by rw [hp];exact fun t x h=>by simp at h)
 rw [ht] at hv
 generalize hec:a.eval _=vc at hv
 cases hv
 exact wpIn_cond_split hec (fun e=>x e hc.1.2 C g R a w Z hrel hq) (fun e=>y e hc.2 C g R a w Z hrel hq)
theorem condT (h:condRun c st=some true) (x:WP E K (thenC c) st Q):WP E K c st Q:=condI h (fun _=>x) (fun h=>by cases h)
theorem condF (h:condRun c st=some false) (x:WP E K (elseC c) st Q):WP E K c st Q:=condI h (fun h=>by cases h) (fun _=>x)
theorem forgetI {m:St} (h:SubA st m) (k:WP E K c m Q):WP E K c st Q:=fun hc C g R a w Z hrel hq=>by
 obtain ⟨g',hr⟩:=subA_sound h hrel
 exact k hc C g' R a w Z hr hq
theorem pN {q:Prop} (k:q):allP [] q:=k
theorem pC {p q:Prop} {r:List Prop} (h:p) (k:allP r q):allP (p::r) q:=⟨h,k⟩
theorem lcQ {α:Type} {a:α} {l:List α}:(a::l).length=l.length+1:=rfl
theorem lnQ {α:Type}:([]:List α).length=0:=rfl
theorem tnQ {n:Nat}:((n:Int)).toNat=n:=Int.toNat_natCast n
theorem pD {p q:Prop} {r:List Prop} (k:allP r q) (h:p:=by first|exact ⟨⟩|omega|(intros;first|exact ⟨⟩|omega)|(simp only [lcQ,lnQ,tnQ];omega)):allP (p::r) q:=⟨h,k⟩
theorem cN (k:WP E K b st Q):contSeq E K b Q .normal st:=k
theorem cE {i:Nat} (k:Q (.exit i) st):contSeq E K b Q (.exit i) st:=k
theorem cR (k:Q .ret st):contSeq E K b Q .ret st:=k
theorem bN {id:Nat} (k:Q .normal st):contBlk id Q .normal st:=k
theorem bR {id:Nat} (k:Q .ret st):contBlk id Q .ret st:=k
theorem bE {id i:Nat} (h:Nat.beq i id=true) (k:Q .normal st):contBlk id Q (.exit i) st:=by
 simp only [contBlk];rw [h];exact k
theorem bP {id i:Nat} (h:Nat.beq i id=false) (k:Q (.exit i) st):contBlk id Q (.exit i) st:=by
 simp only [contBlk];rw [h];exact k
theorem factInt {t:Nat} {k:IntKind} {n:Int} (h:look st.slots t=some ⟨[],.int k n⟩) (x:k.wrap n=n→WP E K c st Q):WP E K c st Q:=fun hc C g R a w Z hrel hq=>by
 obtain ⟨v,_,hv⟩:=(hrel.slots t _ h).1 (fun t x h=>by simp at h)
 cases hv with
 | int hw=>exact x hw hc C g R a w Z hrel hq
theorem factSl {t:Nat} {ty:Ty} {xs:List ty.El} (h:look st.slots t=some ⟨[],.sl ty xs⟩) (x:OkEl (.slice ty) xs→WP E K c st Q):WP E K c st Q:=fun hc C g R a w Z hrel hq=>by
 obtain ⟨v,_,hv⟩:=(hrel.slots t _ h).1 (fun t x h=>by simp at h)
 cases hv with
 | sl hs=>exact x (Reads_ok hs) hc C g R a w Z hrel hq
theorem factBoxL {r j:Nat} {cs:List AV} {ty:Ty} {xs:List ty.El} (h:look st.rows r=some (.box cs)) (hj:nth cs j=some (.sl ty xs)) (x:OkEl (.slice ty) xs→WP E K c st Q):WP E K c st Q:=fun hc C g R a w Z hrel hq=>by
 obtain ⟨_,_,_,h2,_⟩:=hrel.heap.held r _ h
 rw [nth_spec] at hj
 obtain ⟨v,_,hv⟩:=RelL_get h2 hj
 cases hv with
 | sl hs=>exact x (Reads_ok hs) hc C g R a w Z hrel hq
end
abbrev LM:=List (Nat × Option Nat)
def snocL:LM→Nat × Option Nat→LM
 | [],x=>[x]
 | y::r,x=>y::snocL r x
def eqON:Option Nat→Option Nat→Bool
 | none,none=>true
 | some a,some b=>Nat.beq a b
 | _,_=>false
def bindK (L:LM) (i:Nat) (x:Option Nat) (k:LM→Option Prop):Option Prop :=
 match look L i with
 | none=>forceL (snocL L (i,x)) k
 | some y=>match eqON x y with
   | true=>k L
   | false=>none
def andO (p:Prop):Option Prop→Option Prop
 | some q=>some (p∧q)
 | none=>none
def mX:Ext→Ext→Option Prop→Option Prop
 | .nn t xs,x,k=>match x with
   | .nn u ys=>match Ty.same u t with
     | some ⟨h⟩=>castK h ys fun ys=>andO (xs=ys) k
     | none=>none
   | _=>none
 | .full t xs,x,k=>match x with
   | .full u ys=>match Ty.same u t with
     | some ⟨h⟩=>castK h ys fun ys=>andO (xs=ys) k
     | none=>none
   | _=>none
 | .cvals t xss,x,k=>match x with
   | .cvals u yss=>match Ty.same u t with
     | some ⟨h⟩=>castK (congrArg Ty.slice h) yss fun yss=>andO (xss=yss) k
     | none=>none
   | _=>none
 | .cref t xss i,x,k=>match x with
   | .cref u yss j=>match Ty.same u t with
     | some ⟨h⟩=>castK (congrArg Ty.slice h) yss fun yss=>andO (xss=yss) (andO (i=j) k)
     | none=>none
   | _=>none
 | .fn1 a r c,x,k=>match x with
   | .fn1 a' r' c'=>match Ty.same (.fn1 a' r') (.fn1 a r) with
     | some ⟨h⟩=>castE (a:=.fn1 a' r') (b:=.fn1 a r) h c' fun c'=>andO (c=c') k
     | none=>none
   | _=>none
 | .fn2 a r c,x,k=>match x with
   | .fn2 a' r' c'=>match Ty.same (.fn2 a' r') (.fn2 a r) with
     | some ⟨h⟩=>castE (a:=.fn2 a' r') (b:=.fn2 a r) h c' fun c'=>andO (c=c') k
     | none=>none
   | _=>none
 | .opt t c,x,k=>match x with
   | .opt t' c'=>match Ty.same (.opt t') (.opt t) with
     | some ⟨h⟩=>castE (a:=.opt t') (b:=.opt t) h c' fun c'=>andO (c=c') k
     | none=>none
   | _=>none
 | .any,_,_=>none
 | .nilm,x,k=>match x with
   | .nilm=>k
   | _=>none
 | .mnil b,x,k=>match x with
   | .mnil b'=>andO (b=b') k
   | _=>none
 | .nl _,_,_=>none
mutual
def mV:AV→AV→LM→(LM→Option Prop)→Option Prop
 | .own i,x,L,k=>match x with
   | .own r=>bindK L i (some r) k
   | .nilsl=>bindK L i none k
   | _=>none
 | .ptr i j,x,L,k=>match x with
   | .ptr r j'=>match Nat.beq j j' with
     | true=>bindK L i (some r) k
     | false=>none
   | _=>none
 | .agg ps,x,L,k=>match x with
   | .agg ds=>mL ps ds L k
   | _=>none
 | .tup ps,x,L,k=>match x with
   | .tup ds=>mL ps ds L k
   | _=>none
 | .int a n,x,L,k=>match x with
   | .int b m=>match kindEq a b with
     | true=>andO (n=m) (k L)
     | false=>none
   | _=>none
 | .bool b,x,L,k=>match x with
   | .bool c=>andO (b=c) (k L)
   | _=>none
 | .str s,x,L,k=>match x with
   | .str t=>andO (s=t) (k L)
   | _=>none
 | .sl t xs,x,L,k=>match x with
   | .nilsl=>andO (xs=[]) (k L)
   | .sl u ys=>match Ty.same u t with
     | some ⟨h⟩=>castK h ys fun ys=>andO (xs=ys) (k L)
     | none=>none
   | _=>none
 | .nilsl,x,L,k=>match x with
   | .nilsl=>k L
   | _=>none
 | .nilptr,x,L,k=>match x with
   | .nilptr=>k L
   | _=>none
 | .ext .any,x,L,k=>match x.cell with
   | true=>k L
   | false=>none
 | .ext e,x,L,k=>match x with
   | .ext e'=>mX e e' (k L)
   | _=>none
 | .el t xs i j,x,L,k=>match x with
   | .el u ys i' j'=>match Ty.same u t,Nat.beq i i',Nat.beq j j' with
     | some ⟨h⟩,true,true=>castK h ys fun ys=>andO (xs=ys) (k L)
     | _,_,_=>none
   | _=>none
 | .junk,_,L,k=>k L
 | .fn f cs ds,x,L,k=>match x with
   | .fn g cs' ds'=>match Nat.beq f g with
     | true=>mL cs cs' L fun L=>mL ds ds' L k
     | false=>none
   | _=>none
 | _,_,_,_=>none
def mL:List AV→List AV→LM→(LM→Option Prop)→Option Prop
 | [],ds,L,k=>match ds with
   | []=>k L
   | _=>none
 | c::cs,ds,L,k=>match ds with
   | d::ds=>mV c d L fun L=>mL cs ds L k
   | _=>none
end
def castY {β:Type} {a b:Ty} (h:a=b) (Y:YD a) (p:List a.El) (k:YD b→List b.El→β):β:=Eq.rec (motive:=fun c _=>(YD c→List c.El→β)→β) (fun k=>k Y p) h k
def castI {β:Type} {a b c d:Ty} (h:a=c) (k:b=d) (l:List (a.El × b.El)) (x:Option (a.El × b.El)) (f:List (c.El × d.El)→Option (c.El × d.El)→β):β :=
 Eq.rec (motive:=fun c _=>(List (c.El × d.El)→Option (c.El × d.El)→β)→β) (fun f=>Eq.rec (motive:=fun d _=>(List (a.El × d.El)→Option (a.El × d.El)→β)→β) (fun f=>f l x) k f) h f
def castMM {β:Type} {k a b k' a' b':Ty} (h1:k=k') (h2:a=a') (h3:b=b') (l:List (k.El × List (a.El × b.El))) (f:List (k'.El × List (a'.El × b'.El))→β):β :=
 Eq.rec (motive:=fun c _=>(List (c.El × List (a'.El × b'.El))→β)→β) (Eq.rec (motive:=fun c _=>(List (k.El × List (c.El × b'.El))→β)→β) (Eq.rec (motive:=fun c _=>(List (k.El × List (a.El × c.El))→β)→β) (fun f=>f l) h3) h2) h1 f
def mO:AObj→AObj→LM→(LM→Option Prop)→Option Prop
 | .box cs,x,L,k=>match x with
   | .box ds=>mL cs ds L k
   | _=>none
 | .seq t xs,x,L,k=>match x with
   | .seq u ys=>match Ty.same u t with
     | some ⟨h⟩=>castK h ys fun ys=>andO (xs=ys) (k L)
     | none=>none
   | _=>none
 | .arr t xss h,x,L,k=>match x with
   | .arr u yss h'=>match Ty.same u t,eqON h h' with
     | some ⟨e⟩,true=>castK (congrArg Ty.slice e) yss fun yss=>andO (xss=yss) (k L)
     | _,_=>none
   | .box ds=>match h with
     | none=>andO (nilsOf ds xss) (k L)
     | some _=>none
   | _=>none
 | .map a b l,x,L,k=>match x with
   | .map a' b' l'=>match Ty.same a' a,Ty.same b' b with
     | some ⟨h⟩,some ⟨h'⟩=>castM h h' l' fun l'=>andO (l=l') (k L)
     | _,_=>none
   | _=>none
 | .yp i,x,L,k=>match x with
   | .yp r=>bindK L i (some r) k
   | _=>none
 | .yld t two Y p,x,L,k=>match x with
   | .yld t' two' Y' p'=>match Ty.same t' t with
     | some ⟨h⟩=>castY h Y' p' fun Y' p'=>andO (two=two'∧Y=Y'∧p=p') (k L)
     | none=>none
   | _=>none
 | .mit m t u kvs cur G,x,L,k=>match x with
   | .mit m' t' u' kvs' cur' G'=>match Ty.same t' t,Ty.same u' u with
     | some ⟨h⟩,some ⟨h'⟩=>bindK L m (some m') fun L=>castI h h' kvs' cur' fun kvs' cur'=>andO (kvs=kvs'∧cur=cur'∧G=G') (k L)
     | _,_=>none
   | _=>none
 | .bag t xs,x,L,k=>match x with
   | .seq u ys=>match Ty.same u t with
     | some ⟨h⟩=>castK h ys fun ys=>andO (List.Perm ys xs) (k L)
     | none=>none
   | .bag u ys=>match Ty.same u t with
     | some ⟨h⟩=>castK h ys fun ys=>andO (List.Perm ys xs) (k L)
     | none=>none
   | _=>none
 | .bld T e u l,x,L,k=>match x with
   | .bld T' e' u' l'=>match Nat.beq T T',Nat.beq e e' with
     | true,true=>andO (u=u'∧l=l') (k L)
     | _,_=>none
   | _=>none
 | .mit0,x,L,k=>match x with
   | .mit0=>k L
   | _=>none
 | .pend m t u kvs j,x,L,k=>match x with
   | .pend m' t' u' kvs' j'=>match Ty.same t' t,Ty.same u' u with
     | some ⟨h⟩,some ⟨h'⟩=>bindK L m (some m') fun L=>castM h h' kvs' fun kvs'=>andO (kvs=kvs'∧j=j') (k L)
     | _,_=>none
   | _=>none
 | .mmap t a b kvss h0,x,L,k=>match h0,x with
   | none,.mmap t' a' b' kvss' none=>match Ty.same t' t,Ty.same a' a,Ty.same b' b with
     | some ⟨h1⟩,some ⟨h2⟩,some ⟨h3⟩=>castMM h1 h2 h3 kvss' fun kvss'=>andO (kvss=kvss') (k L)
     | _,_,_=>none
   | some (j,d),.mmap t' a' b' kvss' (some (j',d'))=>match Ty.same t' t,Ty.same a' a,Ty.same b' b with
     | some ⟨h1⟩,some ⟨h2⟩,some ⟨h3⟩=>bindK L d (some d') fun L=>castMM h1 h2 h3 kvss' fun kvss'=>andO (kvss=kvss'∧j=j') (k L)
     | _,_,_=>none
   | _,_=>none
 | .dead,_,L,k=>k L
def mRow (st:St) (i:Nat) (o:AObj) (L:LM) (k:LM→Option Prop):Option Prop :=
 match look L i with
 | some (some r)=>match look st.rows r with
   | some o'=>mO o o' L k
   | none=>match o with
     | .dead=>k L
     | _=>none
 | some none=>match o with
   | .seq _ xs=>andO (xs=[]) (k L)
   | .dead=>k L
   | _=>none
 | none=>none
def ExtL (L L':LM):Prop:=∀ i y,look L i=some y→look L' i=some y
theorem ExtL.refl (L:LM):ExtL L L:=fun _ _ h=>h
theorem ExtL.trans {a b c:LM} (h:ExtL a b) (k:ExtL b c):ExtL a c:=fun i y e=>k i y (h i y e)
theorem look_snoc {L:LM} {i j:Nat} {x:Option Nat}:look (snocL L (i,x)) j=match look L j with|some y=>some y|none=>if i=j then some x else none:=by
 induction L with
 | nil=>simp [snocL,look_cons,look]
 | cons y L ih =>
   obtain ⟨u,y⟩:=y
   simp only [snocL,look_cons,ih]
   by_cases h:u=j <;> simp [h]
theorem eqON_eq:∀ {a b:Option Nat},eqON a b=true→a=b
 | none,none,_=>rfl
 | some _,some _,h=>by rw [beq_eq h]
 | none,some _,h=>by simp [eqON] at h
 | some _,none,h=>by simp [eqON] at h
theorem bindK_sound {L:LM} {i:Nat} {x:Option Nat} {k:LM→Option Prop} {P:Prop} (h:bindK L i x k=some P):∃ L',k L'=some P∧ExtL L L'∧look L' i=some x:=by
 unfold bindK at h
 split at h
 ·rename_i hl
  rw [forceL_eq] at h
  exact ⟨_,h,fun j y hj=>by rw [look_snoc,hj],by rw [look_snoc,hl];simp⟩
 ·rename_i y hl
  split at h
  ·rename_i he
   exact ⟨_,h,ExtL.refl _,by rw [hl,eqON_eq he]⟩
  ·cases h
theorem andO_sound {p P:Prop} {q:Option Prop} (h:andO p q=some P) (hP:P):p∧∃ P',q=some P'∧P':=by
 cases q with
 | none=>cases h
 | some q=>cases h;exact ⟨hP.1,q,rfl,hP.2⟩
theorem castL_av {t u:Ty} (h:u=t) (ys:List u.El):AV.sl u ys=AV.sl t (Ty.castL h ys):=by subst h;rfl
theorem castL_el {t u:Ty} (h:u=t) (ys:List u.El) {i j:Nat}:AV.el t (Ty.castL h ys) i j=AV.el u ys i j:=by subst h;rfl
theorem castL_ob {t u:Ty} (h:u=t) (ys:List u.El):AObj.seq u ys=AObj.seq t (Ty.castL h ys):=by subst h;rfl
def Got (L:LM) (k:LM→Option Prop) (T:LM→Prop):Prop:=∃ L' P',k L'=some P'∧P'∧ExtL L L'∧∀ L'',ExtL L' L''→T L''
theorem mX_sound {e e':Ext} {k:Option Prop} {P:Prop} (h:mX e e' k=some P) (hP:P):e=e'∧∃ P',k=some P'∧P':=by
 by_cases hn:∃ t,e=.nl t
 ·obtain ⟨t,rfl⟩:=hn;simp [mX] at h
 cases e
 case nl t=>exact absurd ⟨t,rfl⟩ hn
 case any=>simp [mX] at h
 case nilm =>
  simp only [mX] at h
  split at h <;> try (cases h;done)
  exact ⟨rfl,P,h,hP⟩
 case fn1 a r c =>
  simp only [mX] at h
  split at h <;> try (cases h;done)
  split at h <;> try (cases h;done)
  rename_i hs _
  cases hs
  obtain ⟨h1,P',h2,h3⟩:=andO_sound h hP
  exact ⟨by rw [h1],P',h2,h3⟩
 case fn2 a r c =>
  simp only [mX] at h
  split at h <;> try (cases h;done)
  split at h <;> try (cases h;done)
  rename_i hs _
  cases hs
  obtain ⟨h1,P',h2,h3⟩:=andO_sound h hP
  exact ⟨by rw [h1],P',h2,h3⟩
 case opt t c =>
  simp only [mX] at h
  split at h <;> try (cases h;done)
  split at h <;> try (cases h;done)
  rename_i hs _
  cases hs
  obtain ⟨h1,P',h2,h3⟩:=andO_sound h hP
  exact ⟨by rw [h1],P',h2,h3⟩
 all_goals clear hn
 case mnil =>
  simp only [mX] at h
  split at h <;> try (cases h;done)
  obtain ⟨h1,P',h2,h3⟩:=andO_sound h hP
  exact ⟨by rw [h1],P',h2,h3⟩
 all_goals simp only [mX] at h <;> split at h <;> (try (cases h;done)) <;> split at h <;> (try (cases h;done)) <;> rename_i hs _ <;> subst hs <;> rw [castK_eq] at h <;> obtain ⟨h1,P',h2,h3⟩:=andO_sound h hP
 ·exact ⟨by rw [h1];rfl,P',h2,h3⟩
 ·obtain ⟨h4,P2,h5,h6⟩:=andO_sound h2 h3
  exact ⟨by rw [h1,h4];rfl,P2,h5,h6⟩
 ·exact ⟨by rw [h1];rfl,P',h2,h3⟩
 ·exact ⟨by rw [h1];rfl,P',h2,h3⟩
mutual
theorem mV_sound:∀ {c x:AV} {L:LM} {k:LM→Option Prop} {P:Prop},mV c x L k=some P→P→Got L k fun L=>expV (look L) c x
 | .own i,x,L,k,P,h,hP=>by
   simp only [mV] at h
   split at h <;> try (cases h;done)
   ·rename_i r
    obtain ⟨L',h1,h2,h3⟩:=bindK_sound h
    exact ⟨L',P,h1,hP,h2,fun L'' h4=>by simp only [expV];rw [h4 _ _ h3]⟩
   ·obtain ⟨L',h1,h2,h3⟩:=bindK_sound h
    exact ⟨L',P,h1,hP,h2,fun L'' h4=>by simp only [expV];rw [h4 _ _ h3];trivial⟩
 | .ptr i j,x,L,k,P,h,hP=>by
   simp only [mV] at h
   split at h <;> try (cases h;done)
   rename_i r j'
   split at h <;> try (cases h;done)
   rename_i hj
   obtain ⟨L',h1,h2,h3⟩:=bindK_sound h
   exact ⟨L',P,h1,hP,h2,fun L'' h4=>by simp only [expV];rw [h4 _ _ h3];exact ⟨rfl,beq_eq hj⟩⟩
 | .agg ps,x,L,k,P,h,hP=>by
   simp only [mV] at h
   split at h <;> try (cases h;done)
   obtain ⟨L',P',h1,h2,h3,h4⟩:=mL_sound h hP
   exact ⟨L',P',h1,h2,h3,fun L'' h5=>by simp only [expV];exact h4 L'' h5⟩
 | .tup ps,x,L,k,P,h,hP=>by
   simp only [mV] at h
   split at h <;> try (cases h;done)
   obtain ⟨L',P',h1,h2,h3,h4⟩:=mL_sound h hP
   exact ⟨L',P',h1,h2,h3,fun L'' h5=>by simp only [expV];exact h4 L'' h5⟩
 | .int a n,x,L,k,P,h,hP=>by
   simp only [mV] at h
   split at h <;> try (cases h;done)
   split at h <;> try (cases h;done)
   rename_i hk
   obtain ⟨h1,P',h2,h3⟩:=andO_sound h hP
   exact ⟨L,P',h2,h3,ExtL.refl _,fun L'' _=>by simp only [expV];rw [kindEq_eq hk,h1]⟩
 | .bool b,x,L,k,P,h,hP=>by
   simp only [mV] at h
   split at h <;> try (cases h;done)
   obtain ⟨h1,P',h2,h3⟩:=andO_sound h hP
   exact ⟨L,P',h2,h3,ExtL.refl _,fun L'' _=>by simp only [expV];rw [h1]⟩
 | .str s,x,L,k,P,h,hP=>by
   simp only [mV] at h
   split at h <;> try (cases h;done)
   obtain ⟨h1,P',h2,h3⟩:=andO_sound h hP
   exact ⟨L,P',h2,h3,ExtL.refl _,fun L'' _=>by simp only [expV];rw [h1]⟩
 | .sl t xs,x,L,k,P,h,hP=>by
   simp only [mV] at h
   split at h <;> try (cases h;done)
   ·obtain ⟨h1,P',h2,h3⟩:=andO_sound h hP
    exact ⟨L,P',h2,h3,ExtL.refl _,fun L'' _=>by simp only [expV];exact h1⟩
   ·split at h <;> try (cases h;done)
    rename_i hs _
    rw [castK_eq] at h
    obtain ⟨h1,P',h2,h3⟩:=andO_sound h hP
    refine ⟨L,P',h2,h3,ExtL.refl _,fun L'' _=>?_⟩
    simp only [expV]
    rw [h1,castL_av hs]
 | .nilsl,x,L,k,P,h,hP=>by
   simp only [mV] at h
   split at h <;> try (cases h;done)
   exact ⟨L,P,h,hP,ExtL.refl _,fun L'' _=>by simp only [expV]⟩
 | .nilptr,x,L,k,P,h,hP=>by
   simp only [mV] at h
   split at h <;> try (cases h;done)
   exact ⟨L,P,h,hP,ExtL.refl _,fun L'' _=>by simp only [expV]⟩
 | .ext e,x,L,k,P,h,hP=>by
   cases e
   case any =>
    simp only [mV] at h
    split at h <;> try (cases h;done)
    rename_i hx
    exact ⟨L,P,h,hP,ExtL.refl _,fun L'' _=>by simp only [expV];exact hx⟩
   all_goals simp only [mV] at h
   all_goals (split at h <;> try (cases h;done))
   all_goals
    obtain ⟨h1,P',h2,h3⟩:=mX_sound h hP
    exact ⟨L,P',h2,h3,ExtL.refl _,fun L'' _=>by simp only [expV];rw [h1]⟩
 | .junk,x,L,k,P,h,hP=>by
   simp only [mV] at h
   exact ⟨L,P,h,hP,ExtL.refl _,fun L'' _=>by simp only [expV]⟩
 | .fn f cs ds,x,L,k,P,h,hP=>by
   simp only [mV] at h
   split at h <;> try (cases h;done)
   split at h <;> try (cases h;done)
   rename_i hf
   obtain ⟨L1,P1,h1,h2,h3,h4⟩:=mL_sound h hP
   obtain ⟨L2,P2,h5,h6,h7,h8⟩:=mL_sound h1 h2
   exact ⟨L2,P2,h5,h6,h3.trans h7,fun L'' h9=>by simp only [expV];exact ⟨beq_eq hf,h4 L'' (h7.trans h9),h8 L'' h9⟩⟩
 | .el t xs i j,x,L,k,P,h,hP=>by
   simp only [mV] at h
   split at h <;> try (cases h;done)
   split at h <;> try (cases h;done)
   rename_i hs _ hi hj
   rw [castK_eq] at h
   obtain ⟨h1,P',h2,h3⟩:=andO_sound h hP
   refine ⟨L,P',h2,h3,ExtL.refl _,fun L'' _=>?_⟩
   simp only [expV]
   rw [h1,beq_eq hi,beq_eq hj]
   exact castL_el hs _
 | .oel _ _ _ _,x,L,k,P,h,hP=>by simp [mV] at h
 | .part _ _ _,x,L,k,P,h,hP=>by simp [mV] at h
 | .head _ _ _,x,L,k,P,h,hP=>by simp [mV] at h
 | .nilfn,x,L,k,P,h,hP=>by simp [mV] at h
theorem mL_sound:∀ {cs ds:List AV} {L:LM} {k:LM→Option Prop} {P:Prop},mL cs ds L k=some P→P→Got L k fun L=>expL (look L) cs ds
 | [],ds,L,k,P,h,hP=>by
   simp only [mL] at h
   split at h <;> try (cases h;done)
   exact ⟨L,P,h,hP,ExtL.refl _,fun L'' _=>by simp only [expL]⟩
 | c::cs,ds,L,k,P,h,hP=>by
   simp only [mL] at h
   split at h <;> try (cases h;done)
   obtain ⟨L1,P1,h1,h2,h3,h4⟩:=mV_sound h hP
   obtain ⟨L2,P2,h5,h6,h7,h8⟩:=mL_sound h1 h2
   exact ⟨L2,P2,h5,h6,h3.trans h7,fun L'' h9=>by simp only [expL];exact ⟨h4 L'' (h7.trans h9),h8 L'' h9⟩⟩
end
theorem mO_sound {o x:AObj} {L:LM} {k:LM→Option Prop} {P:Prop} (h:mO o x L k=some P) (hP:P):Got L k fun L=>expO (look L) o x:=by
 cases o with
 | box cs =>
   simp only [mO] at h
   split at h <;> try (cases h;done)
   exact mL_sound h hP
 | seq t xs =>
   simp only [mO] at h
   split at h <;> try (cases h;done)
   split at h <;> try (cases h;done)
   rename_i hs _
   rw [castK_eq] at h
   obtain ⟨h1,P',h2,h3⟩:=andO_sound h hP
   exact ⟨L,P',h2,h3,ExtL.refl _,fun L'' _=>by simp only [expO];rw [h1,castL_ob hs]⟩
 | arr t xss hl =>
   simp only [mO] at h
   split at h <;> try (cases h;done)
   ·split at h <;> try (cases h;done)
    rename_i hs _ he
    subst hs
    rw [castK_eq] at h
    obtain ⟨h1,P',h2,h3⟩:=andO_sound h hP
    exact ⟨L,P',h2,h3,ExtL.refl _,fun L'' _=>by simp only [expO];rw [h1,eqON_eq he];rfl⟩
   ·split at h <;> try (cases h;done)
    obtain ⟨h1,P',h2,h3⟩:=andO_sound h hP
    exact ⟨L,P',h2,h3,ExtL.refl _,fun L'' _=>by simp only [expO];exact ⟨by trivial,h1⟩⟩
 | map a b l =>
   simp only [mO] at h
   split at h <;> try (cases h;done)
   split at h <;> try (cases h;done)
   rename_i h1 h2 _ _
   subst h1 h2
   obtain ⟨h1,P',h2,h3⟩:=andO_sound h hP
   exact ⟨L,P',h2,h3,ExtL.refl _,fun L'' _=>by simp only [expO];rw [h1]⟩
 | yp i =>
   simp only [mO] at h
   split at h <;> try (cases h;done)
   obtain ⟨L',h1,h2,h3⟩:=bindK_sound h
   exact ⟨L',P,h1,hP,h2,fun L'' h4=>by simp only [expO];rw [h4 _ _ h3]⟩
 | yld t two Y p =>
   simp only [mO] at h
   split at h <;> try (cases h;done)
   split at h <;> try (cases h;done)
   rename_i hs _
   subst hs
   obtain ⟨⟨rfl,rfl,rfl⟩,P',h2,h3⟩:=andO_sound h hP
   exact ⟨L,P',h2,h3,ExtL.refl _,fun L'' _=>by simp only [expO]⟩
 | mit m t u kvs cur G =>
   simp only [mO] at h
   split at h <;> try (cases h;done)
   split at h <;> try (cases h;done)
   rename_i hs hu _ _
   subst hs hu
   obtain ⟨L',h1,h2,h3⟩:=bindK_sound h
   obtain ⟨⟨rfl,rfl,rfl⟩,P',h4,h5⟩:=andO_sound h1 hP
   exact ⟨L',P',h4,h5,h2,fun L'' h6=>by simp only [expO];rw [h6 _ _ h3];exact ⟨trivial,rfl⟩⟩
 | bag t xs =>
   simp only [mO] at h
   split at h <;> try (cases h;done)
   all_goals
    split at h <;> try (cases h;done)
    rename_i hs _
    rw [castK_eq] at h
    obtain ⟨h1,P',h2,h3⟩:=andO_sound h hP
    exact ⟨L,P',h2,h3,ExtL.refl _,fun L'' _=>by simp only [expO];exact ⟨hs,h1⟩⟩
 | bld T e u l =>
   simp only [mO] at h
   split at h <;> try (cases h;done)
   split at h <;> try (cases h;done)
   rename_i h1 h2
   obtain ⟨⟨rfl,rfl⟩,P',h3,h4⟩:=andO_sound h hP
   exact ⟨L,P',h3,h4,ExtL.refl _,fun L'' _=>by simp only [expO];rw [beq_eq h1,beq_eq h2]⟩
 | mit0 =>
   simp only [mO] at h
   split at h <;> try (cases h;done)
   exact ⟨L,P,h,hP,ExtL.refl _,fun L'' _=>by simp only [expO]⟩
 | pend m t u kvs j =>
   simp only [mO] at h
   split at h <;> try (cases h;done)
   split at h <;> try (cases h;done)
   rename_i hs hu _ _
   subst hs hu
   obtain ⟨L',h1,h2,h3⟩:=bindK_sound h
   obtain ⟨⟨rfl,rfl⟩,P',h4,h5⟩:=andO_sound h1 hP
   exact ⟨L',P',h4,h5,h2,fun L'' h6=>by simp only [expO];rw [h6 _ _ h3];exact ⟨trivial,rfl⟩⟩
 | mmap t a b kvss h0 =>
   simp only [mO] at h
   split at h <;> try (cases h;done)
   ·split at h <;> try (cases h;done)
    rename_i h1 h2 h3 _ _ _
    subst h1 h2 h3
    obtain ⟨h1,P',h2,h3⟩:=andO_sound h hP
    exact ⟨L,P',h2,h3,ExtL.refl _,fun L'' _=>by simp only [expO];rw [h1]⟩
   ·split at h <;> try (cases h;done)
    rename_i h1 h2 h3 _ _ _
    subst h1 h2 h3
    obtain ⟨L',h1,h2,h3⟩:=bindK_sound h
    obtain ⟨⟨rfl,rfl⟩,P',h4,h5⟩:=andO_sound h1 hP
    exact ⟨L',P',h4,h5,h2,fun L'' h6=>by simp only [expO];rw [h6 _ _ h3];exact ⟨trivial,rfl⟩⟩
 | dead =>
   simp only [mO] at h
   exact ⟨L,P,h,hP,ExtL.refl _,fun L'' _=>trivial⟩
theorem mRow_sound {st:St} {i:Nat} {o:AObj} {L:LM} {k:LM→Option Prop} {P:Prop} (h:mRow st i o L k=some P) (hP:P):Got L k fun L=>expRow st (look L) i o:=by
 unfold mRow at h
 split at h
 ·rename_i r hr
  split at h
  ·rename_i o' ho
   obtain ⟨L1,P1,h1,h2,h3,h4⟩:=mO_sound h hP
   exact ⟨L1,P1,h1,h2,h3,fun L'' h5=>by show expRow st (look L'') i o;unfold expRow;rw [h5 _ _ (h3 _ _ hr)];simp only [ho];exact h4 L'' h5⟩
  ·rename_i ho
   split at h <;> try (cases h;done)
   exact ⟨L,P,h,hP,ExtL.refl _,fun L'' h5=>by show expRow st (look L'') i _;unfold expRow;rw [h5 _ _ hr];simp only [ho]⟩
 ·rename_i hr
  split at h <;> try (cases h;done)
  ·obtain ⟨h1,P',h2,h3⟩:=andO_sound h hP
   exact ⟨L,P',h2,h3,ExtL.refl _,fun L'' h5=>by show expRow st (look L'') i _;unfold expRow;rw [h5 _ _ hr];exact h1⟩
  ·exact ⟨L,P,h,hP,ExtL.refl _,fun L'' h5=>by show expRow st (look L'') i _;unfold expRow;rw [h5 _ _ hr];trivial⟩
 ·cases h
def mSlots (st:St):List (Nat × Ent)→LM→(LM→Option Prop)→Option Prop
 | [],L,k=>k L
 | (t,e)::r,L,k=>match e.path,look st.slots t with
   | [],some ⟨[],v⟩=>mV e.av v L fun L=>mSlots st r L k
   | _,_=>none
def mRows (st:St):List (Nat × AObj)→LM→(LM→Option Prop)→Option Prop
 | [],L,k=>k L
 | (i,o)::r,L,k=>mRow st i o L fun L=>mRows st r L k
theorem mSlots_sound {st:St}:∀ {l:List (Nat × Ent)} {L:LM} {k:LM→Option Prop} {P:Prop},mSlots st l L k=some P→P→Got L k fun L=>slotsX st (look L) l
 | [],L,k,P,h,hP=>⟨L,P,h,hP,ExtL.refl _,fun _ _=>trivial⟩
 | (t,e)::r,L,k,P,h,hP=>by
   simp only [mSlots] at h
   split at h <;> try (cases h;done)
   rename_i v h1 h2
   obtain ⟨L1,P1,h3,h4,h5,h6⟩:=mV_sound h hP
   obtain ⟨L2,P2,h7,h8,h9,h10⟩:=mSlots_sound h3 h4
   refine ⟨L2,P2,h7,h8,h5.trans h9,fun L'' h11=>⟨?_,h10 L'' h11⟩⟩
   simp only [h1,h2]
   exact h6 L'' (h9.trans h11)
theorem mRows_sound {st:St}:∀ {l:List (Nat × AObj)} {L:LM} {k:LM→Option Prop} {P:Prop},mRows st l L k=some P→P→Got L k fun L=>rowsX st (look L) l
 | [],L,k,P,h,hP=>⟨L,P,h,hP,ExtL.refl _,fun _ _=>trivial⟩
 | (t,e)::r,L,k,P,h,hP=>by
   simp only [mRows] at h
   obtain ⟨L1,P1,h3,h4,h5,h6⟩:=mRow_sound h hP
   obtain ⟨L2,P2,h7,h8,h9,h10⟩:=mRows_sound h3 h4
   exact ⟨L2,P2,h7,h8,h5.trans h9,fun L'' h11=>⟨h6 L'' (h9.trans h11),h10 L'' h11⟩⟩
def eqNL:List Nat→List Nat→Bool
 | [],[]=>true
 | a::r,b::s=>match Nat.beq a b with
   | true=>eqNL r s
   | false=>false
 | _,_=>false
theorem eqNL_eq:∀ {a b:List Nat},eqNL a b=true→a=b
 | [],[],_=>rfl
 | a::r,b::s,h=>by
   simp only [eqNL] at h
   split at h
   ·rename_i h1;rw [beq_eq h1,eqNL_eq h]
   ·cases h
 | [],_::_,h=>by simp [eqNL] at h
 | _::_,[],h=>by simp [eqNL] at h
def passedL:List Nat→LM
 | []=>[]
 | k::r=>match Nat.blt k 100000 with
   | true=>passedL r
   | false=>(k,some k)::passedL r
def subE (st m:St):Option Prop:=match st.gt,m.gt,Nat.beq m.n st.n with
 | [],[],true=>forceL (passedL m.ks) fun L=>mSlots st m.slots L fun L=>mRows st m.rows L fun L=>match eqNL m.ks (fstL L),ksX st L,nodupK (someK (sndL L)) with
   | true,true,true=>some True
   | _,_,_=>none
 | _,_,_=>none
theorem subE_sound {st m:St} {P:Prop} (h:subE st m=some P) (hP:P):SubA st m:=by
 unfold subE at h
 split at h <;> try (cases h;done)
 rename_i h1 h2 h3
 rw [forceL_eq] at h
 obtain ⟨L1,P1,h4,h5,h6,h7⟩:=mSlots_sound h hP
 obtain ⟨L2,P2,h8,h9,h10,h11⟩:=mRows_sound h4 h5
 dsimp only at h8
 split at h8 <;> try (cases h8;done)
 rename_i h12 h13 h14
 exact .ren L2 ⟨beq_eq h3,h2,h1,h7 L2 h10,h11 L2 (ExtL.refl _),eqNL_eq h12,h13,h14⟩
def slotKeysK {β:Type}:List (Nat × Ent)→List Nat→(List Nat→β)→β
 | [],l,k=>k l
 | (_,e)::r,l,k=>keysVK e.av l fun l=>slotKeysK r l k
def growS (st:St) (rv:List (Nat × AObj)):Nat→List Nat→List Nat→List (Nat × AObj)→(List Nat→List (Nat × AObj)→Option St)→Option St
 | 0,_,_,_,_=>none
 | _+1,[],all,acc,k=>k all acc
 | n+1,r::pend,all,acc,k=>match look rv r with
   | some o=>keysOK all o fun all'=>forceL (appK pend (dropL (lenL all) all')) fun pend'=>growS st rv n pend' all' ((r,o)::acc) k
   | none=>match look st.rows r with
     | some o=>keysOK all o fun all'=>forceL (appK pend (dropL (lenL all) all')) fun pend'=>growS st rv n pend' all' ((r,o)::acc) k
     | none=>growS st rv n pend all acc k
def fstP:LM→List Nat
 | []=>[]
 | (k,_)::r=>k::fstP r
def revR:List (Nat × AObj)→List (Nat × AObj)→List (Nat × AObj)
 | [],l=>l
 | x::r,l=>revR r (x::l)
def mkL (st:St) (live:List Nat) (ov:List (Nat × AV)) (rv:List (Nat × AObj)):Option St :=
 forceE (keepS st ov live) fun slots=>forceL (fstP (passedL st.ks)) fun p=>slotKeysK slots p fun all=>growS st rv 200 all all [] fun all rows=>forceR (revR rows []) fun rows=>match st with
  | ⟨n,_,_,_,_⟩=>some ⟨n,slots,[],all,rows⟩
def loopPost {σ:Type} (mk:σ→St) (I:σ→Prop) (μ:σ→Nat) (s:σ) (Q:AExit→St→Prop) (e:AExit) (st':St):Prop:=match e with
 | .normal=>∃ s',I s'∧μ s' < μ s∧SubA st' (mk s')
 | e=>Q e st'
section
variable {P:Program} {tt:TT} {S:Nat→Option Spec} {E:Env P tt S} {K:List Nat} {c b:Code} {st:St} {Q:AExit→St→Prop}
theorem loopI {σ:Type} (ov:σ→List (Nat × AV)) (rv:σ→List (Nat × AObj)) (I:σ→Prop) (μ:σ→Nat) (s₀:σ) {mk:σ→St} {p₀:Prop} (hc:isLoop c=true)
 (hm:∀ s,mkL st K (ov s) (rv s)=some (mk s)) (e₀:subE st (mk s₀)=some p₀) (h₀:I s₀) (hp₀:p₀) (h:∀ s,I s→WP E K (inner c) (mk s) (loopPost mk I μ s Q)):WP E K c st Q:=by
 cases c <;> simp [isLoop] at hc
 intro hc C g R a w Z hrel hq
 simp only [codeOk] at hc
 refine wp_loop_ghost (fun s a w=>I s∧∃ C1 g R,Later C C1∧Rel C1 g R (mk s) a w) μ s₀ ⟨h₀,(subA_sound (subE_sound e₀ hp₀) hrel).elim fun g' h=>⟨C,g',R,Later.refl C,h⟩⟩ ?_
 rintro s a w ⟨hI,C1,g,R,hx1,hrel⟩
 refine h s hI hc C1 g R a w _ hrel ?_
 intro C2 e st' g' R' a' w' hx2 hz hr
 have hx:=hx1.trans hx2
 cases e with
 | normal =>
   obtain ⟨s',h4,h5,h6⟩:=hz
   exact ⟨s',⟨h4,(subA_sound h6 hr).elim fun g' h=>⟨C2,g',R',hx,h⟩⟩,h5⟩
 | exit id=>exact hq C2 (.exit id) st' g' R' a' w' hx hz hr
 | ret=>exact hq C2 .ret st' g' R' a' w' hx hz hr
theorem roundI {σ:Type} {mk:σ→St} {I:σ→Prop} {μ:σ→Nat} {s:σ} {p:Prop} (s':σ) (e:subE st (mk s')=some p) (hI:I s') (hμ:μ s' < μ s) (hp:p):loopPost mk I μ s Q .normal st :=
 ⟨s',hI,hμ,subE_sound e hp⟩
theorem lE {σ:Type} {mk:σ→St} {I:σ→Prop} {μ:σ→Nat} {s:σ} {i:Nat} (k:Q (.exit i) st):loopPost mk I μ s Q (.exit i) st:=k
theorem lR {σ:Type} {mk:σ→St} {I:σ→Prop} {μ:σ→Nat} {s:σ} (k:Q .ret st):loopPost mk I μ s Q .ret st:=k
def cutPost {σ:Type} (mk:σ→St) (I:σ→Prop) (Q:AExit→St→Prop) (e:AExit) (st':St):Prop:=match e with
 | .normal=>∃ s,I s∧SubA st' (mk s)
 | e=>Q e st'
theorem joinC {σ:Type} (ov:σ→List (Nat × AV)) (rv:σ→List (Nat × AObj)) (I:σ→Prop) {mk:σ→St} (hm:∀ s,mkL st K (ov s) (rv s)=some (mk s))
 (h1:WP E K c st (cutPost mk I Q)) (h2:∀ s,I s→WP E K b (mk s) Q):WP E K c st (contSeq E K b Q):=fun hc C g R a w Z hrel hq=>by
 refine h1 hc C g R a w Z hrel fun C1 e s g' R' a' w' hx hz hr=>hq C1 e s g' R' a' w' hx ?_ hr
 cases e with
 | normal =>
   obtain ⟨s',h3,h4⟩:=hz
   exact forgetI h4 (h2 s' h3)
 | exit id=>exact hz
 | ret=>exact hz
theorem meetI {σ:Type} {mk:σ→St} {I:σ→Prop} {p:Prop} (s:σ) (e:subE st (mk s)=some p) (hI:I s) (hp:p):cutPost mk I Q .normal st:=⟨s,hI,subE_sound e hp⟩
theorem jE {σ:Type} {mk:σ→St} {I:σ→Prop} {i:Nat} (k:Q (.exit i) st):cutPost mk I Q (.exit i) st:=k
theorem jR {σ:Type} {mk:σ→St} {I:σ→Prop} (k:Q .ret st):cutPost mk I Q .ret st:=k
theorem tidyI (ov:List (Nat × AV)) (rv:List (Nat × AObj)) {m:St} {p:Prop} (hm:mkL st K ov rv=some m) (e:subE st m=some p) (hp:p) (k:WP E K c m Q):WP E K c st Q :=
 forgetI (subE_sound e hp) k
end
mutual
def frzV (r:Nat) (t:Ty) (xs:List t.El):AV→AV
 | .own k=>match Nat.beq k r with
   | true=>.sl t xs
   | false=>.own k
 | .agg cs=>.agg (frzL r t xs cs)
 | .tup cs=>.tup (frzL r t xs cs)
 | .fn f cs ds=>.fn f (frzL r t xs cs) (frzL r t xs ds)
 | v=>v
def frzL (r:Nat) (t:Ty) (xs:List t.El):List AV→List AV
 | []=>[]
 | c::cs=>frzV r t xs c::frzL r t xs cs
end
def frzO (r:Nat) (t:Ty) (xs:List t.El):AObj→AObj
 | .box cs=>.box (frzL r t xs cs)
 | o=>o
def frzS (r:Nat) (t:Ty) (xs:List t.El):List (Nat × Ent)→List (Nat × Ent)
 | []=>[]
 | (i,e)::l=>(i,⟨e.path,frzV r t xs e.av⟩)::frzS r t xs l
def frzR (r:Nat) (t:Ty) (xs:List t.El):List (Nat × AObj)→List (Nat × AObj)
 | []=>[]
 | (i,o)::l=>(i,match Nat.beq i r with
   | true=>.dead
   | false=>frzO r t xs o)::frzR r t xs l
def frzSt (r:Nat) (st:St):Option St:=match look st.rows r with
 | some (.seq t xs)=>match st with
   | ⟨n,slots,gt,ks,rows⟩=>forceE (frzS r t xs slots) fun slots=>forceR (frzR r t xs rows) fun rows=>some ⟨n,slots,gt,ks,rows⟩
 | _=>none
section
variable {g:Nat→Gh} {K0 R R':Nat→Prop} {w:World} {r:Nat} {t:Ty} {xs:List t.El}
mutual
theorem frzV_rel (hR:∀ b,R b→R' b) (he:ElemR R w t xs (g r).v) (hb:∀ b,blkOf (g r).v=some b→R' b):∀ {c:AV} {v:Value},RelV g K0 R w c v→RelV g K0 R' w (frzV r t xs c) v
 | _,_,.int h=>.int h
 | _,_,.bool=>.bool
 | _,_,.str h=>.str h
 | _,_,.sl h=>RelV_weaken (fun _ h=>h) hR (.sl h)
 | _,_,.el hi h=>RelV_weaken (fun _ h=>h) hR (.el hi h)
 | _,_,.own (r:=k) hk h1=>by
   simp only [frzV]
   cases h:Nat.beq k r
   ·exact .own hk h1
   ·obtain rfl:=beq_eq h
    exact .sl (reads_of_elem he hR hb)
 | _,_,.oel hk h1=>.oel hk h1
 | _,_,.part hk h1 h2=>.part hk h1 h2
 | _,_,.head hk h1 h2=>.head hk h1 h2
 | _,_,.ptr hk=>.ptr hk
 | _,_,.agg hc=>.agg (frzL_rel hR he hb hc)
 | _,_,.tup hc=>.tup (frzL_rel hR he hb hc)
 | _,_,.fn hc hd=>.fn (frzL_rel hR he hb hc) (frzL_rel hR he hb hd)
 | _,_,.nilsl=>.nilsl
 | _,_,.nilptr=>.nilptr
 | _,_,.nilfn=>.nilfn
 | _,_,.ext h=>RelV_weaken (fun _ h=>h) hR (.ext h)
 | _,_,.junk=>.junk
theorem frzL_rel (hR:∀ b,R b→R' b) (he:ElemR R w t xs (g r).v) (hb:∀ b,blkOf (g r).v=some b→R' b):∀ {cs:List AV} {vs:List Value},RelL g K0 R w cs vs→RelL g K0 R' w (frzL r t xs cs) vs
 | _,_,.nil=>.nil
 | _,_,.cons h1 h2=>.cons (frzV_rel hR he hb h1) (frzL_rel hR he hb h2)
end
theorem look_frzS:∀ {l:List (Nat × Ent)} {i:Nat} {e:Ent},look (frzS r t xs l) i=some e→∃ e0,look l i=some e0∧e=⟨e0.path,frzV r t xs e0.av⟩
 | [],i,e,h=>by simp [frzS,look] at h
 | (k,e0)::l,i,e,h=>by
   simp only [frzS] at h
   rw [look_cons] at h ⊢
   by_cases hk:k=i
   ·simp [hk] at h;exact ⟨e0,by simp [hk],h.symm⟩
   ·simp [hk] at h;simp only [hk,if_false];exact look_frzS h
theorem look_frzR:∀ {l:List (Nat × AObj)} {i:Nat} {o:AObj},look (frzR r t xs l) i=some o→(i=r∧o=.dead)∨(i≠r∧∃ o0,look l i=some o0∧o=frzO r t xs o0)
 | [],i,o,h=>by simp [frzR,look] at h
 | (k,o0)::l,i,o,h=>by
   simp only [frzR] at h
   rw [look_cons] at h ⊢
   by_cases hk:k=i
   ·subst hk
    simp at h
    cases hb:Nat.beq k r
    ·rw [hb] at h;exact .inr ⟨beq_ne hb,o0,by simp,h.symm⟩
    ·rw [hb] at h;exact .inl ⟨beq_eq hb,h.symm⟩
   ·simp [hk] at h;simp only [hk,if_false];exact look_frzR h
end
section
variable {P:Program} {tt:TT} {S:Nat→Option Spec} {E:Env P tt S} {K:List Nat} {c b:Code} {st:St} {Q:AExit→St→Prop}
theorem frz_sound {C:Ctx} {g:Nat→Gh} {R:Nat→Prop} {a:Act} {w:World} {r:Nat} {m:St} (h:frzSt r st=some m) (hrel:Rel C g R st a w):∃ R',Rel C g R' m a w:=by
 unfold frzSt at h
 split at h <;> try (cases h;done)
 rename_i t xs ho
 obtain ⟨n,slots,gt,ks,rows⟩:=st
 simp only [forceE_eq,forceR_eq,Option.some.injEq] at h
 subst h
 have he:ElemR R w t xs (g r).v:=hrel.heap.held r _ ho
 obtain ⟨R',hR'⟩:∃ R':Nat→Prop,R'=fun b=>R b∨blkOf (g r).v=some b:=⟨_,rfl⟩
 have hR:∀ b,R b→R' b:=fun b h=>by rw [hR'];exact .inl h
 have hb:∀ b,blkOf (g r).v=some b→R' b:=fun b h=>by rw [hR'];exact .inr h
 have hlk:∀ r' o,look [(r,AObj.dead)] r'=some o→r'=r∧o=.dead:=fun r' o h=>by
  rw [look_cons] at h
  by_cases e:r=r'
  ·simp [e] at h;exact ⟨e.symm,h.symm⟩
  ·simp [e,look] at h
 have gen:=(hrel.heap.gen (g':=g) (R':=R') (w':=w) [(r,.dead)] [] (fun r'=>r'=r) (fun r hr=>by simp [mem] at hr) (fun r' o h=>.inl ((hlk r' o h).1 ▸ hrel.heap.keys r _ ho)) (fun r' h=>⟨.dead,by rw [h,look_cons];simp⟩)
  rfl rfl rfl (Nat.le_refl _) (fun _ _=>.inl rfl) (fun _ _=>rfl) hR
  (fun b hb'=>by
   rw [hR'] at hb'
   rcases hb' with h|h
   ·exact hrel.heap.rlt b h
   ·exact Own_lt (hrel.heap.held r _ ho) h)
  (fun b hb'=>by
   rw [hR'] at hb'
   rcases hb' with h|h
   ·exact .inl h
   ·exact .inr (.inr ⟨r,_,rfl,ho,h⟩))
  (fun r' o h=>by rw [(hlk r' o h).2];trivial) (fun r' o b h hb=>by rw [(hlk r' o h).2] at hb;simp [Own] at hb) (fun r1 r2 o1 o2 b h1 h2 h3 _=>by rw [(hlk r1 o1 h1).2] at h3;simp [Own] at h3)).1.lists (ks:=ks) (rows:=rows)
 have gen:HeapR C g R' (fun r=>mem ks r=true) (look ((r,.dead)::rows)) w:=gen
 have hold:∀ i o,i≠r→look rows i=some o→look ((r,AObj.dead)::rows) i=some o:=fun i o hi h=>by rw [look_cons,if_neg (Ne.symm hi)];exact h
 have hOwn:∀ i o b,Own g w i (frzO r t xs o) b↔Own g w i o b:=fun i o b=>by cases o <;> rfl
 refine ⟨R',hrel.size,hrel.defers,fun i e hi=>?_,fun i e hi u x hx=>?_,?_⟩
 ·obtain ⟨e0,h1,rfl⟩:=look_frzS hi
  obtain ⟨h2,h3⟩:=hrel.slots i e0 h1
  exact ⟨fun hp=>by obtain ⟨v,h4,h5⟩:=h2 hp;exact ⟨v,h4,frzV_rel hR he hb h5⟩,h3⟩
 ·obtain ⟨e0,h1,rfl⟩:=look_frzS hi
  exact hrel.gts i e0 h1 u x hx
 ·refine ⟨gen.hsize,gen.os,gen.tape,gen.output,gen.frame,gen.rsub,gen.rlt,gen.rnew,gen.gfix,fun i o hi=>?_,fun i o hi=>?_,fun i o b hi hb=>?_,fun i j o o' b h1 h2 h3 h4=>?_⟩
  ·rcases look_frzR hi with ⟨rfl,_⟩|⟨_,o0,h1,_⟩
   ·exact hrel.heap.keys _ _ ho
   ·exact hrel.heap.keys _ _ h1
  ·rcases look_frzR hi with ⟨rfl,rfl⟩|⟨hne,o0,h1,rfl⟩
   ·trivial
   ·have h2:=gen.held i o0 (hold i o0 hne h1)
    cases o0 with
    | box cs =>
      obtain ⟨vs,ty,h3,h4,h5⟩:=hrel.heap.held i _ h1
      exact ⟨vs,ty,h3,frzL_rel hR he hb h4,h5⟩
    | seq u ys=>exact h2
    | arr u yss hl=>exact h2
    | map a b l=>exact h2
    | yp k=>exact h2
    | yld t two Y p=>exact h2
    | mit m k v kvs cur G=>exact h2
    | mit0=>exact h2
    | bld T e u l=>exact h2
    | bag t xs=>exact h2
    | pend m k v kvs j=>exact h2
    | mmap k a b kvss h0=>exact h2
    | dead=>trivial
  ·rcases look_frzR hi with ⟨rfl,rfl⟩|⟨hne,o0,h1,rfl⟩
   ·simp [Own] at hb
   ·exact gen.own i o0 b (hold i o0 hne h1) ((hOwn i o0 b).1 hb)
  ·rcases look_frzR h1 with ⟨rfl,rfl⟩|⟨hne,o0,h5,rfl⟩
   ·simp [Own] at h3
   ·rcases look_frzR h2 with ⟨rfl,rfl⟩|⟨hne2,o2,h6,rfl⟩
    ·simp [Own] at h4
    ·exact gen.sep i j o0 o2 b (hold i o0 hne h5) (hold j o2 hne2 h6) ((hOwn i o0 b).1 h3) ((hOwn j o2 b).1 h4)
theorem freezeI (r:Nat) {m:St} (h:frzSt r st=some m) (k:WP E K c m Q):WP E K c st Q:=fun hc C g R a w Z hrel hq=>by
 obtain ⟨R',hr⟩:=frz_sound h hrel
 exact k hc C g R' a w Z hr hq
end
def reF (r d k:Nat):Nat:=match Nat.beq k r with
 | true=>d
 | false=>k
def reS (r d:Nat):List (Nat × Ent)→List (Nat × Ent)
 | []=>[]
 | (i,e)::l=>(i,⟨e.path,AV.ren (reF r d) e.av⟩)::reS r d l
def reR (r d:Nat):List (Nat × AObj)→List (Nat × AObj)
 | []=>[]
 | (i,o)::l=>(i,match Nat.beq i r with
   | true=>.dead
   | false=>AObj.ren (reF r d) o)::reR r d l
def plainO:AObj→Bool
 | .seq _ _=>true
 | .yld _ _ _ _=>true
 | _=>false
theorem plainO_ren {o:AObj} {f:Nat→Nat} (h:plainO o=true):o.ren f=o:=by
 cases o <;> first|rfl|(simp [plainO] at h)
def reSt (r d:Nat) (st:St):Option St:=match look st.rows r,mem st.ks d,Nat.blt d 100000 with
 | some o,false,true=>match plainO o with
   | true=>match st with
     | ⟨n,slots,gt,ks,rows⟩=>forceE (reS r d slots) fun slots=>forceR (reR r d rows) fun rows=>forceO o fun o=>some ⟨n,slots,gt,d::ks,(d,o)::rows⟩
   | false=>none
 | _,_,_=>none
theorem look_reS {r d:Nat}:∀ {l:List (Nat × Ent)} {i:Nat} {e:Ent},look (reS r d l) i=some e→∃ e0,look l i=some e0∧e=⟨e0.path,AV.ren (reF r d) e0.av⟩
 | [],i,e,h=>by simp [reS,look] at h
 | (k,e0)::l,i,e,h=>by
   simp only [reS] at h
   rw [look_cons] at h ⊢
   by_cases hk:k=i
   ·simp [hk] at h;exact ⟨e0,by simp [hk],h.symm⟩
   ·simp [hk] at h;simp only [hk,if_false];exact look_reS h
theorem look_reR {r d:Nat}:∀ {l:List (Nat × AObj)} {i:Nat} {o:AObj},look (reR r d l) i=some o→(i=r∧o=.dead)∨(i≠r∧∃ o0,look l i=some o0∧o=AObj.ren (reF r d) o0)
 | [],i,o,h=>by simp [reR,look] at h
 | (k,o0)::l,i,o,h=>by
   simp only [reR] at h
   rw [look_cons] at h ⊢
   by_cases hk:k=i
   ·subst hk
    simp at h
    cases hb:Nat.beq k r
    ·rw [hb] at h;exact .inr ⟨beq_ne hb,o0,by simp,h.symm⟩
    ·rw [hb] at h;exact .inl ⟨beq_eq hb,h.symm⟩
   ·simp [hk] at h;simp only [hk,if_false];exact look_reR h
section
variable {P:Program} {tt:TT} {S:Nat→Option Spec} {E:Env P tt S} {K:List Nat} {c b:Code} {st:St} {Q:AExit→St→Prop}
theorem re_sound {C:Ctx} {g:Nat→Gh} {R:Nat→Prop} {a:Act} {w:World} {r d:Nat} {m:St} (h:reSt r d st=some m) (hrel:Rel C g R st a w):∃ g',Rel C g' R m a w:=by
 unfold reSt at h
 split at h <;> try (cases h;done)
 rename_i oo ho hd hlt
 split at h <;> try (cases h;done)
 rename_i hpl
 obtain ⟨n,slots,gt,ks,rows⟩:=st
 simp only [forceE_eq,forceR_eq,forceO_eq,Option.some.injEq] at h
 subst h
 have hk:mem ks r=true:=hrel.heap.keys r _ ho
 have hdr:d≠r:=fun e=>by subst e;rw [hk] at hd;cases hd
 obtain ⟨g',hg'⟩:∃ g':Nat→Gh,g'=fun k=>if k=d then g r else g k:=⟨_,rfl⟩
 have hgd:g' d=g r:=by rw [hg'];simp
 have hgk:∀ k,mem ks k=true→g' k=g k:=fun k hk=>by
  rw [hg']
  have:k≠d:=fun e=>by subst e;rw [hk] at hd;cases hd
  simp [this]
 have hmd:∀ k,mem (d::ks) k=true↔(k=d∨mem ks k=true):=fun k=>by rw [mem_cons];simp only [Bool.or_eq_true,decide_eq_true_eq];exact ⟨fun h=>h.imp Eq.symm id,fun h=>h.imp Eq.symm id⟩
 have hren:∀ k,mem ks k=true→mem (d::ks) (reF r d k)=true∧g' (reF r d k)=g k:=fun k hk=>by
  unfold reF
  cases hb:Nat.beq k r
  ·exact ⟨(hmd k).2 (.inr hk),hgk k hk⟩
  ·rw [beq_eq hb];exact ⟨(hmd d).2 (.inl rfl),hgd⟩
 have hlk:∀ i o,look ((d,oo)::reR r d rows) i=some o→(i=d∧o=oo)∨(i≠d∧i=r∧o=.dead)∨(i≠d∧i≠r∧∃ o0,look rows i=some o0∧o=AObj.ren (reF r d) o0):=fun i o h=>by
  rw [look_cons] at h
  by_cases e:d=i
  ·simp [e] at h;exact .inl ⟨e.symm,h.symm⟩
  ·simp [e] at h
   rcases look_reR h with ⟨h1,h2⟩|⟨h1,h2⟩
   ·exact .inr (.inl ⟨Ne.symm e,h1,h2⟩)
   ·exact .inr (.inr ⟨Ne.symm e,h1,h2⟩)
 have hOwn:∀ i o b,look ((d,oo)::reR r d rows) i=some o→Own g' w i o b→∃ i0 o0,look rows i0=some o0∧Own g w i0 o0 b∧((i=d∧i0=r)∨(i=i0∧i≠r)):=fun i o b h hb=>by
  rcases hlk i o h with ⟨rfl,rfl⟩|⟨_,_,rfl⟩|⟨_,h1,o0,h2,rfl⟩
  ·rw [← plainO_ren (f:=reF r i) hpl,Own_ren hgd] at hb
   exact ⟨r,_,ho,hb,.inl ⟨rfl,rfl⟩⟩
  ·simp [Own] at hb
  ·rw [Own_ren (hgk i (hrel.heap.keys i _ h2))] at hb
   exact ⟨i,o0,h2,hb,.inr ⟨rfl,h1⟩⟩
 refine ⟨g',hrel.size,hrel.defers,fun i e hi=>?_,fun i e hi u x hx=>?_,?_⟩
 ·obtain ⟨e0,h1,rfl⟩:=look_reS hi
  obtain ⟨h2,h3⟩:=hrel.slots i e0 h1
  exact ⟨fun hp=>by obtain ⟨v,h4,h5⟩:=h2 hp;exact ⟨v,h4,RelV_ren hren h5⟩,h3⟩
 ·obtain ⟨e0,h1,rfl⟩:=look_reS hi
  exact hrel.gts i e0 h1 u x hx
 ·have hh:=hrel.heap
  refine ⟨hh.hsize,hh.os,hh.tape,hh.output,hh.frame,hh.rsub,hh.rlt,hh.rnew,fun k hk hm=>?_,fun i o hi=>?_,fun i o hi=>?_,fun i o b hi hb=>?_,fun i j o o' b h1 h2 h3 h4=>?_⟩
  ·rcases (hmd k).1 hm with rfl|hm
   ·have:k < 100000:=by simpa using hlt
    omega
   ·rw [hgk k hm];exact hh.gfix k hk hm
  ·rcases hlk i o hi with ⟨rfl,_⟩|⟨_,rfl,_⟩|⟨_,_,o0,h2,_⟩
   ·exact (hmd _).2 (.inl rfl)
   ·exact (hmd _).2 (.inr hk)
   ·exact (hmd _).2 (.inr (hh.keys _ _ h2))
  ·rcases hlk i o hi with ⟨rfl,rfl⟩|⟨_,_,rfl⟩|⟨_,_,o0,h2,rfl⟩
   ·have:=RowH_ren (K':=fun k=>mem (i::ks) k=true) hren hgd (hh.held r _ ho)
    rwa [plainO_ren hpl] at this
   ·trivial
   ·exact RowH_ren hren (hgk i (hh.keys _ _ h2)) (hh.held i _ h2)
  ·obtain ⟨i0,o0,h1,h2,_⟩:=hOwn i o b hi hb
   exact hh.own i0 o0 b h1 h2
  ·obtain ⟨i0,o0,h5,h6,h7⟩:=hOwn i o b h1 h3
   obtain ⟨j0,o1,h8,h9,h10⟩:=hOwn j o' b h2 h4
   have e:=hh.sep i0 j0 o0 o1 b h5 h8 h6 h9
   subst e
   rcases h7 with ⟨h7,h7'⟩|⟨h7,h7'⟩
   ·rcases h10 with ⟨h10,_⟩|⟨h10,h10'⟩
    ·rw [h7,h10]
    ·exact absurd (h10.trans h7') h10'
   ·rcases h10 with ⟨h10,h10'⟩|⟨h10,_⟩
    ·exact absurd (h7.trans h10') h7'
    ·rw [h7,h10]
theorem renameI (r d:Nat) {m:St} (h:reSt r d st=some m) (k:WP E K c m Q):WP E K c st Q:=fun hc C g R a w Z hrel hq=>by
 obtain ⟨g',hr⟩:=re_sound h hrel
 exact k hc C g' R a w Z hr hq
end
mutual
def thawV (r:Nat) (t:Ty) (x:t.El):AV→AV
 | .ptr k j=>match Nat.beq k r with
   | true=>.el t [x] 0 j
   | false=>.ptr k j
 | .agg cs=>.agg (thawL r t x cs)
 | .tup cs=>.tup (thawL r t x cs)
 | .fn f cs ds=>.fn f (thawL r t x cs) (thawL r t x ds)
 | v=>v
def thawL (r:Nat) (t:Ty) (x:t.El):List AV→List AV
 | []=>[]
 | c::cs=>thawV r t x c::thawL r t x cs
end
def thawO (r:Nat) (t:Ty) (x:t.El):AObj→AObj
 | .box cs=>.box (thawL r t x cs)
 | o=>o
def thawS (r:Nat) (t:Ty) (x:t.El):List (Nat × Ent)→List (Nat × Ent)
 | []=>[]
 | (i,e)::l=>(i,⟨e.path,thawV r t x e.av⟩)::thawS r t x l
def thawR (r:Nat) (t:Ty) (x:t.El):List (Nat × AObj)→List (Nat × AObj)
 | []=>[]
 | (i,o)::l=>(i,match Nat.beq i r with
   | true=>.dead
   | false=>thawO r t x o)::thawR r t x l
def thawSt (r:Nat) (t:Ty) (st:St):Option St:=match look st.rows r with
 | some (.box cs)=>match dec t cs with
   | some (x,[])=>match st with
     | ⟨n,slots,gt,ks,rows⟩=>forceE (thawS r t x slots) fun slots=>forceR (thawR r t x rows) fun rows=>some ⟨n,slots,gt,ks,rows⟩
   | _=>none
 | _=>none
section
variable {g:Nat→Gh} {K0 R R':Nat→Prop} {w:World} {r:Nat} {t:Ty} {x:t.El}
def BoxR (R:Nat→Prop) (w:World) (b:Nat) (t:Ty) (x:t.El):Prop:=∃ vs,R b∧RelEl R w t x vs∧∀ k u,vs[k]?=some u→w.cell? ((⟨b,0,none⟩:Addr).add k)=some u
mutual
theorem thawV_rel (hR:∀ b,R b→R' b) (he:BoxR R' w (g r).b t x):∀ {c:AV} {v:Value},RelV g K0 R w c v→RelV g K0 R' w (thawV r t x c) v
 | _,_,.int h=>.int h
 | _,_,.bool=>.bool
 | _,_,.str h=>.str h
 | _,_,.sl h=>RelV_weaken (fun _ h=>h) hR (.sl h)
 | _,_,.el hi h=>RelV_weaken (fun _ h=>h) hR (.el hi h)
 | _,_,.own hk h1=>.own hk h1
 | _,_,.oel hk h1=>.oel hk h1
 | _,_,.part hk h1 h2=>.part hk h1 h2
 | _,_,.head hk h1 h2=>.head hk h1 h2
 | _,_,.ptr (r:=k) (j:=j) hk=>by
   simp only [thawV]
   cases h:Nat.beq k r
   ·exact .ptr hk
   ·obtain rfl:=beq_eq h
    obtain ⟨vs,hb,h1,h2⟩:=he
    refine .el (t:=t) (xs:=[x]) (i:=0) (j:=j) (by simp) ⟨⟨(g k).b,0,none⟩,vs,?_,rfl,hb,⟨vs,[],by simp,h1,rfl⟩,h2⟩
    rw [add_none rfl]
    simp
 | _,_,.agg hc=>.agg (thawL_rel hR he hc)
 | _,_,.tup hc=>.tup (thawL_rel hR he hc)
 | _,_,.fn hc hd=>.fn (thawL_rel hR he hc) (thawL_rel hR he hd)
 | _,_,.nilsl=>.nilsl
 | _,_,.nilptr=>.nilptr
 | _,_,.nilfn=>.nilfn
 | _,_,.ext h=>RelV_weaken (fun _ h=>h) hR (.ext h)
 | _,_,.junk=>.junk
theorem thawL_rel (hR:∀ b,R b→R' b) (he:BoxR R' w (g r).b t x):∀ {cs:List AV} {vs:List Value},RelL g K0 R w cs vs→RelL g K0 R' w (thawL r t x cs) vs
 | _,_,.nil=>.nil
 | _,_,.cons h1 h2=>.cons (thawV_rel hR he h1) (thawL_rel hR he h2)
end
theorem look_thawS:∀ {l:List (Nat × Ent)} {i:Nat} {e:Ent},look (thawS r t x l) i=some e→∃ e0,look l i=some e0∧e=⟨e0.path,thawV r t x e0.av⟩
 | [],i,e,h=>by simp [thawS,look] at h
 | (k,e0)::l,i,e,h=>by
   simp only [thawS] at h
   rw [look_cons] at h ⊢
   by_cases hk:k=i
   ·simp [hk] at h;exact ⟨e0,by simp [hk],h.symm⟩
   ·simp [hk] at h;simp only [hk,if_false];exact look_thawS h
theorem look_thawR:∀ {l:List (Nat × AObj)} {i:Nat} {o:AObj},look (thawR r t x l) i=some o→(i=r∧o=.dead)∨(i≠r∧∃ o0,look l i=some o0∧o=thawO r t x o0)
 | [],i,o,h=>by simp [thawR,look] at h
 | (k,o0)::l,i,o,h=>by
   simp only [thawR] at h
   rw [look_cons] at h ⊢
   by_cases hk:k=i
   ·subst hk
    simp at h
    cases hb:Nat.beq k r
    ·rw [hb] at h;exact .inr ⟨beq_ne hb,o0,by simp,h.symm⟩
    ·rw [hb] at h;exact .inl ⟨beq_eq hb,h.symm⟩
   ·simp [hk] at h;simp only [hk,if_false];exact look_thawR h
end
section
variable {P:Program} {tt:TT} {S:Nat→Option Spec} {E:Env P tt S} {K:List Nat} {c b:Code} {st:St} {Q:AExit→St→Prop}
theorem thaw_sound {C:Ctx} {g:Nat→Gh} {R:Nat→Prop} {a:Act} {w:World} {r:Nat} {t:Ty} {m:St} (h:thawSt r t st=some m) (hrel:Rel C g R st a w):∃ R',Rel C g R' m a w:=by
 unfold thawSt at h
 split at h <;> try (cases h;done)
 rename_i cs ho
 split at h <;> try (cases h;done)
 rename_i x hdec
 obtain ⟨n,slots,gt,ks,rows⟩:=st
 simp only [forceE_eq,forceR_eq,Option.some.injEq] at h
 subst h
 obtain ⟨vs,ty,hh,hl,hone⟩:=hrel.heap.held r _ ho
 obtain ⟨R',hR'⟩:∃ R':Nat→Prop,R'=fun b=>R b∨b=(g r).b:=⟨_,rfl⟩
 have hR:∀ b,R b→R' b:=fun b h=>by rw [hR'];exact .inl h
 have hb:R' (g r).b:=by rw [hR'];exact .inr rfl
 have he:BoxR R' w (g r).b t x:=by
  obtain ⟨us,ws,e,h1,h2⟩:=dec_rel hdec hl
  cases h2
  simp only [List.append_nil] at e
  subst e
  exact ⟨vs,hb,RelEl_mono hR (fun _ _=>rfl) h1,cell_box hh⟩
 have hownb:∀ b,b=(g r).b→Own g w r (.box cs) b:=fun b h=>h
 have hlk:∀ r' o,look [(r,AObj.dead)] r'=some o→r'=r∧o=.dead:=fun r' o h=>by
  rw [look_cons] at h
  by_cases e:r=r'
  ·simp [e] at h;exact ⟨e.symm,h.symm⟩
  ·simp [e,look] at h
 have gen:=(hrel.heap.gen (g':=g) (R':=R') (w':=w) [(r,.dead)] [] (fun r'=>r'=r) (fun r hr=>by simp [mem] at hr) (fun r' o h=>.inl ((hlk r' o h).1 ▸ hrel.heap.keys r _ ho)) (fun r' h=>⟨.dead,by rw [h,look_cons];simp⟩)
  rfl rfl rfl (Nat.le_refl _) (fun _ _=>.inl rfl) (fun _ _=>rfl) hR
  (fun b hb'=>by
   rw [hR'] at hb'
   rcases hb' with h|h
   ·exact hrel.heap.rlt b h
   ·exact Own_lt (hrel.heap.held r _ ho) (hownb b h))
  (fun b hb'=>by
   rw [hR'] at hb'
   rcases hb' with h|h
   ·exact .inl h
   ·exact .inr (.inr ⟨r,_,rfl,ho,hownb b h⟩))
  (fun r' o h=>by rw [(hlk r' o h).2];trivial) (fun r' o b h hb=>by rw [(hlk r' o h).2] at hb;simp [Own] at hb) (fun r1 r2 o1 o2 b h1 h2 h3 _=>by rw [(hlk r1 o1 h1).2] at h3;simp [Own] at h3)).1.lists (ks:=ks) (rows:=rows)
 have gen:HeapR C g R' (fun r=>mem ks r=true) (look ((r,.dead)::rows)) w:=gen
 have hold:∀ i o,i≠r→look rows i=some o→look ((r,AObj.dead)::rows) i=some o:=fun i o hi h=>by rw [look_cons,if_neg (Ne.symm hi)];exact h
 have hOwn:∀ i o b,Own g w i (thawO r t x o) b↔Own g w i o b:=fun i o b=>by cases o <;> rfl
 refine ⟨R',hrel.size,hrel.defers,fun i e hi=>?_,fun i e hi u x hx=>?_,?_⟩
 ·obtain ⟨e0,h1,rfl⟩:=look_thawS hi
  obtain ⟨h2,h3⟩:=hrel.slots i e0 h1
  exact ⟨fun hp=>by obtain ⟨v,h4,h5⟩:=h2 hp;exact ⟨v,h4,thawV_rel hR he h5⟩,h3⟩
 ·obtain ⟨e0,h1,rfl⟩:=look_thawS hi
  exact hrel.gts i e0 h1 u x hx
 ·refine ⟨gen.hsize,gen.os,gen.tape,gen.output,gen.frame,gen.rsub,gen.rlt,gen.rnew,gen.gfix,fun i o hi=>?_,fun i o hi=>?_,fun i o b hi hb=>?_,fun i j o o' b h1 h2 h3 h4=>?_⟩
  ·rcases look_thawR hi with ⟨rfl,_⟩|⟨_,o0,h1,_⟩
   ·exact hrel.heap.keys _ _ ho
   ·exact hrel.heap.keys _ _ h1
  ·rcases look_thawR hi with ⟨rfl,rfl⟩|⟨hne,o0,h1,rfl⟩
   ·trivial
   ·have h2:=gen.held i o0 (hold i o0 hne h1)
    cases o0 with
    | box cs =>
      obtain ⟨vs,ty,h3,h4,h5⟩:=hrel.heap.held i _ h1
      exact ⟨vs,ty,h3,thawL_rel hR he h4,h5⟩
    | seq u ys=>exact h2
    | arr u yss hl=>exact h2
    | map a b l=>exact h2
    | yp k=>exact h2
    | yld t two Y p=>exact h2
    | mit m k v kvs cur G=>exact h2
    | mit0=>exact h2
    | bld T e u l=>exact h2
    | bag t xs=>exact h2
    | pend m k v kvs j=>exact h2
    | mmap k a b kvss h0=>exact h2
    | dead=>trivial
  ·rcases look_thawR hi with ⟨rfl,rfl⟩|⟨hne,o0,h1,rfl⟩
   ·simp [Own] at hb
   ·exact gen.own i o0 b (hold i o0 hne h1) ((hOwn i o0 b).1 hb)
  ·rcases look_thawR h1 with ⟨rfl,rfl⟩|⟨hne,o0,h5,rfl⟩
   ·simp [Own] at h3
   ·rcases look_thawR h2 with ⟨rfl,rfl⟩|⟨hne2,o2,h6,rfl⟩
    ·simp [Own] at h4
    ·exact gen.sep i j o0 o2 b (hold i o0 hne h5) (hold j o2 hne2 h6) ((hOwn i o0 b).1 h3) ((hOwn j o2 b).1 h4)
theorem freezeBoxI (r:Nat) (t:Ty) {m:St} (h:thawSt r t st=some m) (k:WP E K c m Q):WP E K c st Q:=fun hc C g R a w Z hrel hq=>by
 obtain ⟨R',hr⟩:=thaw_sound h hrel
 exact k hc C g R' a w Z hr hq
def setSlot (t:Nat) (v:AV) (st:St):Option (AV × St):=match look st.slots t with
 | some ⟨[],u⟩=>match st with
   | ⟨n,slots,gt,ks,rows⟩=>some (u,⟨n,(t,⟨[],v⟩)::slots,gt,ks,rows⟩)
 | _=>none
def Seen (u v:AV):Prop:=∀ (g:Nat→Gh) (K R:Nat→Prop) (w:World) (x:Value),RelV g K R w u x→RelV g K R w v x
theorem seeI (t:Nat) (v:AV) {u:AV} {m:St} (h:setSlot t v st=some (u,m)) (hv:Seen u v) (k:WP E K c m Q):WP E K c st Q:=fun hc C g R a w Z hrel hq=>by
 unfold setSlot at h
 split at h <;> try (cases h;done)
 rename_i u' hl
 obtain ⟨n,slots,gt,ks,rows⟩:=st
 cases h
 refine k hc C g R a w Z ⟨hrel.size,hrel.defers,fun i e hi=>?_,fun i e hi y x hx=>?_,hrel.heap⟩ hq
 ·rw [look_cons] at hi
  by_cases e:t=i
  ·subst e
   simp at hi
   subst hi
   obtain ⟨h1,h2⟩:=hrel.slots t _ hl
   exact ⟨fun hp=>by obtain ⟨y,h3,h4⟩:=h1 hp;exact ⟨y,h3,hv _ _ _ _ _ h4⟩,h2⟩
  ·simp [e] at hi
   exact hrel.slots i _ hi
 ·rw [look_cons] at hi
  by_cases e:t=i
  ·simp [e] at hi;subst hi;simp at hx
  ·simp [e] at hi;exact hrel.gts i _ hi y x hx
end
theorem seen1 {f:Nat} {s:Spec} {a r:Ty} {c:a.El→r.El} {fs cs:List AV} (hs:SpecSound PG f s) (hcall:∀ args w,(callFunc f args).run PG w=.ok (.enter f args) w) (hraw:s.raw=false) (hr:one r=true)
 (h1:withinL (fun _=>false) fs=true) (h2:withinL (fun _=>false) cs=true) (h:∀ x,∃ o,s.f (fs++(encV a x::cs)) []=some o∧o.pre∧decV r o.ret=some (c x)):Seen (.fn f fs cs) (.ext (.fn1 a r c)):=by
 intro g K R w v hv
 cases hv with
 | fn hf hd =>
 refine .ext ⟨f,_,_,rfl,hcall,fun R' w' hR hcell hlt x us hx=>?_⟩
 obtain ⟨o,h3,h4,h5⟩:=h x
 have:=calls_of_spec hs hr hraw h3 h4 h5 hlt (fun g'=>RelL_append (RelL_keyless (K':=locK []) (g':=g') hR hcell h1 hf) (.cons (encV_rel hx) (RelL_keyless hR hcell h2 hd)))
 simpa using this
theorem seen2 {f:Nat} {s:Spec} {a r:Ty} {c:a.El→a.El→r.El} {fs cs:List AV} (hs:SpecSound PG f s) (hcall:∀ args w,(callFunc f args).run PG w=.ok (.enter f args) w) (hraw:s.raw=false) (hr:one r=true)
 (h1:withinL (fun _=>false) fs=true) (h2:withinL (fun _=>false) cs=true) (h:∀ x y,∃ o,s.f (fs++(encV a x::encV a y::cs)) []=some o∧o.pre∧decV r o.ret=some (c x y)):Seen (.fn f fs cs) (.ext (.fn2 a r c)):=by
 intro g K R w v hv
 cases hv with
 | fn hf hd =>
 refine .ext ⟨f,_,_,rfl,hcall,fun R' w' hR hcell hlt x y us us' hx hy=>?_⟩
 obtain ⟨o,h3,h4,h5⟩:=h x y
 have:=calls_of_spec hs hr hraw h3 h4 h5 hlt (fun g'=>RelL_append (RelL_keyless (K':=locK []) (g':=g') hR hcell h1 hf) (.cons (encV_rel hx) (.cons (encV_rel hy) (RelL_keyless hR hcell h2 hd))))
 simpa using this
theorem SpecSound.see {P:Program} {f:Nat} {s:Spec} (h:SpecSound P f s) (F:List AV→List AV) (hF:∀ (g:Nat→Gh) (K R:Nat→Prop) (w:World) (args:List AV) (vals:List Value),RelL g K R w args vals→RelL g K R w (F args) vals):SpecSound P f ⟨s.raw,fun args rows=>s.f (F args) rows⟩:=by
 intro args rows out hout hpre hr w0 g0 R0 vals h1 h2 h3 h4 h5
 exact h _ rows out hout hpre hr w0 g0 R0 vals h1 h2 h3 h4 (hF _ _ _ _ _ _ h5)
def mOut (st:St):Nat→List AObj→LM→(LM→Option Prop)→Option Prop
 | _,[],L,k=>k L
 | i,o::r,L,k=>mRow st i o L fun L=>mOut st (i+1) r L k
theorem mOut_sound {st:St}:∀ {l:List AObj} {i:Nat} {L:LM} {k:LM→Option Prop} {P:Prop},mOut st i l L k=some P→P→Got L k fun L=>expRows st (look L) i l
 | [],i,L,k,P,h,hP=>⟨L,P,h,hP,ExtL.refl _,fun _ _=>trivial⟩
 | o::r,i,L,k,P,h,hP=>by
   simp only [mOut] at h
   obtain ⟨L1,P1,h3,h4,h5,h6⟩:=mRow_sound h hP
   obtain ⟨L2,P2,h7,h8,h9,h10⟩:=mOut_sound h3 h4
   exact ⟨L2,P2,h7,h8,h5.trans h9,fun L'' h11=>⟨h6 L'' (h9.trans h11),h10 L'' h11⟩⟩
def pasL:Nat→Nat→LM
 | 0,_=>[]
 | n+1,i=>(i,some (100000+i))::pasL n (i+1)
def newsOf (L:LM):Nat→Nat→Option (List (Option Nat))
 | _,0=>some []
 | i,n+1=>match look L i,newsOf L (i+1) n with
   | some x,some r=>some (x::r)
   | _,_=>none
def allLt (n:Nat):LM→Bool
 | []=>true
 | (k,_)::r=>match Nat.blt k n with
   | true=>allLt n r
   | false=>false
def finE (tt:TT) (rv:List ResultVar) (m:Nat) (out:Out) (st:St):Option Prop:=match resL tt st rv,st.gt with
 | some vs,[]=>mV out.ret (tupOf vs) (pasL m 0) fun L=>mOut st 0 out.rows L fun L=>match newsOf L m (lenL out.rows - m),allLt (lenL out.rows) L with
   | some news,true=>match newsOk st news,(upTo m 100000).all (mem st.ks),Nat.ble m (lenL out.rows),(out.al||(Nat.beq m 0&&(naV out.ret&&naRows out.rows))) with
     | true,true,true,true=>some True
     | _,_,_,_=>none
   | _,_=>none
 | _,_=>none
theorem newsOf_len {L:LM}:∀ {n i:Nat} {news:List (Option Nat)},newsOf L i n=some news→news.length=n∧∀ j,j < n→nth news j=look L (i+j)
 | 0,i,news,h=>by cases h;exact ⟨rfl,fun j hj=>by omega⟩
 | n+1,i,news,h=>by
   simp only [newsOf] at h
   split at h <;> try (cases h;done)
   rename_i x r h1 h2
   cases h
   obtain ⟨h3,h4⟩:=newsOf_len h2
   refine ⟨by simp [h3],fun j hj=>?_⟩
   cases j with
   | zero=>simp [nth,h1]
   | succ j=>simp only [nth];rw [h4 j (by omega)];congr 1;omega
theorem nth_none {α:Type}:∀ {l:List α} {j:Nat},l.length≤j→nth l j=none
 | [],_,_=>rfl
 | _::l,0,h=>by simp at h
 | _::l,j+1,h=>by simp only [nth];exact nth_none (by simpa using h)
theorem look_pasL:∀ {n i j:Nat},look (pasL n i) j=if i≤j∧j < i+n then some (some (100000+j)) else none
 | 0,i,j=>by
   simp only [pasL,look]
   rw [if_neg (by omega)]
 | n+1,i,j=>by
   simp only [pasL,look_cons,look_pasL]
   by_cases h:i=j
   ·subst h;rw [if_pos rfl,if_pos (by omega)]
   ·rw [if_neg h]
    by_cases h2:i+1≤j∧j < i+1+n
    ·rw [if_pos h2,if_pos (by omega)]
    ·rw [if_neg h2,if_neg (by omega)]
theorem allLt_spec {n:Nat}:∀ {L:LM} {k:Nat} {x:Option Nat},allLt n L=true→look L k=some x→k < n
 | [],_,_,_,h=>by simp [look] at h
 | (u,y)::r,k,x,h,hl=>by
   simp only [allLt] at h
   split at h
   ·rename_i h1
    rw [look_cons] at hl
    by_cases hu:u=k
    ·subst hu;simpa using h1
    ·simp [hu] at hl;exact allLt_spec h hl
   ·cases h
theorem finE_sound {tt:TT} {rv:List ResultVar} {m:Nat} {out:Out} {st:St} {P:Prop} (h:finE tt rv m out st=some P) (hP:P):∃ news vs,Fin tt rv m out st news vs:=by
 unfold finE at h
 split at h <;> try (cases h;done)
 rename_i vs h1 h2
 obtain ⟨L1,P1,h3,h4,h5,h6⟩:=mV_sound h hP
 obtain ⟨L2,P2,h7,h8,h9,h10⟩:=mOut_sound h3 h4
 dsimp only at h7
 split at h7 <;> try (cases h7;done)
 rename_i news h11 h12
 split at h7 <;> try (cases h7;done)
 rename_i h13 h14 h15 h16
 have hm:m≤lenL out.rows:=Nat.le_of_ble_eq_true h15
 obtain ⟨h17,h18⟩:=newsOf_len h11
 have hsrc:srcOf m news=look L2:=by
  funext i
  unfold srcOf
  cases hb:Nat.blt i m with
  | true =>
    have hi:i < m:=by simpa using hb
    have:=(h5.trans h9) i (some (100000+i)) (by rw [look_pasL,if_pos (by omega)])
    rw [this]
  | false =>
    have hi:m≤i:=by
     refine Nat.le_of_not_lt fun hi=>?_
     rw [show Nat.blt i m=true by simpa using hi] at hb
     cases hb
    show nth news (i - m)=look L2 i
    by_cases hi2:i < lenL out.rows
    ·rw [h18 (i - m) (by omega)];congr 1;omega
    ·rw [nth_none (by omega)]
     cases hl:look L2 i with
     | none=>rfl
     | some x=>exact absurd (allLt_spec h12 hl) hi2
 refine ⟨news,vs,h1,h2,?_,?_,?_,h13,h14,fun hal=>?_⟩
 ·rw [hsrc];exact h6 L2 h9
 ·rw [hsrc];exact h10 L2 (ExtL.refl _)
 ·rw [lenL_spec,lenL_spec] at *;omega
 ·rw [hal] at h16
  simp only [Bool.false_or,Bool.and_eq_true] at h16
  exact ⟨beq_eq h16.1,h16.2.1,h16.2.2⟩
theorem endR {tt:TT} {rv:List ResultVar} {m:Nat} {out:Out} {st:St} {p:Prop} (h:finE tt rv m out st=some p) (hp:p):endOf tt rv m out .ret st:=finE_sound h hp
theorem endN {tt:TT} {rv:List ResultVar} {m:Nat} {out:Out} {st:St} {p:Prop} (h:finE tt rv m out st=some p) (hp:p):endOf tt rv m out .normal st:=finE_sound h hp
def initRun (n:Nat) (args:List AV) (rows:List AObj):Option St :=
 forceVL args fun args=>forceE (slotsOf 0 (renL (100000+·) args)) fun slots=>forceL (upTo (lenL rows) 100000) fun ks=>forceR (rowsOf 100000 (mapRen (100000+·) rows)) fun rows=>some ⟨n,slots,[],ks,rows⟩
theorem initI {P:Program} {tt:TT} {S:Nat→Option Spec} {E:Env P tt S} {K:List Nat} {c:Code} {Q:AExit→St→Prop} {n:Nat} {args:List AV} {rows:List AObj} {st:St} (h:initRun n args rows=some st) (k:WP E K c st Q):WP E K c (St.init n args rows) Q:=by
 unfold initRun at h
 rw [forceVL_eq,forceE_eq,forceL_eq,forceR_eq] at h
 cases h
 exact k
theorem spec_of_WP {P:Program} {tt:TT} {S:Nat→Option Spec} (E:Env P tt S) (K:List Nat) {f:Nat} {fn:Func} {c:Code} {s:Spec} (hf:P.funcs[f]?=some fn) (hb:fn.body=some c) (hc:codeOk c=true)
 (h:∀ args rows out,s.f args rows=some out→out.pre→(s.raw=false→rows=[])→args.length≤fn.ntmps∧WP E K c (St.init fn.ntmps args rows) (endOf tt fn.results.toList rows.length out)) (hro:E.ro=none:=by rfl):SpecSound P f s :=
 spec_of_wps E.hT hf hb fun args rows out h1 h2 h3=>by
  obtain ⟨h4,h5⟩:=h args rows out h1 h2 h3
  refine ⟨h4,fun C g R a w Q hrel hq=>?_⟩
  have:=h5 hc C g R a w Q hrel hq
  rw [hro] at this
  exact this
inductive Shp where
 | any
 | sl (t:Ty)
 | agg (fs:List (Option Ty))
def normC:List (Option Ty)→List AV→List AV
 | some t::r,.nilsl::l=>.sl t []::normC r l
 | _::r,c::l=>c::normC r l
 | [],l=>l
 | _::_,[]=>[]
def normA:Shp→AV→AV
 | .sl t,.nilsl=>.sl t []
 | .agg fs,.agg cs=>.agg (normC fs cs)
 | _,v=>v
def normL:List Shp→List AV→List AV
 | s::r,v::l=>normA s v::normL r l
 | _,l=>l
section
variable {g:Nat→Gh} {K R:Nat→Prop} {w:World}
theorem nil_sl {t:Ty} {v:Value} (h:RelV g K R w .nilsl v):RelV g K R w (.sl t []) v:=by
 cases h;exact .sl (Reads_nil _ _)
theorem normC_rel:∀ {fs:List (Option Ty)} {cs:List AV} {vs:List Value},RelL g K R w cs vs→RelL g K R w (normC fs cs) vs
 | [],cs,vs,h=>by cases cs <;> simpa [normC] using h
 | _::_,[],vs,h=>by simpa [normC] using h
 | none::r,c::l,vs,h=>by
   simp only [normC]
   cases h with|cons h1 h2=>exact .cons h1 (normC_rel h2)
 | some t::r,c::l,vs,h=>by
   cases h with
   | cons h1 h2 =>
     cases c <;> simp only [normC] <;> first|exact .cons h1 (normC_rel h2)|exact .cons (nil_sl h1) (normC_rel h2)
theorem normA_rel {s:Shp} {c:AV} {v:Value} (h:RelV g K R w c v):RelV g K R w (normA s c) v:=by
 cases s with
 | any=>simpa [normA] using h
 | sl t=>cases c <;> simp only [normA] <;> first|exact h|exact nil_sl h
 | agg fs =>
   cases c <;> simp only [normA] <;> try exact h
   cases h with|agg h=>exact .agg (normC_rel h)
theorem normL_rel:∀ {ss:List Shp} {cs:List AV} {vs:List Value},RelL g K R w cs vs→RelL g K R w (normL ss cs) vs
 | [],cs,vs,h=>by cases cs <;> simpa [normL] using h
 | _::_,[],vs,h=>by simpa [normL] using h
 | s::r,c::l,vs,h=>by
   simp only [normL]
   cases h with|cons h1 h2=>exact .cons (normA_rel h1) (normL_rel h2)
end
def Spec.norm (ss:List Shp) (s:Spec):Spec:=⟨s.raw,fun args rows=>s.f (normL ss args) rows⟩
theorem SpecSound.norm {P:Program} {f:Nat} {s:Spec} (h:SpecSound P f s) (ss:List Shp):SpecSound P f (s.norm ss):=by
 intro args rows out hout hpre hr w0 g0 R0 vals h1 h2 h3 h4 h5
 exact h _ rows out hout hpre hr w0 g0 R0 vals h1 h2 h3 h4 (normL_rel h5)
abbrev fA (x0 x1 x2 x3:Int) (x4:Bool) (x5 x6 x7 x8 x9 x10 x11 x12 x13 x14 x15 x16 x17:Int) (x18:ByteArray):List AV:=[.int .i64 x0,.int .i64 x1,.int .i64 x2,.int .i64 x3,.bool x4,.int .i64 x5,.int .i64 x6,.int .i64 x7,.int .i64 x8,.int .i64 x9,.int .i64 x10,.int .i64 x11,.int .i64 x12,.int .i64 x13,.int .i64 x14,.int .i64 x15,.int .i64 x16,.int .i64 x17,.str x18]
section
variable {P:Program} {tt:TT} {S:Nat→Option Spec} {E:Env P tt S} {K:List Nat} {c:Code} {st:St} {Q:AExit→St→Prop}
theorem zS (k:WP E K (seqA c) st (contSeq E K (seqB c) Q)) (h:isSeq c=true:=by exact rfl):WP E K c st Q:=seqI h k
theorem zR {cs:List Prop} {st':St} (k:allP cs (Q .normal st')) (h:regRun tt S K c st=some (cs,st'):=by exact rfl):WP E K c st Q:=regI h k
theorem zK (k:Q .normal st) (h:isSkip c=true:=by exact rfl):WP E K c st Q:=skipI h k
theorem zT (k:Q .ret st) (h:isRet c=true:=by exact rfl):WP E K c st Q:=retI h k
theorem zX {i:Nat} (k:Q (.exit i) st) (h:exitId c=some i:=by exact rfl):WP E K c st Q:=exitI h k
theorem zO (k:WP E K (inner c) st Q) (h:isScope c=true:=by exact rfl):WP E K c st Q:=scopeI h k
theorem zB {i:Nat} (k:WP E K (inner c) st (contBlk i Q)) (h:blockId c=some i:=by exact rfl):WP E K c st Q:=blockI h k
theorem zE {id i:Nat} (k:Q .normal st) (h:Nat.beq i id=true:=by exact rfl):contBlk id Q (.exit i) st:=bE h k
theorem zP {id i:Nat} (k:Q (.exit i) st) (h:Nat.beq i id=false:=by exact rfl):contBlk id Q (.exit i) st:=bP h k
def stepQ (E:Env P tt S) (K:List Nat) (c:Code) (Q:AExit→St→Prop):Option (Code × (AExit→St→Prop)):=match c with
 | .seq _ _=>some (seqA c,contSeq E K (seqB c) Q)
 | .scope _=>some (inner c,Q)
 | .block i _=>some (inner c,contBlk i Q)
 | _=>none
theorem zQ {c':Code} {Q':AExit→St→Prop} (k:WP E K c' st Q') (h:stepQ E K c Q=some (c',Q'):=by exact rfl):WP E K c st Q:=by
 cases c <;> try (cases h;done)
 ·cases h;exact seqI rfl k
 ·cases h;exact blockI rfl k
 ·cases h;exact scopeI rfl k
def exitW (c:Code):Option AExit:=match c with
 | .skip=>some .normal
 | .label _=>some .normal
 | .ret=>some .ret
 | .exit i=>some (.exit i)
 | _=>none
theorem zW {e:AExit} (k:Q e st) (h:exitW c=some e:=by exact rfl):WP E K c st Q:=by
 cases c <;> first|(cases h;done)|(cases h;first|exact skipI rfl k|exact exitI rfl k|exact retI rfl k)
class ZN (p:Prop) (q:outParam Prop):Prop where k:q→p
theorem zN {p q:Prop} [h:ZN p q] (k:q):p:=h.k k
instance {q:Prop}:ZN (allP [] q) q:=⟨id⟩
instance {b:Code}:ZN (contSeq E K b Q .normal st) (WP E K b st Q):=⟨id⟩
instance {b:Code} {i:Nat}:ZN (contSeq E K b Q (.exit i) st) (Q (.exit i) st):=⟨id⟩
instance {b:Code}:ZN (contSeq E K b Q .ret st) (Q .ret st):=⟨id⟩
instance {i:Nat}:ZN (contBlk i Q .normal st) (Q .normal st):=⟨id⟩
instance {i:Nat}:ZN (contBlk i Q .ret st) (Q .ret st):=⟨id⟩
instance {σ:Type} {m:σ→St} {I:σ→Prop} {μ:σ→Nat} {s:σ} {i:Nat}:ZN (loopPost m I μ s Q (.exit i) st) (Q (.exit i) st):=⟨id⟩
instance {σ:Type} {m:σ→St} {I:σ→Prop} {μ:σ→Nat} {s:σ}:ZN (loopPost m I μ s Q .ret st) (Q .ret st):=⟨id⟩
instance {σ:Type} {m:σ→St} {I:σ→Prop} {i:Nat}:ZN (cutPost m I Q (.exit i) st) (Q (.exit i) st):=⟨id⟩
instance {σ:Type} {m:σ→St} {I:σ→Prop}:ZN (cutPost m I Q .ret st) (Q .ret st):=⟨id⟩
end
end Go.AM
end
