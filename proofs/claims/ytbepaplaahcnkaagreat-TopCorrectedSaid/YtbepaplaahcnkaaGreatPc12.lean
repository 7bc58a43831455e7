/- AmDraw, AmIns, AmIns2. -/
import Derived.Test.YtbepaplaahcnkaaGreatPc11

set_option linter.all false
section
namespace Go.AM
structure Same (s t:St):Prop where
 n:s.n=t.n
 slots:look s.slots=look t.slots
 gt:mem s.gt=mem t.gt
 ks:mem s.ks=mem t.ks
 rows:look s.rows=look t.rows
theorem Same.symm {s t:St} (h:Same s t):Same t s:=⟨h.n.symm,h.slots.symm,h.gt.symm,h.ks.symm,h.rows.symm⟩
theorem Rel_same {C:Ctx} {g:Nat→Gh} {R:Nat→Prop} {s t:St} {a:Act} {w:World} (h:Same s t) (hrel:Rel C g R s a w):Rel C g R t a w:=by
 obtain ⟨h1,h2,h3,h4,h5⟩:=hrel
 refine ⟨h1.trans h.n,h2,?_,?_,?_⟩
 ·rw [← h.slots,← h.ks];exact h3
 ·rw [← h.slots,← h.gt];exact h4
 ·rw [← h.rows,← h.ks];exact h5
structure Dl where
 slot:Option (Nat × Ent)
 gts:List Nat
 new:List Nat
 upd:List (Nat × AObj)
def optCons {α:Type}:Option α→List α→List α
 | none,l=>l
 | some x,l=>x::l
def St.app (s:St) (d:Dl):St:=⟨s.n,optCons d.slot s.slots,appK d.gts s.gt,appK d.new s.ks,addRows d.upd s.rows⟩
structure StepD (tt:TT) (S:Nat→Option Spec) (ops:List Oper) (o:Oper) (s:St) (cs:List Prop) (dl:Dl) (tr:Tr) (p:List (Nat × Bool)) (cs0:List Prop) (av:AV):Prop where
 uh:∃ upd,(evAt tt S (litNo tt.2.2 s p) s.get o.op o.dst).run (look s.rows) []=some (⟨cs0,av,upd,dl.new⟩,tr.rd)∧tr.wr=appK dl.new (keysOf upd)∧((p=[]∧dl.upd=upd)∨(p≠[]∧dl.upd=deads upd∧allIn (appK dl.new s.ks) (keysOf upd)=true∧o.dst≠none))
 hp:∃ p0,s.pathAt ops o.guard=some p0∧opsOk s p0 o.op=true∧(p=p0∨(p=[]∧litAll s p0=true∧o.dst≠none))
 hfr:freshAll s.ks dl.new=true
 hslot:dl.slot=o.dst.map fun d=>(d,⟨p,av⟩)
 hgts:dl.gts=gtOf p []
 hdst:∀ d,o.dst=some d→mem (gtOf p s.gt) d=false∧d < s.n
 hcs:cs=mapUnder s p cs0
theorem mapUnder_nil {s:St}:∀ {cs:List Prop},mapUnder s [] cs=cs
 | []=>rfl
 | c::cs=>by simp [mapUnder,underP,mapUnder_nil]
theorem gtOf_app {p:List (Nat × Bool)} {gt:List Nat}:gtOf p gt=appK (gtOf p []) gt:=by
 cases p <;> rfl
theorem litNo_all {hs:List (Nat × Bool)} {s:St}:∀ {p:List (Nat × Bool)},litAll s p=true→litNo hs s p=false
 | [],_=>rfl
 | (u,x)::r,h=>by
   simp only [litAll] at h
   split at h
   ·rename_i h1 h2
    simp only [litNo,h1,h2,litNo_all h]
    split <;> rfl
   ·rename_i h1 h2
    simp only [litNo,h1,h2,litNo_all h]
    split <;> rfl
   ·cases h
theorem stepD_of {tt:TT} {S:Nat→Option Spec} {ops:List Oper} {o:Oper} {s s':St} {cs:List Prop} {tr:Tr} (h:StepS tt S ops o s cs s' tr):∃ dl p cs0 av,StepD tt S ops o s cs dl tr p cs0 av∧s'=s.app dl:=by
 obtain ⟨p,cs0,av,upd,new,rd,hp,hops,hev,hfr,rfl,hcase⟩:=h.out
 rcases hcase with ⟨hpl,rfl,hcase⟩|⟨hpne,hin,d,hd,hgt,hlt,rfl,rfl⟩
 ·have hp':∃ p0,s.pathAt ops o.guard=some p0∧opsOk s p0 o.op=true∧([]=p0∨([]=([]:List (Nat × Bool))∧litAll s p0=true∧o.dst≠none)):=⟨p,hp,hops,by
   rcases hpl with rfl|⟨h1,h2⟩
   ·exact .inl rfl
   ·exact .inr ⟨rfl,h1,h2⟩⟩
  have hnn:litNo tt.2.2 s p=litNo tt.2.2 s []:=by
   rcases hpl with rfl|⟨h1,_⟩
   ·rfl
   ·rw [litNo_all h1];rfl
  rw [hnn] at hev
  rcases hcase with ⟨hd,rfl⟩|⟨d,hd,hgt,hlt,rfl⟩
  ·exact ⟨⟨none,[],new,upd⟩,[],cs,av,⟨⟨upd,hev,rfl,.inl ⟨rfl,rfl⟩⟩,hp',hfr,by simp [hd],rfl,fun d h=>(by rw [hd] at h;cases h),mapUnder_nil.symm⟩,rfl⟩
  ·exact ⟨⟨some (d,⟨[],av⟩),[],new,upd⟩,[],cs,av,⟨⟨upd,hev,rfl,.inl ⟨rfl,rfl⟩⟩,hp',hfr,by simp [hd],rfl,fun d' h=>(by rw [hd] at h;cases h;exact ⟨hgt,hlt⟩),mapUnder_nil.symm⟩,rfl⟩
 ·exact ⟨⟨some (d,⟨p,av⟩),gtOf p [],new,deads upd⟩,p,cs0,av,⟨⟨upd,hev,rfl,.inr ⟨hpne,rfl,hin,by simp [hd]⟩⟩,⟨p,hp,hops,.inl rfl⟩,hfr,by simp [hd],rfl,fun d' h=>(by rw [hd] at h;cases h;exact ⟨hgt,hlt⟩),rfl⟩,by rw [gtOf_app];rfl⟩
theorem stepS_of {tt:TT} {S:Nat→Option Spec} {ops:List Oper} {o:Oper} {s:St} {cs:List Prop} {tr:Tr} {dl:Dl} {p:List (Nat × Bool)} {cs0:List Prop} {av:AV} (h:StepD tt S ops o s cs dl tr p cs0 av):StepS tt S ops o s cs (s.app dl) tr:=by
 obtain ⟨slot,gts,new,upd'⟩:=dl
 obtain ⟨rd,wr⟩:=tr
 obtain ⟨⟨upd,hev,htr,hu⟩,⟨p0,hp,hops,hpp⟩,hfr,hslot,hgts,hdst,hcs⟩:=h
 dsimp only at *
 subst htr hslot hgts hcs
 have hnn:litNo tt.2.2 s p=litNo tt.2.2 s p0:=by
  rcases hpp with h|⟨h,h1,_⟩
  ·rw [h]
  ·rw [h,litNo_all h1];rfl
 rw [hnn] at hev
 refine ⟨p0,cs0,av,upd,new,rd,hp,hops,hev,hfr,rfl,?_⟩
 rcases hu with ⟨rfl,rfl⟩|⟨he,rfl,hin,hn⟩
 ·have hpl:p0=[]∨(litAll s p0=true∧o.dst≠none):=by
   rcases hpp with h|⟨_,h⟩
   ·exact .inl h.symm
   ·exact .inr h
  refine .inl ⟨hpl,mapUnder_nil,?_⟩
  cases hd:o.dst with
  | none=>exact .inl ⟨rfl,rfl⟩
  | some d=>exact .inr ⟨d,rfl,(hdst d hd).1,(hdst d hd).2,rfl⟩
 ·obtain rfl:p=p0:=by
   rcases hpp with h|⟨h,_⟩
   ·exact h
   ·exact absurd h he
  cases hd:o.dst with
  | none=>exact absurd hd hn
  | some d=>exact .inr ⟨he,hin,d,rfl,(hdst d hd).1,(hdst d hd).2,rfl,by rw [gtOf_app (gt:=s.gt)];rfl⟩
theorem ent_congr {s t:St} {u:Nat} (h:look s.slots u=look t.slots u):s.ent u=t.ent u:=by simp only [St.ent,h]
theorem run_congr {α:Type} {row row':Nat→Option AObj}:∀ {q:RQ α} {l:List Nat} {x:α} {rd:List Nat},q.run row l=some (x,rd)→(∀ r,mem rd r=true→row' r=row r)→q.run row' l=some (x,rd)∧∀ r,mem l r=true→mem rd r=true
 | .ret a,l,x,rd,h,_=>by simp only [RQ.run] at h ⊢;cases h;exact ⟨rfl,fun _ h=>h⟩
 | .fail,l,x,rd,h,_=>by simp [RQ.run] at h
 | .ask r k,l,x,rd,h,hr=>by
   simp only [RQ.run] at h ⊢
   split at h
   ·rename_i o ho
    obtain ⟨h1,h2⟩:=run_congr h hr
    rw [hr r (h2 r (by simp [mem_cons])),ho]
    exact ⟨h1,fun i hi=>h2 i (by simp [mem_cons,hi])⟩
   ·cases h
theorem evOp_congr {tt:TT} {S:Nat→Option Spec} {get get':Operand→AV} {d:Nat} {op:Op} (h:∀ x∈op.operands,get x=get' x):evOp tt S get d op=evOp tt S get' d op:=by
 have pairs:∀ ps:Array (Nat × Operand),(∀ x∈ps.map (·.2),get x=get' x)→(ps.toList.map fun p=>(p.1,get p.2))=(ps.toList.map fun p=>(p.1,get' p.2)):=fun ps hp =>
  List.map_congr_left fun p hm=>by rw [hp p.2 (Array.mem_map.2 ⟨p,Array.mem_toList_iff.1 hm,rfl⟩)]
 cases op <;> simp only [Op.operands] at h <;> simp only [evOp]
 case build t ps=>rw [pairs ps fun x hx=>h x (by simpa using hx)]
 case buildSlice t n ps=>rw [pairs ps fun x hx=>h x (by simpa using hx)]
 case makeFunc fn first captured =>
  cases fn <;> try rfl
  dsimp only
  rw [List.map_congr_left (l:=first.toList) (f:=get) (g:=get') fun x hx=>h x (by simp [Array.mem_toList_iff.1 hx]),List.map_congr_left (l:=captured.toList) (f:=get) (g:=get') fun x hx=>h x (by simp [Array.mem_toList_iff.1 hx])]
 case call c =>
  have ha:∀ x∈c.args.toList,get x=get' x:=fun x hx=>h x (by unfold Call.operands;simp [Array.mem_toList_iff.1 hx])
  cases hc:c.callee with
  | invoke r m=>rfl
  | value f =>
    dsimp only
    rw [h f (by simp [Call.operands,hc]),List.map_congr_left (f:=get) (g:=get') ha]
  | builtin b =>
    cases b
    case len =>
     dsimp only
     split
     ·rename_i x t h1 h2;rw [ha x (by rw [h1];simp)]
     ·rfl
    case clear =>
     dsimp only
     split
     ·rename_i x t h1 h2;rw [ha x (by rw [h1];simp)]
     ·rfl
    case copy =>
     dsimp only
     split
     ·rename_i s x t u h1 h2;rw [ha s (by rw [h1];simp),ha x (by rw [h1];simp)]
     ·rfl
    case append =>
     dsimp only
     split
     ·rename_i s x t u h1 h2;rw [ha s (by rw [h1];simp),ha x (by rw [h1];simp)]
     ·rfl
    case cap =>
     dsimp only
     split
     ·rename_i x t h1 h2;rw [ha x (by rw [h1];simp)]
     ·rfl
    case max =>
     dsimp only
     split
     ·rename_i x y h1;rw [ha x (by rw [h1];simp),ha y (by rw [h1];simp)]
     ·rfl
    case min =>
     dsimp only
     split
     ·rename_i x y h1;rw [ha x (by rw [h1];simp),ha y (by rw [h1];simp)]
     ·rfl
    all_goals rfl
 case slice t x lo hi mx =>
  simp only [Op.operands,Array.mem_append,Option.mem_toArray] at h
  have e1:lo.map get=lo.map get':=by
   cases lo with
   | none=>rfl
   | some y=>simp only [Option.map_some];rw [h y (by simp)]
  have e2:hi.map get=hi.map get':=by
   cases hi with
   | none=>rfl
   | some y=>simp only [Option.map_some];rw [h y (by simp)]
  have e3:get x=get' x:=h x (by simp)
  have e4:mx.map get=mx.map get':=by
   cases mx with
   | none=>rfl
   | some y=>simp only [Option.map_some];rw [h y (by simp)]
  rw [e1,e2,e3,e4]
 all_goals (first|rfl|(simp_all;done))
theorem pathOf_congr {s t:St} {ops:Array Oper} {o:Oper} (hl:∀ u∈o.looksAt ops,look s.slots u=look t.slots u):∀ x∈o.op.operands,s.pathOf x=t.pathOf x∧s.get x=t.get x:=by
 intro x hx
 cases x with
 | tmp u =>
   have:look s.slots u=look t.slots u:=hl u (List.mem_append_left _ (List.mem_filterMap.2 ⟨.tmp u,by simpa using hx,rfl⟩))
   constructor <;> simp only [St.pathOf,St.get,ent_congr this]
 | _=>exact ⟨rfl,rfl⟩
theorem allTail_congr {s t:St} {p:List (Nat × Bool)}:∀ {l:List Operand},(∀ x∈l,s.pathOf x=t.pathOf x)→allTail s p l=allTail t p l
 | [],_=>rfl
 | x::l,h=>by simp only [allTail,h x (by simp),allTail_congr fun y hy=>h y (List.mem_cons_of_mem _ hy)]
theorem opsOk_congr {s t:St} {p:List (Nat × Bool)} {op:Op} (h:∀ x∈op.operands,s.pathOf x=t.pathOf x):opsOk s p op=opsOk t p op:=by
 unfold opsOk
 split
 ·rw [h _ (by simp [Op.operands]),h _ (by simp [Op.operands]),h _ (by simp [Op.operands])]
 ·rfl
 ·exact allTail_congr fun x hx=>h x (Array.mem_toList_iff.1 (opList_sub hx))
theorem underP_congr {s t:St}:∀ {p:List (Nat × Bool)} {c:Prop},(∀ u x,(u,x)∈p→look s.slots u=look t.slots u)→underP s p c=underP t p c
 | [],_,_=>rfl
 | (u,x)::r,c,h=>by
   simp only [underP,ent_congr (h u x (by simp))]
   exact underP_congr fun v y hv=>h v y (List.mem_cons_of_mem _ hv)
theorem mapUnder_congr {s t:St} {p:List (Nat × Bool)} (h:∀ u x,(u,x)∈p→look s.slots u=look t.slots u):∀ {cs:List Prop},mapUnder s p cs=mapUnder t p cs
 | []=>rfl
 | c::cs=>by simp only [mapUnder,underP_congr h,mapUnder_congr h]
def GtsOk (s:St):Prop:=∀ t e,look s.slots t=some e→∀ u x,(u,x)∈e.path→mem s.gt u=true
theorem path_mem {s:St} {ops:List Oper} {o:Oper} {p:List (Nat × Bool)} (hg:GtsOk s) (hp:s.pathAt ops o.guard=some p):∀ u x,(u,x)∈p→u∈o.looksAt ops.toArray∧mem (gtOf p []) u=true∨mem s.gt u=true:=by
 intro u x hx
 unfold St.pathAt at hp
 split at hp
 ·cases hp;simp at hx
 ·rename_i j want hgd
  split at hp <;> try (cases hp;done)
  rename_i oj hj
  split at hp <;> try (cases hp;done)
  rename_i t ht
  split at hp <;> try (cases hp;done)
  rename_i b hb
  cases hp
  rcases List.mem_cons.1 hx with hx|hx
  ·cases hx
   rw [nth_spec] at hj
   exact .inl ⟨by simp [Oper.looksAt,hgd,hj,ht],by simp [gtOf,mem_cons]⟩
  ·refine .inr ?_
   unfold St.ent at hx hb
   split at hb
   ·rename_i e he
    simp only [he] at hx
    exact hg t e he u x hx
   ·cases hb
theorem gtOf_looks {s:St} {ops:List Oper} {o:Oper} {p:List (Nat × Bool)} (hp:s.pathAt ops o.guard=some p) {u:Nat} (hu:mem (gtOf p []) u=true):u∈o.looksAt ops.toArray:=by
 unfold St.pathAt at hp
 split at hp
 ·cases hp;simp [gtOf,mem] at hu
 ·rename_i j want hgd
  split at hp <;> try (cases hp;done)
  rename_i oj hj
  split at hp <;> try (cases hp;done)
  rename_i t ht
  split at hp <;> try (cases hp;done)
  rename_i b hb
  cases hp
  simp [gtOf,mem_cons,mem] at hu
  subst hu
  rw [nth_spec] at hj
  simp [Oper.looksAt,hgd,hj,ht]
theorem pathAt_congr {s t:St} {ops:List Oper} {o:Oper} (hl:∀ u∈o.looksAt ops.toArray,look s.slots u=look t.slots u):s.pathAt ops o.guard=t.pathAt ops o.guard:=by
 unfold St.pathAt
 split
 ·rfl
 ·rename_i j want hgd
  split
  ·rename_i oj hj
   split
   ·rename_i u hu
    rw [nth_spec] at hj
    rw [ent_congr (hl u (by simp [Oper.looksAt,hgd,hj,hu]))]
   ·rfl
  ·rfl
theorem litAll_congr {s t:St}:∀ {p:List (Nat × Bool)},(∀ u x,(u,x)∈p→look s.slots u=look t.slots u)→litAll s p=litAll t p
 | [],_=>rfl
 | (u,x)::r,h=>by
   simp only [litAll,ent_congr (h u x (by simp)),litAll_congr fun v y hv=>h v y (List.mem_cons_of_mem _ hv)]
theorem litNo_congr {hs:List (Nat × Bool)} {s t:St}:∀ {p:List (Nat × Bool)},(∀ u x,(u,x)∈p→look s.slots u=look t.slots u)→litNo hs s p=litNo hs t p
 | [],_=>rfl
 | (u,x)::r,h=>by
   simp only [litNo,ent_congr (h u x (by simp)),litNo_congr fun v y hv=>h v y (List.mem_cons_of_mem _ hv)]
theorem StepD.path {tt:TT} {S:Nat→Option Spec} {ops:List Oper} {o:Oper} {s:St} {cs:List Prop} {tr:Tr} {dl:Dl} {p:List (Nat × Bool)} {cs0:List Prop} {av:AV} (h:StepD tt S ops o s cs dl tr p cs0 av) (hg:GtsOk s) :
 (∀ u x,(u,x)∈p→u∈o.looksAt ops.toArray∧mem (gtOf p []) u=true∨mem s.gt u=true)∧∀ u,mem (gtOf p []) u=true→u∈o.looksAt ops.toArray:=by
 obtain ⟨p0,hp0,_,e|⟨e,_⟩⟩:=h.hp
 ·subst e;exact ⟨path_mem hg hp0,fun u hu=>gtOf_looks hp0 hu⟩
 ·subst e;exact ⟨fun u x hx=>by simp at hx,fun u hu=>by simp [gtOf,mem] at hu⟩
theorem allIn_of {ks ks':List Nat}:∀ {l:List Nat},(∀ r,mem l r=true→mem ks r=true→mem ks' r=true)→allIn ks l=true→allIn ks' l=true
 | [],_,_=>rfl
 | k::l,h,ha=>by
   simp only [allIn] at ha ⊢
   split at ha <;> try (cases ha;done)
   rename_i h1
   rw [h k (by simp [mem_cons]) h1]
   exact allIn_of (fun r hr=>h r (by simp [mem_cons,hr])) ha
theorem look_keysOf {l:List (Nat × AObj)} {r:Nat}:mem (keysOf l) r=true↔look l r≠none:=by
 induction l with
 | nil=>simp [keysOf,mem,look]
 | cons x l ih =>
   obtain ⟨k,o⟩:=x
   simp only [keysOf,mem_cons,look_cons,Bool.or_eq_true,decide_eq_true_eq]
   by_cases h:k=r
   ·simp [h]
   ·simp [h,ih]
theorem StepD.wr {tt:TT} {S:Nat→Option Spec} {ops:List Oper} {o:Oper} {s:St} {cs:List Prop} {tr:Tr} {dl:Dl} {p:List (Nat × Bool)} {cs0:List Prop} {av:AV} (h:StepD tt S ops o s cs dl tr p cs0 av) :
 (∀ r,look dl.upd r≠none→mem tr.wr r=true)∧∀ r,mem dl.new r=true→mem tr.wr r=true:=by
 obtain ⟨upd,_,htr,hu⟩:=h.uh
 refine ⟨fun r hr=>?_,fun r hr=>by rw [htr,mem_appK,hr];rfl⟩
 have:look upd r≠none:=by
  rcases hu with ⟨_,e⟩|⟨_,e,_⟩
  ·rwa [e] at hr
  ·rw [e,look_deads] at hr
   intro h0;rw [h0] at hr;simp at hr
 rw [htr,mem_appK,look_keysOf.2 this,Bool.or_true]
theorem StepD.frame {tt:TT} {S:Nat→Option Spec} {ops:List Oper} {o:Oper} {s t:St} {cs:List Prop} {tr:Tr} {dl:Dl} {p:List (Nat × Bool)} {cs0:List Prop} {av:AV} (h:StepD tt S ops o s cs dl tr p cs0 av) (hg:GtsOk s) (hn:t.n=s.n)
 (hl:∀ u∈o.looksAt ops.toArray,look s.slots u=look t.slots u) (hgl:∀ u,mem s.gt u=true→look s.slots u=look t.slots u) (hr:∀ r,mem tr.rd r=true→look t.rows r=look s.rows r)
 (hd:∀ d,o.dst=some d→mem t.gt d=false) (hfr:freshAll t.ks dl.new=true)
 (hks:∀ r,mem tr.wr r=true→mem (appK dl.new s.ks) r=true→mem (appK dl.new t.ks) r=true):StepD tt S ops o t cs dl tr p cs0 av:=by
 obtain ⟨p0,hp0,hops,hpp⟩:=h.hp
 have hpl0:∀ u x,(u,x)∈p0→look s.slots u=look t.slots u:=fun u x hx=>by
  rcases path_mem hg hp0 u x hx with ⟨h1,_⟩|h1
  ·exact hl u h1
  ·exact hgl u h1
 have hpl:∀ u x,(u,x)∈p→look s.slots u=look t.slots u:=fun u x hx=>by
  rcases hpp with e|⟨e,_⟩
  ·rw [e] at hx;exact hpl0 u x hx
  ·rw [e] at hx;simp at hx
 have hpo:=pathOf_congr hl
 have hget:evAt tt S (litNo tt.2.2 t p) t.get o.op o.dst=evAt tt S (litNo tt.2.2 s p) s.get o.op o.dst:=by
  rw [litNo_congr (s:=t) (t:=s) fun u x hx=>(hpl u x hx).symm]
  unfold evAt
  split
  ·rfl
  ·split
   ·rw [evOp_congr fun x hx=>((hpo x hx).2).symm]
   ·exact evOp_congr fun x hx=>((hpo x hx).2).symm
 obtain ⟨upd,hev,htr,hu⟩:=h.uh
 refine ⟨⟨upd,by rw [hget];exact (run_congr hev hr).1,htr,hu.imp id fun ⟨h1,h2,h3,h4⟩=>⟨h1,h2,allIn_of (fun r hr=>hks r (by rw [htr,mem_appK,hr];simp)) h3,h4⟩⟩,⟨p0,by rw [← pathAt_congr hl];exact hp0,by rw [← opsOk_congr fun x hx=>(hpo x hx).1];exact hops,hpp.imp id fun ⟨h1,h2,h3⟩=>⟨h1,by rw [← litAll_congr hpl0];exact h2,h3⟩⟩,hfr,h.hslot,h.hgts,fun d hd'=>⟨?_,by rw [hn];exact (h.hdst d hd').2⟩,by rw [← mapUnder_congr hpl];exact h.hcs⟩
 ·have:=(h.hdst d hd').1
  rw [gtOf_app,mem_appK] at this ⊢
  simp only [Bool.or_eq_false_iff] at this ⊢
  exact ⟨this.1,hd d hd'⟩
theorem GtsOk.app {tt:TT} {S:Nat→Option Spec} {ops:List Oper} {o:Oper} {s:St} {cs:List Prop} {tr:Tr} {dl:Dl} {p:List (Nat × Bool)} {cs0:List Prop} {av:AV} (hg:GtsOk s) (h:StepD tt S ops o s cs dl tr p cs0 av):GtsOk (s.app dl):=by
 have hold:∀ u,mem s.gt u=true→mem (s.app dl).gt u=true:=fun u hu=>by
  show mem (appK dl.gts s.gt) u=true
  rw [mem_appK,hu];simp
 intro t e he u x hx
 change look (optCons dl.slot s.slots) t=some e at he
 rw [h.hslot] at he
 cases hd:o.dst with
 | none=>rw [hd] at he;exact hold u (hg t e he u x hx)
 | some d =>
   rw [hd] at he
   simp only [Option.map_some,optCons,look_cons] at he
   split at he
   ·cases he
    rcases (h.path hg).1 u x hx with ⟨_,h1⟩|h1
    ·show mem (appK dl.gts s.gt) u=true
     rw [h.hgts,mem_appK,h1];rfl
    ·exact hold u h1
   ·exact hold u (hg t e he u x hx)
theorem look_app_ne {s:St} {dl:Dl} {o:Oper} {p:List (Nat × Bool)} {av:AV} (hs:dl.slot=o.dst.map fun d=>(d,⟨p,av⟩)) {u:Nat} (hu:∀ d,o.dst=some d→d≠u):look (s.app dl).slots u=look s.slots u:=by
 show look (optCons dl.slot s.slots) u=_
 rw [hs]
 cases hd:o.dst with
 | none=>rfl
 | some d=>simp [optCons,look_cons,hu d hd]
theorem disj_spec {b:List Nat}:∀ {a:List Nat},disj a b=true→∀ r,mem a r=true→mem b r=false
 | [],_,r,h=>by simp [mem] at h
 | x::a,h,r,hr=>by
   simp only [disj] at h
   split at h
   ·cases h
   ·rename_i hx
    rw [mem_cons] at hr
    by_cases he:x=r
    ·subst he;exact hx
    ·simp [he] at hr;exact disj_spec h r hr
theorem freshAll_of {ks ks':List Nat}:∀ {new:List Nat},freshAll ks new=true→(∀ r,mem new r=true→mem ks' r=false)→freshAll ks' new=true
 | [],_,_=>rfl
 | k::r,h,hk=>by
   simp only [freshAll] at h ⊢
   split at h <;> try (cases h;done)
   rename_i h1 h2 h3
   rw [hk k (by simp [mem_cons]),h2,h3]
   exact freshAll_of h fun i hi=>hk i (by simp [mem_cons,hi])
theorem StepD.swap {tt:TT} {S:Nat→Option Spec} {ops:List Oper} {x y:Oper} {s:St} {cx cy:List Prop} {tx ty:Tr} {dx dy:Dl} {px py:List (Nat × Bool)} {cx0 cy0:List Prop} {ax ay:AV}
 (hx:StepD tt S ops x s cx dx tx px cx0 ax) (hy:StepD tt S ops y (s.app dx) cy dy ty py cy0 ay) (hg:GtsOk s) (hap:Oper.apart ops.toArray x y=true) (hin:indep tx ty=true) :
 StepD tt S ops y s cy dy ty py cy0 ay∧StepD tt S ops x (s.app dy) cx dx tx px cx0 ax∧Same ((s.app dx).app dy) ((s.app dy).app dx)∧GtsOk (s.app dy):=by
 obtain ⟨h1,h2,h3⟩:=Oper.apart_spec hap
 unfold indep at hin
 split at hin <;> try (cases hin;done)
 rename_i i1 i2 i3
 have hg1:=hg.app hx
 have hxs:∀ u,(∀ d,x.dst=some d→d≠u)→look (s.app dx).slots u=look s.slots u:=fun u hu=>look_app_ne hx.hslot hu
 have hys:∀ {z:St} (u:Nat),(∀ d,y.dst=some d→d≠u)→look (z.app dy).slots u=look z.slots u:=fun u hu=>look_app_ne hy.hslot hu
 have hgy:∀ u,mem (s.app dx).gt u=(mem dx.gts u||mem s.gt u):=fun u=>mem_appK
 have hyd:∀ d,y.dst=some d→mem dy.gts d=false∧mem dx.gts d=false∧mem s.gt d=false:=fun d hd=>by
  have:=(hy.hdst d hd).1
  rw [gtOf_app,mem_appK,hgy] at this
  simp only [Bool.or_eq_false_iff] at this
  rw [hy.hgts]
  exact this
 have hxd:∀ d,x.dst=some d→mem dx.gts d=false∧mem s.gt d=false:=fun d hd=>by
  have:=(hx.hdst d hd).1
  rw [gtOf_app,mem_appK] at this
  simp only [Bool.or_eq_false_iff] at this
  rw [hx.hgts]
  exact this
 have hxrow:∀ r,mem ty.rd r=true→look s.rows r=look (s.app dx).rows r:=fun r hr=>by
  show _=look (addRows dx.upd s.rows) r
  rw [look_addRows]
  cases hl:look dx.upd r with
  | none=>rfl
  | some o =>
    have:mem tx.wr r=true:=hx.wr.1 r (by rw [hl];simp)
    rw [disj_spec i1 r this] at hr;cases hr
 have hyrow:∀ r,mem tx.rd r=true→look (s.app dy).rows r=look s.rows r:=fun r hr=>by
  show look (addRows dy.upd s.rows) r=_
  rw [look_addRows]
  cases hl:look dy.upd r with
  | none=>rfl
  | some o =>
    have:mem ty.wr r=true:=hy.wr.1 r (by rw [hl];simp)
    rw [disj_spec i3 r hr] at this;cases this
 have hfy:=freshAll_spec hy.hfr
 have hy':StepD tt S ops y s cy dy ty py cy0 ay:=by
  refine hy.frame hg1 rfl (fun u hu=>hxs u fun d hd e=>h1 d hd (e ▸ hu)) (fun u hu=>hxs u fun d hd e=>?_) hxrow (fun d hd=>(hyd d hd).2.2) (freshAll_of hy.hfr fun r hr=>?_) (fun r hr hm=>?_)
  ·subst e
   rw [hgy] at hu
   rw [(hxd d hd).1,(hxd d hd).2] at hu
   cases hu
  ·have:=(hfy r hr).1
   change mem (appK dx.new s.ks) r=false at this
   rw [mem_appK] at this
   simp only [Bool.or_eq_false_iff] at this
   exact this.2
  ·change mem (appK dy.new (appK dx.new s.ks)) r=true at hm
   simp only [mem_appK] at hm ⊢
   cases hn:mem dx.new r with
   | false=>rw [hn] at hm;simpa using hm
   | true=>rw [disj_spec i2 r (hx.wr.2 r hn)] at hr;cases hr
 have hx':StepD tt S ops x (s.app dy) cx dx tx px cx0 ax:=by
  refine hx.frame hg rfl (fun u hu=>(hys u fun d hd e=>h3 d hd (e ▸ hu)).symm) (fun u hu=>(hys u fun d hd e=>?_).symm) hyrow (fun d hd=>?_) (freshAll_of hx.hfr fun r hr=>?_) (fun r hr hm=>?_)
  ·subst e
   rw [(hyd d hd).2.2] at hu;cases hu
  ·show mem (appK dy.gts s.gt) d=false
   rw [mem_appK,(hxd d hd).2,Bool.or_false]
   cases hm:mem dy.gts d with
   | false=>rfl
   | true =>
     rw [hy.hgts] at hm
     exact absurd ((hy.path hg1).2 d hm) (h1 d hd)
  ·show mem (appK dy.new s.ks) r=false
   rw [mem_appK,(freshAll_spec hx.hfr r hr).1,Bool.or_false]
   cases hm:mem dy.new r with
   | false=>rfl
   | true =>
     have:=(hfy r hm).1
     change mem (appK dx.new s.ks) r=false at this
     rw [mem_appK,hr] at this
     cases this
  ·show mem (appK dx.new (appK dy.new s.ks)) r=true
   simp only [mem_appK] at hm ⊢
   cases h5:mem dx.new r <;> cases h6:mem s.ks r <;> simp_all
 refine ⟨hy',hx',⟨rfl,?_,?_,?_,?_⟩,hg.app hy'⟩
 ·funext u
  show look (optCons dy.slot (optCons dx.slot s.slots)) u=look (optCons dx.slot (optCons dy.slot s.slots)) u
  rw [hx.hslot,hy.hslot]
  cases hdx:x.dst with
  | none=>rfl
  | some d =>
    cases hdy:y.dst with
    | none=>rfl
    | some e =>
      have hne:d≠e:=fun he=>h2 d hdx (he ▸ hdy)
      simp only [Option.map_some,optCons,look_cons]
      by_cases h4:e=u
      ·subst h4;simp [hne]
      ·simp [h4]
 ·funext u
  show mem (appK dy.gts (appK dx.gts s.gt)) u=mem (appK dx.gts (appK dy.gts s.gt)) u
  simp only [mem_appK]
  cases mem dy.gts u <;> cases mem dx.gts u <;> rfl
 ·funext u
  show mem (appK dy.new (appK dx.new s.ks)) u=mem (appK dx.new (appK dy.new s.ks)) u
  simp only [mem_appK]
  cases mem dy.new u <;> cases mem dx.new u <;> rfl
 ·funext u
  show look (addRows dy.upd (addRows dx.upd s.rows)) u=look (addRows dx.upd (addRows dy.upd s.rows)) u
  simp only [look_addRows]
  cases hlx:look dx.upd u with
  | none=>cases look dy.upd u <;> rfl
  | some o =>
    cases hly:look dy.upd u with
    | none=>rfl
    | some o' =>
      have m1:mem tx.wr u=true:=hx.wr.1 u (by rw [hlx];simp)
      have m2:mem ty.wr u=true:=hy.wr.1 u (by rw [hly];simp)
      rw [disj_spec i2 u m1] at m2;cases m2
theorem StepD.same {tt:TT} {S:Nat→Option Spec} {ops:List Oper} {o:Oper} {s t:St} {cs:List Prop} {tr:Tr} {dl:Dl} {p:List (Nat × Bool)} {cs0:List Prop} {av:AV} (h:StepD tt S ops o s cs dl tr p cs0 av) (hs:Same s t) (hg:GtsOk s) :
 StepD tt S ops o t cs dl tr p cs0 av∧Same (s.app dl) (t.app dl):=by
 refine ⟨h.frame hg hs.n.symm (fun u _=>by rw [hs.slots]) (fun u _=>by rw [hs.slots]) (fun r _=>by rw [hs.rows]) (fun d hd=>?_) (freshAll_of h.hfr fun r hr=>by rw [← hs.ks];exact (freshAll_spec h.hfr r hr).1) (fun r _ hm=>by rw [mem_appK] at hm ⊢;rw [← hs.ks];exact hm),hs.n,?_,?_,?_,?_⟩
 ·have:=(h.hdst d hd).1
  rw [gtOf_app,mem_appK] at this
  simp only [Bool.or_eq_false_iff] at this
  rw [← hs.gt];exact this.2
 ·funext u
  show look (optCons dl.slot s.slots) u=look (optCons dl.slot t.slots) u
  cases dl.slot with
  | none=>rw [show optCons none s.slots=s.slots from rfl,hs.slots];rfl
  | some x=>obtain ⟨i,e⟩:=x;simp only [optCons,look_cons,hs.slots]
 ·funext u
  show mem (appK dl.gts s.gt) u=mem (appK dl.gts t.gt) u
  rw [mem_appK,mem_appK,hs.gt]
 ·funext u
  show mem (appK dl.new s.ks) u=mem (appK dl.new t.ks) u
  rw [mem_appK,mem_appK,hs.ks]
 ·funext u
  show look (addRows dl.upd s.rows) u=look (addRows dl.upd t.rows) u
  rw [look_addRows,look_addRows,hs.rows]
end Go.AM
end

section
namespace Go.AM
section
variable {kk:IntKind} {v:Ty} {x y:Int} {a b:v.El}
theorem find_put (h:x≠y):∀ {l:List (Int × v.El)},mapFind (.int kk) v y (mapPut (.int kk) v x a l)=mapFind (.int kk) v y l
 | []=>rfl
 | e::l=>by
   have hx:keyEq (.int kk) x e.1=decide (x=e.1):=rfl
   have hy:keyEq (.int kk) y e.1=decide (y=e.1):=rfl
   by_cases h1:x=e.1
   ·have h2:keyEq (.int kk) y x=false:=decide_eq_false (Ne.symm h)
    have h3:keyEq (.int kk) y e.1=false:=by rw [← h1];exact h2
    have h4:keyEq (.int kk) x e.1=true:=decide_eq_true h1
    simp only [mapPut,h4,cond_true,mapFind,h2,h3,cond_false]
   ·simp only [mapPut,hx,h1,decide_false,cond_false,mapFind]
    rw [find_put h]
theorem find_ins (h:x≠y):∀ {l:List (Int × v.El)},mapFind (.int kk) v y (mapIns (.int kk) v x a l)=mapFind (.int kk) v y l
 | []=>by
   have h2:keyEq (.int kk) y x=false:=decide_eq_false (Ne.symm h)
   simp [mapIns,mapFind,h2]
 | e::l=>by
   have h2:keyEq (.int kk) y x=false:=decide_eq_false (Ne.symm h)
   cases h1:keyLt (.int kk) x e.1
   ·simp only [mapIns,h1,cond_false,mapFind]
    rw [find_ins h]
   ·simp only [mapIns,h1,cond_true,mapFind,h2,cond_false]
theorem put_put (h:x≠y):∀ {l:List (Int × v.El)},mapPut (.int kk) v y b (mapPut (.int kk) v x a l)=mapPut (.int kk) v x a (mapPut (.int kk) v y b l)
 | []=>rfl
 | e::l=>by
   have h2:keyEq (.int kk) y x=false:=decide_eq_false (Ne.symm h)
   have h3:keyEq (.int kk) x y=false:=decide_eq_false h
   cases h1:keyEq (.int kk) x e.1 <;> cases h4:keyEq (.int kk) y e.1
   ·simp only [mapPut,h1,h4,cond_false]
    rw [put_put h]
   ·simp only [mapPut,h1,h4,cond_false,cond_true,h3]
   ·simp only [mapPut,h1,h4,cond_false,cond_true,h2]
   ·have e1:x=e.1:=of_decide_eq_true h1
    have e2:y=e.1:=of_decide_eq_true h4
    exact absurd (e1.trans e2.symm) h
theorem put_ins (h:x≠y):∀ {l:List (Int × v.El)},mapPut (.int kk) v y b (mapIns (.int kk) v x a l)=mapIns (.int kk) v x a (mapPut (.int kk) v y b l)
 | []=>by
   have h2:keyEq (.int kk) y x=false:=decide_eq_false (Ne.symm h)
   simp [mapIns,mapPut,h2]
 | e::l=>by
   have h2:keyEq (.int kk) y x=false:=decide_eq_false (Ne.symm h)
   cases h1:keyLt (.int kk) x e.1 <;> cases h4:keyEq (.int kk) y e.1
   ·simp only [mapIns,mapPut,h1,h4,cond_false]
    rw [put_ins h]
   ·have e2:y=e.1:=of_decide_eq_true h4
    have h5:keyLt (.int kk) x y=false:=by rw [e2];exact h1
    simp only [mapIns,mapPut,h1,h4,cond_false,cond_true,h5]
   ·simp only [mapIns,mapPut,h1,h4,cond_false,cond_true,h2]
   ·have e2:y=e.1:=of_decide_eq_true h4
    have h5:keyLt (.int kk) x y=true:=by rw [e2];exact h1
    simp only [mapIns,mapPut,h1,h4,cond_false,cond_true,h2,h5]
theorem ins_ins (h:x≠y):∀ {l:List (Int × v.El)},mapIns (.int kk) v y b (mapIns (.int kk) v x a l)=mapIns (.int kk) v x a (mapIns (.int kk) v y b l)
 | []=>by
   have q1:keyLt (.int kk) y x=decide (y < x):=rfl
   have q2:keyLt (.int kk) x y=decide (x < y):=rfl
   by_cases h1:x < y
   ·have:¬ y < x:=by omega
    simp [mapIns,q1,q2,h1,this]
   ·have:y < x:=by omega
    simp [mapIns,q1,q2,h1,this]
 | e::l=>by
   have q1:keyLt (.int kk) y x=decide (y < x):=rfl
   have q2:keyLt (.int kk) x y=decide (x < y):=rfl
   have q3:keyLt (.int kk) x e.1=decide (x < e.1):=rfl
   have q4:keyLt (.int kk) y e.1=decide (y < e.1):=rfl
   have tr:∀ {p q:Int},p < q∨q < p∨p=q:=fun {p q}=>by omega
   by_cases h1:(x:Int) < e.1 <;> by_cases h4:(y:Int) < e.1 <;> by_cases h5:x < y
   ·have h6:¬ y < x:=by omega
    simp [mapIns,q1,q2,q3,q4,h1,h4,h5,h6]
   ·have h6:y < x:=by omega
    simp [mapIns,q1,q2,q3,q4,h1,h4,h5,h6]
   ·have h6:¬ y < x:=by omega
    simp [mapIns,q1,q2,q3,q4,h1,h4,h5,h6]
   ·exact absurd (Int.lt_of_le_of_lt (Int.not_lt.1 h5) h1) h4
   ·exact absurd (Int.lt_trans h5 h4) h1
   ·have h6:y < x:=by omega
    simp [mapIns,q1,q2,q3,q4,h1,h4,h5,h6]
   ·simp [mapIns,q3,q4,h1,h4]
    exact ins_ins h
   ·simp [mapIns,q3,q4,h1,h4]
    exact ins_ins h
theorem mapSet_comm (h:x≠y) (l:List (Int × v.El)):mapSet (.int kk) v y b (mapSet (.int kk) v x a l)=mapSet (.int kk) v x a (mapSet (.int kk) v y b l):=by
 have hxy:mapFind (.int kk) v y (mapSet (.int kk) v x a l)=mapFind (.int kk) v y l:=by
  unfold mapSet
  split
  ·exact find_put h
  ·exact find_ins h
 have hyx:mapFind (.int kk) v x (mapSet (.int kk) v y b l)=mapFind (.int kk) v x l:=by
  unfold mapSet
  split
  ·exact find_put (Ne.symm h)
  ·exact find_ins (Ne.symm h)
 rw [show mapSet (.int kk) v y b (mapSet (.int kk) v x a l)=(match mapFind (.int kk) v y (mapSet (.int kk) v x a l) with|some _=>mapPut (.int kk) v y b (mapSet (.int kk) v x a l)|none=>mapIns (.int kk) v y b (mapSet (.int kk) v x a l)) from rfl,
  show mapSet (.int kk) v x a (mapSet (.int kk) v y b l)=(match mapFind (.int kk) v x (mapSet (.int kk) v y b l) with|some _=>mapPut (.int kk) v x a (mapSet (.int kk) v y b l)|none=>mapIns (.int kk) v x a (mapSet (.int kk) v y b l)) from rfl,hxy,hyx]
 unfold mapSet
 cases h1:mapFind (.int kk) v x l <;> cases h2:mapFind (.int kk) v y l <;> dsimp only
 ·exact ins_ins h
 ·exact put_ins h
 ·exact (put_ins (Ne.symm h)).symm
 ·exact put_put h
end
section
theorem upd_shape {S:Nat→Option Spec} {ti:TI} {kk kk':IntKind} {v:Ty} {z y:AV} (hd:ti.d=.map (.int kk) v z) {r:Nat} {n:Int} {row:Nat→Option AObj} {l:List Nat} {res:Res} {rd:List Nat}
 (h:(evUpd S ti (.own r) (.int kk' n) y).run row l=some (res,rd)) :
 ∃ (kvs:List (Int × v.El)) (vx:v.El) (cs:List Prop),row r=some (.map (.int kk) v kvs)∧res=⟨cs,.junk,[(r,.map (.int kk) v (mapSet (.int kk) v n vx kvs))],[]⟩∧rd=r::l ∧
  ∀ (row':Nat→Option AObj) (kvs':List (Int × v.El)) (l':List Nat),row' r=some (.map (.int kk) v kvs')→(evUpd S ti (.own r) (.int kk' n) y).run row' l'=some (⟨cs,.junk,[(r,.map (.int kk) v (mapSet (.int kk) v n vx kvs'))],[]⟩,r::l'):=by
 simp only [evUpd,hd,RQ.run] at h ⊢
 split at h <;> try (cases h;done)
 rename_i o ho
 split at h <;> try exact (fX h).elim
 rename_i k' v' kvs
 split at h <;> try exact (fX h).elim
 rename_i h1 h2 kx vx e1 e2 e3 e4
 subst h1 h2
 have hn:kx=n:=by
  unfold keyInt at e3
  simp only [intsT,decV,dec] at e3
  split at e3
  ·rename_i q hq
   split at hq <;> cases hq
   cases e3
   rfl
  ·cases e3
 subst hn
 have h:RQ.run row (RQ.ret (⟨(seeG S v' y).2,.junk,[(r,.map (.int kk) v' (mapSet (.int kk) v' kx vx kvs))],[]⟩:Res)) (r::l)=some (res,rd):=h
 simp only [RQ.run,Option.some.injEq,Prod.mk.injEq] at h
 obtain ⟨rfl,rfl⟩:=h
 refine ⟨kvs,vx,_,ho,rfl,rfl,fun row' kvs' l' hr=>?_⟩
 rw [hr]
 dsimp only
 rw [e1,e2,e3,e4]
 rfl
theorem run_congr' {α:Type} {row row':Nat→Option AObj}:∀ {q:RQ α} {l:List Nat} {x:α} {rd:List Nat},q.run row l=some (x,rd)→(∀ r,mem rd r=true→row' r=row r)→q.run row' l=some (x,rd)∧∀ r,mem l r=true→mem rd r=true
 | .ret y,l,x,rd,h,_=>by
   simp only [RQ.run,Option.some.injEq,Prod.mk.injEq] at h
   obtain ⟨rfl,rfl⟩:=h
   exact ⟨rfl,fun _ h=>h⟩
 | .fail,l,x,rd,h,_=>by simp [RQ.run] at h
 | .ask k f,l,x,rd,h,hr=>by
   simp only [RQ.run] at h ⊢
   cases ho:row k with
   | none=>rw [ho] at h;cases h
   | some o =>
     rw [ho] at h
     obtain ⟨h1,h2⟩:=run_congr' h hr
     have hk:mem rd k=true:=h2 k (by rw [mem_cons];simp)
     rw [hr k hk,ho]
     exact ⟨h1,fun r hm=>h2 r (by rw [mem_cons,hm];simp)⟩
theorem updX_shape {S:Nat→Option Spec} {ti:TI} {kk kk':IntKind} {v:Ty} {z y:AV} (hd:ti.d=.map (.int kk) v z) {r:Nat} {n:Int} {row:Nat→Option AObj} {res:Res} {rd:List Nat}
 (h:(evUpdX S ti (.own r) (.int kk' n) y).run row []=some (res,rd)) :
 ∃ (kvs:List (Int × v.El)) (vx:v.El) (cs:List Prop) (ms fz:List Nat),row r=some (.map (.int kk) v kvs)∧res=⟨cs,.junk,(r,.map (.int kk) v (mapSet (.int kk) v n vx kvs))::ms.map (fun m=>(m,.dead)),[]⟩∧rd=r::fz∧(∀ m∈ms,IsSeq row m) ∧
  ∀ (row':Nat→Option AObj) (kvs':List (Int × v.El)),row' r=some (.map (.int kk) v kvs')→(∀ q,mem fz q=true→row' q=row q)→(evUpdX S ti (.own r) (.int kk' n) y).run row' []=some (⟨cs,.junk,(r,.map (.int kk) v (mapSet (.int kk) v n vx kvs'))::ms.map (fun m=>(m,.dead)),[]⟩,r::fz):=by
 by_cases hy:∃ cs,y=.agg cs
 ·obtain ⟨cs,rfl⟩:=hy
  simp only [evUpdX] at h ⊢
  rw [run_bind] at h
  split at h <;> try (cases h;done)
  rename_i fr fz hfr
  obtain ⟨ds,ms⟩:=fr
  obtain ⟨_,_,q3,_⟩:=frzLQ_spec hfr
  dsimp only at h
  rw [run_bind] at h
  split at h <;> try (cases h;done)
  rename_i r1 rd1 hr1
  obtain ⟨kvs,vx,cs1,h1,h2,h3,h4⟩:=upd_shape hd hr1
  subst h2 h3
  have h:RQ.run row (RQ.ret (⟨cs1,.junk,appU [(r,.map (.int kk) v (mapSet (.int kk) v n vx kvs))] ms,[]⟩:Res)) (r::fz)=some (res,rd):=h
  simp only [RQ.run,Option.some.injEq,Prod.mk.injEq] at h
  obtain ⟨rfl,rfl⟩:=h
  refine ⟨kvs,vx,cs1,ms,fz,h1,by rw [appU_eq];rfl,rfl,fun m hm=>(q3 m hm).elim (fun h=>by cases h) id,fun row' kvs' hr hq=>?_⟩
  rw [run_bind,(run_congr' hfr hq).1]
  dsimp only
  rw [run_bind,h4 row' kvs' fz hr]
  dsimp only
  rw [appU_eq]
  rfl
 ·have e:evUpdX S ti (.own r) (.int kk' n) y=evUpd S ti (.own r) (.int kk' n) y:=by
   unfold evUpdX
   split
   ·exact absurd ⟨_,rfl⟩ hy
   ·rfl
  rw [e] at h ⊢
  obtain ⟨kvs,vx,cs1,h1,h2,h3,h4⟩:=upd_shape hd h
  exact ⟨kvs,vx,cs1,[],[],h1,h2,h3,(fun m hm=>by cases hm),fun row' kvs' hr _=>h4 row' kvs' [] hr⟩
end
end Go.AM
end

section
namespace Go.AM
theorem upd_own {S:Nat→Option Spec} {ti:TI} {k v:Ty} {z m x y:AV} (hd:ti.d=.map k v z) {row:Nat→Option AObj} {l:List Nat} {res:Res} {rd:List Nat} (h:(evUpd S ti m x y).run row l=some (res,rd)):∃ r,m=.own r:=by
 unfold evUpd at h
 rw [hd] at h
 split at h
 ·contradiction
 ·rename_i r _;exact ⟨r,rfl⟩
 ·exact (fX h).elim
theorem updX_own {S:Nat→Option Spec} {ti:TI} {k v:Ty} {z m x y:AV} (hd:ti.d=.map k v z) {row:Nat→Option AObj} {l:List Nat} {res:Res} {rd:List Nat} (h:(evUpdX S ti m x y).run row l=some (res,rd)):∃ r,m=.own r:=by
 unfold evUpdX at h
 split at h
 ·rw [run_bind] at h
  split at h <;> try (cases h;done)
  dsimp only at h
  rw [run_bind] at h
  split at h <;> try (cases h;done)
  rename_i hr1
  exact upd_own hd hr1
 ·exact upd_own hd h
theorem keys_dead:∀ ms:List Nat,keysOf (ms.map fun m=>(m,AObj.dead))=ms
 | []=>rfl
 | m::ms=>congrArg (m::·) (keys_dead ms)
theorem ins_step {tt:TT} {S:Nat→Option Spec} {ops:List Oper} {o:Oper} {s:St} {cs:List Prop} {dl:Dl} {tr:Tr} {p:List (Nat × Bool)} {cs0:List Prop} {av:AV} {t m:Nat} {kk':IntKind} {n:Int} {w:Operand} {ti:TI} {kk:IntKind} {v:Ty} {z:AV}
 (h:StepD tt S ops o s cs dl tr p cs0 av) (hop:o.op=.insert t (.tmp m) (.const (.int kk' n)) w) (hg:o.guard=none) (hd:o.dst=none) (hl:look tt.1 t=some ti) (htd:ti.d=.map (.int kk) v z) :
 ∃ r kvs vx ms fz,s.get (.tmp m)=.own r∧look s.rows r=some (.map (.int kk) v kvs)∧p=[]∧av=.junk∧cs=cs0∧dl=⟨none,[],[],(r,.map (.int kk) v (mapSet (.int kk) v n vx kvs))::ms.map (fun m=>(m,.dead))⟩∧tr.rd=r::fz∧tr.wr=r::ms∧(∀ m∈ms,IsSeq (look s.rows) m) ∧
  ∀ (s':St) (kvs':List (Int × v.El)),s'.n=s.n→s'.slots=s.slots→s'.gt=s.gt→look s'.rows r=some (.map (.int kk) v kvs')→(∀ q,mem fz q=true→look s'.rows q=look s.rows q) →
   StepD tt S ops o s' cs ⟨none,[],[],(r,.map (.int kk) v (mapSet (.int kk) v n vx kvs'))::ms.map (fun m=>(m,.dead))⟩ tr [] cs0 av:=by
 obtain ⟨slot,gts,new,upd'⟩:=dl
 obtain ⟨rd,wr⟩:=tr
 obtain ⟨⟨upd,hev,htr,hu⟩,⟨p0,hp,hops,hpp⟩,hfr,hslot,hgts,hdst,hcs⟩:=h
 dsimp only at *
 rw [hg] at hp
 have hp:[]=p0:=Option.some.inj hp
 subst hp
 have hp:p=[]:=hpp.elim id (fun h=>h.1)
 subst hp
 have hu:upd'=upd:=hu.elim (fun h=>h.2) (fun h=>absurd rfl h.1)
 subst hu
 have key:∀ s0:St,evAt tt S (litNo tt.2.2 s0 []) s0.get o.op o.dst=evUpdX S ti (s0.get (.tmp m)) (.int kk' n) (s0.get w):=fun s0=>by
  rw [hop,hd]
  show evOp tt S s0.get 65535 (.insert t (.tmp m) (.const (.int kk' n)) w)=_
  simp only [evOp,hl]
  exact evUpdK_eq
 rw [key] at hev
 obtain ⟨r,hr⟩:=updX_own htd hev
 rw [hr] at hev
 obtain ⟨kvs,vx,cs1,ms,fz,h1,h2,h3,h4,h5⟩:=updX_shape htd hev
 injection h2 with e1 e2 e3 e4
 subst e1 e2 e3 e4 h3
 rw [hd] at hslot
 have hslot:slot=none:=hslot
 have hgts:gts=[]:=hgts
 subst hslot hgts
 have hwr:wr=r::ms:=by
  rw [htr]
  show keysOf _=_
  exact congrArg (r::·) (keys_dead ms)
 refine ⟨r,kvs,vx,ms,fz,hr,h1,rfl,rfl,?_,rfl,rfl,hwr,h4,fun s' kvs' k1 k2 k3 k4 k5=>?_⟩
 ·rw [hcs,mapUnder_nil]
 ·have hget:∀ x,s'.get x=s.get x:=fun x=>by
   cases x <;> simp only [St.get,St.ent,k2]
  refine ⟨⟨_,by rw [key,hget,hget,hr];exact h5 _ kvs' k4 k5,?_,.inl ⟨rfl,rfl⟩⟩,⟨[],by rw [hg];rfl,?_,.inl rfl⟩,rfl,by rw [hd];rfl,rfl,(fun d h=>by rw [hd] at h;cases h),by rw [hcs,mapUnder_nil,mapUnder_nil]⟩
  ·rw [hwr]
   show _=keysOf _
   exact congrArg (r::·) (keys_dead ms).symm
  ·rw [← hops]
   exact opsOk_congr fun x _=>by cases x <;> simp only [St.pathOf,St.ent,k2]
theorem look_deadI:∀ {ms:List Nat} {u:Nat},look (ms.map fun m=>(m,AObj.dead)) u=if mem ms u=true then some .dead else none
 | [],u=>by simp [look,mem]
 | m::ms,u=>by
   rw [List.map_cons,look_cons,look_deadI,mem_cons]
   by_cases h:m=u
   ·simp [h]
   ·simp [h]
theorem StepD.swapI {tt:TT} {S:Nat→Option Spec} {ops:List Oper} {x y:Oper} {s:St} {cx cy:List Prop} {tx ty:Tr} {dx dy:Dl} {px py:List (Nat × Bool)} {cx0 cy0:List Prop} {ax ay:AV} {t m:Nat} {k1 k2:IntKind} {n n':Int} {wx wy:Operand} {ti:TI} {kk:IntKind} {v:Ty} {z:AV}
 (hx:StepD tt S ops x s cx dx tx px cx0 ax) (hy:StepD tt S ops y (s.app dx) cy dy ty py cy0 ay) (hg:GtsOk s)
 (hox:x.op=.insert t (.tmp m) (.const (.int k1 n)) wx) (hgx:x.guard=none) (hdx:x.dst=none) (hoy:y.op=.insert t (.tmp m) (.const (.int k2 n')) wy) (hgy:y.guard=none) (hdy:y.dst=none) (hl:look tt.1 t=some ti) (htd:ti.d=.map (.int kk) v z) (hn:n≠n') (hin:insIndep tx ty=true) :
 ∃ dx' dy',StepD tt S ops y s cy dy' ty py cy0 ay∧StepD tt S ops x (s.app dy') cx dx' tx px cx0 ax∧Same ((s.app dx).app dy) ((s.app dy').app dx')∧GtsOk (s.app dy'):=by
 obtain ⟨r,kvs,vx,msx,fx,gx,rx,rfl,rfl,rfl,rfl,rdx,wrx,sx,againx⟩:=ins_step hx hox hgx hdx hl htd
 obtain ⟨r',kvs2,vy,msy,fy,gy,ry,rfl,rfl,rfl,rfl,rdy,wry,sy,againy⟩:=ins_step hy hoy hgy hdy hl htd
 have gy:s.get (.tmp m)=.own r':=gy
 rw [gx] at gy
 cases gy
 unfold insIndep at hin
 rw [rdx,wrx,rdy,wry] at hin
 simp only [Bool.and_eq_true,Bool.not_eq_true'] at hin
 obtain ⟨⟨⟨⟨⟨⟨i1,i2⟩,i3⟩,i4⟩,i5⟩,i6⟩,i7⟩:=hin
 have lk:∀ (ms:List Nat) (o:AObj) (s0:St) (u:Nat),look (addRows ((r,o)::ms.map fun m=>(m,AObj.dead)) s0.rows) u=if u=r then some o else if mem ms u=true then some .dead else look s0.rows u:=fun ms o s0 u=>by
  rw [look_addRows,look_cons]
  by_cases h:r=u
  ·simp [h]
  ·rw [if_neg (Ne.symm h)]
   simp only [h,if_false,look_deadI]
   cases mem ms u <;> rfl
 have ry:look (addRows ((r,.map (.int kk) v (mapSet (.int kk) v n vx kvs))::msx.map fun m=>(m,AObj.dead)) s.rows) r=some (.map (.int kk) v kvs2):=ry
 rw [lk,if_pos rfl] at ry
 cases ry
 have hy':=againy s kvs rfl rfl rfl rx (fun q hq=>by
  show _=look (addRows _ s.rows) q
  have h1:q≠r:=fun e=>by rw [e,i2] at hq;cases hq
  have h2:mem msx q=false:=by
   cases h3:mem msx q
   ·rfl
   ·rw [disj_spec i5 q h3] at hq;cases hq
  rw [lk,if_neg h1,h2]
  rfl)
 have hx':=againx (s.app ⟨none,[],[],(r,.map (.int kk) v (mapSet (.int kk) v n' vy kvs))::msy.map fun m=>(m,AObj.dead)⟩) (mapSet (.int kk) v n' vy kvs) rfl rfl rfl (by
  show look (addRows _ s.rows) r=_
  rw [lk,if_pos rfl]) (fun q hq=>by
  show look (addRows _ s.rows) q=_
  have h1:q≠r:=fun e=>by rw [e,i1] at hq;cases hq
  have h2:mem msy q=false:=by
   cases h3:mem msy q
   ·rfl
   ·rw [disj_spec i7 q h3] at hq;cases hq
  rw [lk,if_neg h1,h2]
  rfl)
 refine ⟨_,_,hy',hx',⟨rfl,rfl,rfl,rfl,?_⟩,hg.app hy'⟩
 funext u
 have lk2:∀ (ms1 ms2:List Nat) (o1 o2:AObj),look (addRows ((r,o2)::ms2.map fun m=>(m,AObj.dead)) (addRows ((r,o1)::ms1.map fun m=>(m,AObj.dead)) s.rows)) u=if u=r then some o2 else if mem ms2 u=true then some .dead else if mem ms1 u=true then some .dead else look s.rows u:=fun ms1 ms2 o1 o2=>by
  have:=lk ms2 o2 ⟨s.n,s.slots,s.gt,s.ks,addRows ((r,o1)::ms1.map fun m=>(m,AObj.dead)) s.rows⟩ u
  rw [this]
  by_cases h:u=r
  ·simp [h]
  ·simp only [h,if_false]
   split
   ·rfl
   ·have:=lk ms1 o1 s u
    simp only [h,if_false] at this
    exact this
 show look (addRows _ (addRows _ s.rows)) u=look (addRows _ (addRows _ s.rows)) u
 rw [lk2,lk2,mapSet_comm hn]
 by_cases h:u=r
 ·simp [h]
 ·simp only [h,if_false]
  cases mem msx u <;> cases mem msy u <;> rfl
theorem insPair_spec {tt:TT} {x y:Oper} (h:insPair tt x y=true):∃ t m k1 k2 n n' wx wy ti kk v z,x.op=.insert t (.tmp m) (.const (.int k1 n)) wx∧x.guard=none∧x.dst=none∧y.op=.insert t (.tmp m) (.const (.int k2 n')) wy∧y.guard=none∧y.dst=none∧look tt.1 t=some ti∧ti.d=.map (.int kk) v z∧n≠n':=by
 unfold insPair at h
 split at h <;> try (cases h;done)
 rename_i t m k1 n wx t' m' k2 n' wy h1 h2
 split at h <;> try (cases h;done)
 rename_i h3 h4 h5 h6 h7 h8 h9 h10
 rw [← beq_eq h7,← beq_eq h8] at h2
 unfold isIntMap at h9
 split at h9 <;> try (cases h9;done)
 rename_i ti hti
 split at h9 <;> try (cases h9;done)
 rename_i kk v z hd
 exact ⟨t,m,k1,k2,n,n',wx,wy,ti,kk,v,z,h1,h3,h4,h2,h5,h6,hti,hd,of_decide_eq_false h10⟩
theorem StepD.swapX {tt:TT} {S:Nat→Option Spec} {ops:List Oper} {x y:Oper} {s:St} {cx cy:List Prop} {tx ty:Tr} {dx dy:Dl} {px py:List (Nat × Bool)} {cx0 cy0:List Prop} {ax ay:AV}
 (hx:StepD tt S ops x s cx dx tx px cx0 ax) (hy:StepD tt S ops y (s.app dx) cy dy ty py cy0 ay) (hg:GtsOk s) (hap:Oper.apart ops.toArray x y=true) (hin:indepX tt x y tx ty=true) :
 ∃ dx' dy',StepD tt S ops y s cy dy' ty py cy0 ay∧StepD tt S ops x (s.app dy') cx dx' tx px cx0 ax∧Same ((s.app dx).app dy) ((s.app dy').app dx')∧GtsOk (s.app dy'):=by
 unfold indepX at hin
 split at hin
 ·rename_i h
  exact ⟨dx,dy,hx.swap hy hg hap h⟩
 ·split at hin <;> try (cases hin;done)
  rename_i h
  obtain ⟨t,m,k1,k2,n,n',wx,wy,ti,kk,v,z,h1,h2,h3,h4,h5,h6,h7,h8,h9⟩:=insPair_spec h
  exact hx.swapI hy hg h1 h2 h3 h4 h5 h6 h7 h8 h9 hin
end Go.AM
end
