/- AmDraw, AmExp. -/
import Derived.Test.YtmohhhbgcehnpaaGreatPm09

section
set_option linter.all false
namespace Go.AM
structure Same (s t:St):Prop where
 n:s.n=t.n
 slots:look s.slots=look t.slots
 gt:mem s.gt=mem t.gt
 ks:mem s.ks=mem t.ks
 rows:look s.rows=look t.rows
theorem Same.symm {s t:St} (h:Same s t):Same t s:=⟨h.n.symm,h.slots.symm,h.gt.symm,h.ks.symm,h.rows.symm⟩
theorem Rel_same {C:Ctx} {g:Nat→Gh} {R:Nat→Prop} {s t:St} {a:Act} {w:World} (h:Same s t) (hrel:Rel C g R s a w):Rel C g R t a w:=by
 obtain ⟨h1,h2,h3,h4,h5⟩:=hrel
 refine ⟨h1.trans h.n,h2,?_,?_,?_⟩
 ·rw [← h.slots,← h.ks];exact h3
 ·rw [← h.slots,← h.gt];exact h4
 ·rw [← h.rows,← h.ks];exact h5
structure Dl where
 slot:Option (Nat × Ent)
 gts:List Nat
 new:List Nat
 upd:List (Nat × AObj)
def optCons {α:Type}:Option α→List α→List α
 | none,l=>l
 | some x,l=>x::l
def St.app (s:St) (d:Dl):St:=⟨s.n,optCons d.slot s.slots,appK d.gts s.gt,appK d.new s.ks,addRows d.upd s.rows⟩
structure StepD (tt:TT) (S:Nat→Option Spec) (ops:List Oper) (o:Oper) (s:St) (cs:List Prop) (dl:Dl) (tr:Tr) (p:List (Nat × Bool)) (cs0:List Prop) (av:AV):Prop where
 uh:∃ upd,(evAt tt S (litNo tt.2.2 s p) s.get o.op o.dst).run (look s.rows) []=some (⟨cs0,av,upd,dl.new⟩,tr.rd)∧tr.wr=appK dl.new (keysOf upd)∧((p=[]∧dl.upd=upd)∨(p≠[]∧dl.upd=deads upd∧allIn (appK dl.new s.ks) (keysOf upd)=true∧o.dst≠none))
 hp:∃ p0,s.pathAt ops o.guard=some p0∧opsOk s p0 o.op=true∧(p=p0∨(p=[]∧litAll s p0=true∧o.dst≠none))
 hfr:freshAll s.ks dl.new=true
 hslot:dl.slot=o.dst.map fun d=>(d,⟨p,av⟩)
 hgts:dl.gts=gtOf p []
 hdst:∀ d,o.dst=some d→mem (gtOf p s.gt) d=false∧d < s.n
 hcs:cs=mapUnder s p cs0
theorem mapUnder_nil {s:St}:∀ {cs:List Prop},mapUnder s [] cs=cs
 | []=>rfl
 | c::cs=>by simp [mapUnder,underP,mapUnder_nil]
theorem gtOf_app {p:List (Nat × Bool)} {gt:List Nat}:gtOf p gt=appK (gtOf p []) gt:=by
 cases p <;> rfl
theorem litNo_all {hs:List (Nat × Bool)} {s:St}:∀ {p:List (Nat × Bool)},litAll s p=true→litNo hs s p=false
 | [],_=>rfl
 | (u,x)::r,h=>by
   simp only [litAll] at h
   split at h
   ·rename_i h1 h2
    simp only [litNo,h1,h2,litNo_all h]
    split <;> rfl
   ·rename_i h1 h2
    simp only [litNo,h1,h2,litNo_all h]
    split <;> rfl
   ·cases h
theorem stepD_of {tt:TT} {S:Nat→Option Spec} {ops:List Oper} {o:Oper} {s s':St} {cs:List Prop} {tr:Tr} (h:StepS tt S ops o s cs s' tr):∃ dl p cs0 av,StepD tt S ops o s cs dl tr p cs0 av∧s'=s.app dl:=by
 obtain ⟨p,cs0,av,upd,new,rd,hp,hops,hev,hfr,rfl,hcase⟩:=h.out
 rcases hcase with ⟨hpl,rfl,hcase⟩|⟨hpne,hin,d,hd,hgt,hlt,rfl,rfl⟩
 ·have hp':∃ p0,s.pathAt ops o.guard=some p0∧opsOk s p0 o.op=true∧([]=p0∨([]=([]:List (Nat × Bool))∧litAll s p0=true∧o.dst≠none)):=⟨p,hp,hops,by
   rcases hpl with rfl|⟨h1,h2⟩
   ·exact .inl rfl
   ·exact .inr ⟨rfl,h1,h2⟩⟩
  have hnn:litNo tt.2.2 s p=litNo tt.2.2 s []:=by
   rcases hpl with rfl|⟨h1,_⟩
   ·rfl
   ·rw [litNo_all h1];rfl
  rw [hnn] at hev
  rcases hcase with ⟨hd,rfl⟩|⟨d,hd,hgt,hlt,rfl⟩
  ·exact ⟨⟨none,[],new,upd⟩,[],cs,av,⟨⟨upd,hev,rfl,.inl ⟨rfl,rfl⟩⟩,hp',hfr,by simp [hd],rfl,fun d h=>(by rw [hd] at h;cases h),mapUnder_nil.symm⟩,rfl⟩
  ·exact ⟨⟨some (d,⟨[],av⟩),[],new,upd⟩,[],cs,av,⟨⟨upd,hev,rfl,.inl ⟨rfl,rfl⟩⟩,hp',hfr,by simp [hd],rfl,fun d' h=>(by rw [hd] at h;cases h;exact ⟨hgt,hlt⟩),mapUnder_nil.symm⟩,rfl⟩
 ·exact ⟨⟨some (d,⟨p,av⟩),gtOf p [],new,deads upd⟩,p,cs0,av,⟨⟨upd,hev,rfl,.inr ⟨hpne,rfl,hin,by simp [hd]⟩⟩,⟨p,hp,hops,.inl rfl⟩,hfr,by simp [hd],rfl,fun d' h=>(by rw [hd] at h;cases h;exact ⟨hgt,hlt⟩),rfl⟩,by rw [gtOf_app];rfl⟩
theorem stepS_of {tt:TT} {S:Nat→Option Spec} {ops:List Oper} {o:Oper} {s:St} {cs:List Prop} {tr:Tr} {dl:Dl} {p:List (Nat × Bool)} {cs0:List Prop} {av:AV} (h:StepD tt S ops o s cs dl tr p cs0 av):StepS tt S ops o s cs (s.app dl) tr:=by
 obtain ⟨slot,gts,new,upd'⟩:=dl
 obtain ⟨rd,wr⟩:=tr
 obtain ⟨⟨upd,hev,htr,hu⟩,⟨p0,hp,hops,hpp⟩,hfr,hslot,hgts,hdst,hcs⟩:=h
 dsimp only at *
 subst htr hslot hgts hcs
 have hnn:litNo tt.2.2 s p=litNo tt.2.2 s p0:=by
  rcases hpp with h|⟨h,h1,_⟩
  ·rw [h]
  ·rw [h,litNo_all h1];rfl
 rw [hnn] at hev
 refine ⟨p0,cs0,av,upd,new,rd,hp,hops,hev,hfr,rfl,?_⟩
 rcases hu with ⟨rfl,rfl⟩|⟨he,rfl,hin,hn⟩
 ·have hpl:p0=[]∨(litAll s p0=true∧o.dst≠none):=by
   rcases hpp with h|⟨_,h⟩
   ·exact .inl h.symm
   ·exact .inr h
  refine .inl ⟨hpl,mapUnder_nil,?_⟩
  cases hd:o.dst with
  | none=>exact .inl ⟨rfl,rfl⟩
  | some d=>exact .inr ⟨d,rfl,(hdst d hd).1,(hdst d hd).2,rfl⟩
 ·obtain rfl:p=p0:=by
   rcases hpp with h|⟨h,_⟩
   ·exact h
   ·exact absurd h he
  cases hd:o.dst with
  | none=>exact absurd hd hn
  | some d=>exact .inr ⟨he,hin,d,rfl,(hdst d hd).1,(hdst d hd).2,rfl,by rw [gtOf_app (gt:=s.gt)];rfl⟩
theorem ent_congr {s t:St} {u:Nat} (h:look s.slots u=look t.slots u):s.ent u=t.ent u:=by simp only [St.ent,h]
theorem run_congr {α:Type} {row row':Nat→Option AObj}:∀ {q:RQ α} {l:List Nat} {x:α} {rd:List Nat},q.run row l=some (x,rd)→(∀ r,mem rd r=true→row' r=row r)→q.run row' l=some (x,rd)∧∀ r,mem l r=true→mem rd r=true
 | .ret a,l,x,rd,h,_=>by simp only [RQ.run] at h ⊢;cases h;exact ⟨rfl,fun _ h=>h⟩
 | .fail,l,x,rd,h,_=>by simp [RQ.run] at h
 | .ask r k,l,x,rd,h,hr=>by
   simp only [RQ.run] at h ⊢
   split at h
   ·rename_i o ho
    obtain ⟨h1,h2⟩:=run_congr h hr
    rw [hr r (h2 r (by simp [mem_cons])),ho]
    exact ⟨h1,fun i hi=>h2 i (by simp [mem_cons,hi])⟩
   ·cases h
theorem evOp_congr {tt:TT} {S:Nat→Option Spec} {get get':Operand→AV} {d:Nat} {op:Op} (h:∀ x∈op.operands,get x=get' x):evOp tt S get d op=evOp tt S get' d op:=by
 have pairs:∀ ps:Array (Nat × Operand),(∀ x∈ps.map (·.2),get x=get' x)→(ps.toList.map fun p=>(p.1,get p.2))=(ps.toList.map fun p=>(p.1,get' p.2)):=fun ps hp =>
  List.map_congr_left fun p hm=>by rw [hp p.2 (Array.mem_map.2 ⟨p,Array.mem_toList_iff.1 hm,rfl⟩)]
 cases op <;> simp only [Op.operands] at h <;> simp only [evOp]
 case build t ps=>rw [pairs ps fun x hx=>h x (by simpa using hx)]
 case buildSlice t n ps=>rw [pairs ps fun x hx=>h x (by simpa using hx)]
 case makeFunc fn first captured =>
  cases fn <;> try rfl
  dsimp only
  rw [List.map_congr_left (l:=first.toList) (f:=get) (g:=get') fun x hx=>h x (by simp [Array.mem_toList_iff.1 hx]),List.map_congr_left (l:=captured.toList) (f:=get) (g:=get') fun x hx=>h x (by simp [Array.mem_toList_iff.1 hx])]
 case call c =>
  have ha:∀ x∈c.args.toList,get x=get' x:=fun x hx=>h x (by unfold Call.operands;simp [Array.mem_toList_iff.1 hx])
  cases hc:c.callee with
  | invoke r m=>rfl
  | value f =>
    dsimp only
    rw [h f (by simp [Call.operands,hc]),List.map_congr_left (f:=get) (g:=get') ha]
  | builtin b =>
    cases b
    case len =>
     dsimp only
     split
     ·rename_i x t h1 h2;rw [ha x (by rw [h1];simp)]
     ·rfl
    case clear =>
     dsimp only
     split
     ·rename_i x t h1 h2;rw [ha x (by rw [h1];simp)]
     ·rfl
    case copy =>
     dsimp only
     split
     ·rename_i s x t u h1 h2;rw [ha s (by rw [h1];simp),ha x (by rw [h1];simp)]
     ·rfl
    case append =>
     dsimp only
     split
     ·rename_i s x t u h1 h2;rw [ha s (by rw [h1];simp),ha x (by rw [h1];simp)]
     ·rfl
    case cap =>
     dsimp only
     split
     ·rename_i x t h1 h2;rw [ha x (by rw [h1];simp)]
     ·rfl
    case max =>
     dsimp only
     split
     ·rename_i x y h1;rw [ha x (by rw [h1];simp),ha y (by rw [h1];simp)]
     ·rfl
    case min =>
     dsimp only
     split
     ·rename_i x y h1;rw [ha x (by rw [h1];simp),ha y (by rw [h1];simp)]
     ·rfl
    all_goals rfl
 case slice t x lo hi mx =>
  simp only [Op.operands,Array.mem_append,Option.mem_toArray] at h
  have e1:lo.map get=lo.map get':=by
   cases lo with
   | none=>rfl
   | some y=>simp only [Option.map_some];rw [h y (by simp)]
  have e2:hi.map get=hi.map get':=by
   cases hi with
   | none=>rfl
   | some y=>simp only [Option.map_some];rw [h y (by simp)]
  have e3:get x=get' x:=h x (by simp)
  have e4:mx.map get=mx.map get':=by
   cases mx with
   | none=>rfl
   | some y=>simp only [Option.map_some];rw [h y (by simp)]
  rw [e1,e2,e3,e4]
 all_goals (first|rfl|(simp_all;done))
theorem pathOf_congr {s t:St} {ops:Array Oper} {o:Oper} (hl:∀ u∈o.looksAt ops,look s.slots u=look t.slots u):∀ x∈o.op.operands,s.pathOf x=t.pathOf x∧s.get x=t.get x:=by
 intro x hx
 cases x with
 | tmp u =>
   have:look s.slots u=look t.slots u:=hl u (List.mem_append_left _ (List.mem_filterMap.2 ⟨.tmp u,by simpa using hx,rfl⟩))
   constructor <;> simp only [St.pathOf,St.get,ent_congr this]
 | _=>exact ⟨rfl,rfl⟩
theorem allTail_congr {s t:St} {p:List (Nat × Bool)}:∀ {l:List Operand},(∀ x∈l,s.pathOf x=t.pathOf x)→allTail s p l=allTail t p l
 | [],_=>rfl
 | x::l,h=>by simp only [allTail,h x (by simp),allTail_congr fun y hy=>h y (List.mem_cons_of_mem _ hy)]
theorem opsOk_congr {s t:St} {p:List (Nat × Bool)} {op:Op} (h:∀ x∈op.operands,s.pathOf x=t.pathOf x):opsOk s p op=opsOk t p op:=by
 unfold opsOk
 split
 ·rw [h _ (by simp [Op.operands]),h _ (by simp [Op.operands]),h _ (by simp [Op.operands])]
 ·rfl
 ·exact allTail_congr fun x hx=>h x (Array.mem_toList_iff.1 (opList_sub hx))
theorem underP_congr {s t:St}:∀ {p:List (Nat × Bool)} {c:Prop},(∀ u x,(u,x)∈p→look s.slots u=look t.slots u)→underP s p c=underP t p c
 | [],_,_=>rfl
 | (u,x)::r,c,h=>by
   simp only [underP,ent_congr (h u x (by simp))]
   exact underP_congr fun v y hv=>h v y (List.mem_cons_of_mem _ hv)
theorem mapUnder_congr {s t:St} {p:List (Nat × Bool)} (h:∀ u x,(u,x)∈p→look s.slots u=look t.slots u):∀ {cs:List Prop},mapUnder s p cs=mapUnder t p cs
 | []=>rfl
 | c::cs=>by simp only [mapUnder,underP_congr h,mapUnder_congr h]
def GtsOk (s:St):Prop:=∀ t e,look s.slots t=some e→∀ u x,(u,x)∈e.path→mem s.gt u=true
theorem path_mem {s:St} {ops:List Oper} {o:Oper} {p:List (Nat × Bool)} (hg:GtsOk s) (hp:s.pathAt ops o.guard=some p):∀ u x,(u,x)∈p→u∈o.looksAt ops.toArray∧mem (gtOf p []) u=true∨mem s.gt u=true:=by
 intro u x hx
 unfold St.pathAt at hp
 split at hp
 ·cases hp;simp at hx
 ·rename_i j want hgd
  split at hp <;> try (cases hp;done)
  rename_i oj hj
  split at hp <;> try (cases hp;done)
  rename_i t ht
  split at hp <;> try (cases hp;done)
  rename_i b hb
  cases hp
  rcases List.mem_cons.1 hx with hx|hx
  ·cases hx
   rw [nth_spec] at hj
   exact .inl ⟨by simp [Oper.looksAt,hgd,hj,ht],by simp [gtOf,mem_cons]⟩
  ·refine .inr ?_
   unfold St.ent at hx hb
   split at hb
   ·rename_i e he
    simp only [he] at hx
    exact hg t e he u x hx
   ·cases hb
theorem gtOf_looks {s:St} {ops:List Oper} {o:Oper} {p:List (Nat × Bool)} (hp:s.pathAt ops o.guard=some p) {u:Nat} (hu:mem (gtOf p []) u=true):u∈o.looksAt ops.toArray:=by
 unfold St.pathAt at hp
 split at hp
 ·cases hp;simp [gtOf,mem] at hu
 ·rename_i j want hgd
  split at hp <;> try (cases hp;done)
  rename_i oj hj
  split at hp <;> try (cases hp;done)
  rename_i t ht
  split at hp <;> try (cases hp;done)
  rename_i b hb
  cases hp
  simp [gtOf,mem_cons,mem] at hu
  subst hu
  rw [nth_spec] at hj
  simp [Oper.looksAt,hgd,hj,ht]
theorem pathAt_congr {s t:St} {ops:List Oper} {o:Oper} (hl:∀ u∈o.looksAt ops.toArray,look s.slots u=look t.slots u):s.pathAt ops o.guard=t.pathAt ops o.guard:=by
 unfold St.pathAt
 split
 ·rfl
 ·rename_i j want hgd
  split
  ·rename_i oj hj
   split
   ·rename_i u hu
    rw [nth_spec] at hj
    rw [ent_congr (hl u (by simp [Oper.looksAt,hgd,hj,hu]))]
   ·rfl
  ·rfl
theorem litAll_congr {s t:St}:∀ {p:List (Nat × Bool)},(∀ u x,(u,x)∈p→look s.slots u=look t.slots u)→litAll s p=litAll t p
 | [],_=>rfl
 | (u,x)::r,h=>by
   simp only [litAll,ent_congr (h u x (by simp)),litAll_congr fun v y hv=>h v y (List.mem_cons_of_mem _ hv)]
theorem litNo_congr {hs:List (Nat × Bool)} {s t:St}:∀ {p:List (Nat × Bool)},(∀ u x,(u,x)∈p→look s.slots u=look t.slots u)→litNo hs s p=litNo hs t p
 | [],_=>rfl
 | (u,x)::r,h=>by
   simp only [litNo,ent_congr (h u x (by simp)),litNo_congr fun v y hv=>h v y (List.mem_cons_of_mem _ hv)]
theorem StepD.path {tt:TT} {S:Nat→Option Spec} {ops:List Oper} {o:Oper} {s:St} {cs:List Prop} {tr:Tr} {dl:Dl} {p:List (Nat × Bool)} {cs0:List Prop} {av:AV} (h:StepD tt S ops o s cs dl tr p cs0 av) (hg:GtsOk s) :
 (∀ u x,(u,x)∈p→u∈o.looksAt ops.toArray∧mem (gtOf p []) u=true∨mem s.gt u=true)∧∀ u,mem (gtOf p []) u=true→u∈o.looksAt ops.toArray:=by
 obtain ⟨p0,hp0,_,e|⟨e,_⟩⟩:=h.hp
 ·subst e;exact ⟨path_mem hg hp0,fun u hu=>gtOf_looks hp0 hu⟩
 ·subst e;exact ⟨fun u x hx=>by simp at hx,fun u hu=>by simp [gtOf,mem] at hu⟩
theorem allIn_of {ks ks':List Nat}:∀ {l:List Nat},(∀ r,mem l r=true→mem ks r=true→mem ks' r=true)→allIn ks l=true→allIn ks' l=true
 | [],_,_=>rfl
 | k::l,h,ha=>by
   simp only [allIn] at ha ⊢
   split at ha <;> try (cases ha;done)
   rename_i h1
   rw [h k (by simp [mem_cons]) h1]
   exact allIn_of (fun r hr=>h r (by simp [mem_cons,hr])) ha
theorem look_keysOf {l:List (Nat × AObj)} {r:Nat}:mem (keysOf l) r=true↔look l r≠none:=by
 induction l with
 | nil=>simp [keysOf,mem,look]
 | cons x l ih =>
   obtain ⟨k,o⟩:=x
   simp only [keysOf,mem_cons,look_cons,Bool.or_eq_true,decide_eq_true_eq]
   by_cases h:k=r
   ·simp [h]
   ·simp [h,ih]
theorem StepD.wr {tt:TT} {S:Nat→Option Spec} {ops:List Oper} {o:Oper} {s:St} {cs:List Prop} {tr:Tr} {dl:Dl} {p:List (Nat × Bool)} {cs0:List Prop} {av:AV} (h:StepD tt S ops o s cs dl tr p cs0 av) :
 (∀ r,look dl.upd r≠none→mem tr.wr r=true)∧∀ r,mem dl.new r=true→mem tr.wr r=true:=by
 obtain ⟨upd,_,htr,hu⟩:=h.uh
 refine ⟨fun r hr=>?_,fun r hr=>by rw [htr,mem_appK,hr];rfl⟩
 have:look upd r≠none:=by
  rcases hu with ⟨_,e⟩|⟨_,e,_⟩
  ·rwa [e] at hr
  ·rw [e,look_deads] at hr
   intro h0;rw [h0] at hr;simp at hr
 rw [htr,mem_appK,look_keysOf.2 this,Bool.or_true]
theorem StepD.frame {tt:TT} {S:Nat→Option Spec} {ops:List Oper} {o:Oper} {s t:St} {cs:List Prop} {tr:Tr} {dl:Dl} {p:List (Nat × Bool)} {cs0:List Prop} {av:AV} (h:StepD tt S ops o s cs dl tr p cs0 av) (hg:GtsOk s) (hn:t.n=s.n)
 (hl:∀ u∈o.looksAt ops.toArray,look s.slots u=look t.slots u) (hgl:∀ u,mem s.gt u=true→look s.slots u=look t.slots u) (hr:∀ r,mem tr.rd r=true→look t.rows r=look s.rows r)
 (hd:∀ d,o.dst=some d→mem t.gt d=false) (hfr:freshAll t.ks dl.new=true)
 (hks:∀ r,mem tr.wr r=true→mem (appK dl.new s.ks) r=true→mem (appK dl.new t.ks) r=true):StepD tt S ops o t cs dl tr p cs0 av:=by
 obtain ⟨p0,hp0,hops,hpp⟩:=h.hp
 have hpl0:∀ u x,(u,x)∈p0→look s.slots u=look t.slots u:=fun u x hx=>by
  rcases path_mem hg hp0 u x hx with ⟨h1,_⟩|h1
  ·exact hl u h1
  ·exact hgl u h1
 have hpl:∀ u x,(u,x)∈p→look s.slots u=look t.slots u:=fun u x hx=>by
  rcases hpp with e|⟨e,_⟩
  ·rw [e] at hx;exact hpl0 u x hx
  ·rw [e] at hx;simp at hx
 have hpo:=pathOf_congr hl
 have hget:evAt tt S (litNo tt.2.2 t p) t.get o.op o.dst=evAt tt S (litNo tt.2.2 s p) s.get o.op o.dst:=by
  rw [litNo_congr (s:=t) (t:=s) fun u x hx=>(hpl u x hx).symm]
  unfold evAt
  split
  ·rfl
  ·split
   ·rw [evOp_congr fun x hx=>((hpo x hx).2).symm]
   ·exact evOp_congr fun x hx=>((hpo x hx).2).symm
 obtain ⟨upd,hev,htr,hu⟩:=h.uh
 refine ⟨⟨upd,by rw [hget];exact (run_congr hev hr).1,htr,hu.imp id fun ⟨h1,h2,h3,h4⟩=>⟨h1,h2,allIn_of (fun r hr=>hks r (by rw [htr,mem_appK,hr];simp)) h3,h4⟩⟩,⟨p0,by rw [← pathAt_congr hl];exact hp0,by rw [← opsOk_congr fun x hx=>(hpo x hx).1];exact hops,hpp.imp id fun ⟨h1,h2,h3⟩=>⟨h1,by rw [← litAll_congr hpl0];exact h2,h3⟩⟩,hfr,h.hslot,h.hgts,fun d hd'=>⟨?_,by rw [hn];exact (h.hdst d hd').2⟩,by rw [← mapUnder_congr hpl];exact h.hcs⟩
 ·have:=(h.hdst d hd').1
  rw [gtOf_app,mem_appK] at this ⊢
  simp only [Bool.or_eq_false_iff] at this ⊢
  exact ⟨this.1,hd d hd'⟩
theorem GtsOk.app {tt:TT} {S:Nat→Option Spec} {ops:List Oper} {o:Oper} {s:St} {cs:List Prop} {tr:Tr} {dl:Dl} {p:List (Nat × Bool)} {cs0:List Prop} {av:AV} (hg:GtsOk s) (h:StepD tt S ops o s cs dl tr p cs0 av):GtsOk (s.app dl):=by
 have hold:∀ u,mem s.gt u=true→mem (s.app dl).gt u=true:=fun u hu=>by
  show mem (appK dl.gts s.gt) u=true
  rw [mem_appK,hu];simp
 intro t e he u x hx
 change look (optCons dl.slot s.slots) t=some e at he
 rw [h.hslot] at he
 cases hd:o.dst with
 | none=>rw [hd] at he;exact hold u (hg t e he u x hx)
 | some d =>
   rw [hd] at he
   simp only [Option.map_some,optCons,look_cons] at he
   split at he
   ·cases he
    rcases (h.path hg).1 u x hx with ⟨_,h1⟩|h1
    ·show mem (appK dl.gts s.gt) u=true
     rw [h.hgts,mem_appK,h1];rfl
    ·exact hold u h1
   ·exact hold u (hg t e he u x hx)
theorem look_app_ne {s:St} {dl:Dl} {o:Oper} {p:List (Nat × Bool)} {av:AV} (hs:dl.slot=o.dst.map fun d=>(d,⟨p,av⟩)) {u:Nat} (hu:∀ d,o.dst=some d→d≠u):look (s.app dl).slots u=look s.slots u:=by
 show look (optCons dl.slot s.slots) u=_
 rw [hs]
 cases hd:o.dst with
 | none=>rfl
 | some d=>simp [optCons,look_cons,hu d hd]
theorem disj_spec {b:List Nat}:∀ {a:List Nat},disj a b=true→∀ r,mem a r=true→mem b r=false
 | [],_,r,h=>by simp [mem] at h
 | x::a,h,r,hr=>by
   simp only [disj] at h
   split at h
   ·cases h
   ·rename_i hx
    rw [mem_cons] at hr
    by_cases he:x=r
    ·subst he;exact hx
    ·simp [he] at hr;exact disj_spec h r hr
theorem freshAll_of {ks ks':List Nat}:∀ {new:List Nat},freshAll ks new=true→(∀ r,mem new r=true→mem ks' r=false)→freshAll ks' new=true
 | [],_,_=>rfl
 | k::r,h,hk=>by
   simp only [freshAll] at h ⊢
   split at h <;> try (cases h;done)
   rename_i h1 h2 h3
   rw [hk k (by simp [mem_cons]),h2,h3]
   exact freshAll_of h fun i hi=>hk i (by simp [mem_cons,hi])
theorem StepD.swap {tt:TT} {S:Nat→Option Spec} {ops:List Oper} {x y:Oper} {s:St} {cx cy:List Prop} {tx ty:Tr} {dx dy:Dl} {px py:List (Nat × Bool)} {cx0 cy0:List Prop} {ax ay:AV}
 (hx:StepD tt S ops x s cx dx tx px cx0 ax) (hy:StepD tt S ops y (s.app dx) cy dy ty py cy0 ay) (hg:GtsOk s) (hap:Oper.apart ops.toArray x y=true) (hin:indep tx ty=true) :
 StepD tt S ops y s cy dy ty py cy0 ay∧StepD tt S ops x (s.app dy) cx dx tx px cx0 ax∧Same ((s.app dx).app dy) ((s.app dy).app dx)∧GtsOk (s.app dy):=by
 obtain ⟨h1,h2,h3⟩:=Oper.apart_spec hap
 unfold indep at hin
 split at hin <;> try (cases hin;done)
 rename_i i1 i2 i3
 have hg1:=hg.app hx
 have hxs:∀ u,(∀ d,x.dst=some d→d≠u)→look (s.app dx).slots u=look s.slots u:=fun u hu=>look_app_ne hx.hslot hu
 have hys:∀ {z:St} (u:Nat),(∀ d,y.dst=some d→d≠u)→look (z.app dy).slots u=look z.slots u:=fun u hu=>look_app_ne hy.hslot hu
 have hgy:∀ u,mem (s.app dx).gt u=(mem dx.gts u||mem s.gt u):=fun u=>mem_appK
 have hyd:∀ d,y.dst=some d→mem dy.gts d=false∧mem dx.gts d=false∧mem s.gt d=false:=fun d hd=>by
  have:=(hy.hdst d hd).1
  rw [gtOf_app,mem_appK,hgy] at this
  simp only [Bool.or_eq_false_iff] at this
  rw [hy.hgts]
  exact this
 have hxd:∀ d,x.dst=some d→mem dx.gts d=false∧mem s.gt d=false:=fun d hd=>by
  have:=(hx.hdst d hd).1
  rw [gtOf_app,mem_appK] at this
  simp only [Bool.or_eq_false_iff] at this
  rw [hx.hgts]
  exact this
 have hxrow:∀ r,mem ty.rd r=true→look s.rows r=look (s.app dx).rows r:=fun r hr=>by
  show _=look (addRows dx.upd s.rows) r
  rw [look_addRows]
  cases hl:look dx.upd r with
  | none=>rfl
  | some o =>
    have:mem tx.wr r=true:=hx.wr.1 r (by rw [hl];simp)
    rw [disj_spec i1 r this] at hr;cases hr
 have hyrow:∀ r,mem tx.rd r=true→look (s.app dy).rows r=look s.rows r:=fun r hr=>by
  show look (addRows dy.upd s.rows) r=_
  rw [look_addRows]
  cases hl:look dy.upd r with
  | none=>rfl
  | some o =>
    have:mem ty.wr r=true:=hy.wr.1 r (by rw [hl];simp)
    rw [disj_spec i3 r hr] at this;cases this
 have hfy:=freshAll_spec hy.hfr
 have hy':StepD tt S ops y s cy dy ty py cy0 ay:=by
  refine hy.frame hg1 rfl (fun u hu=>hxs u fun d hd e=>h1 d hd (e ▸ hu)) (fun u hu=>hxs u fun d hd e=>?_) hxrow (fun d hd=>(hyd d hd).2.2) (freshAll_of hy.hfr fun r hr=>?_) (fun r hr hm=>?_)
  ·subst e
   rw [hgy] at hu
   rw [(hxd d hd).1,(hxd d hd).2] at hu
   cases hu
  ·have:=(hfy r hr).1
   change mem (appK dx.new s.ks) r=false at this
   rw [mem_appK] at this
   simp only [Bool.or_eq_false_iff] at this
   exact this.2
  ·change mem (appK dy.new (appK dx.new s.ks)) r=true at hm
   simp only [mem_appK] at hm ⊢
   cases hn:mem dx.new r with
   | false=>rw [hn] at hm;simpa using hm
   | true=>rw [disj_spec i2 r (hx.wr.2 r hn)] at hr;cases hr
 have hx':StepD tt S ops x (s.app dy) cx dx tx px cx0 ax:=by
  refine hx.frame hg rfl (fun u hu=>(hys u fun d hd e=>h3 d hd (e ▸ hu)).symm) (fun u hu=>(hys u fun d hd e=>?_).symm) hyrow (fun d hd=>?_) (freshAll_of hx.hfr fun r hr=>?_) (fun r hr hm=>?_)
  ·subst e
   rw [(hyd d hd).2.2] at hu;cases hu
  ·show mem (appK dy.gts s.gt) d=false
   rw [mem_appK,(hxd d hd).2,Bool.or_false]
   cases hm:mem dy.gts d with
   | false=>rfl
   | true =>
     rw [hy.hgts] at hm
     exact absurd ((hy.path hg1).2 d hm) (h1 d hd)
  ·show mem (appK dy.new s.ks) r=false
   rw [mem_appK,(freshAll_spec hx.hfr r hr).1,Bool.or_false]
   cases hm:mem dy.new r with
   | false=>rfl
   | true =>
     have:=(hfy r hm).1
     change mem (appK dx.new s.ks) r=false at this
     rw [mem_appK,hr] at this
     cases this
  ·show mem (appK dx.new (appK dy.new s.ks)) r=true
   simp only [mem_appK] at hm ⊢
   cases h5:mem dx.new r <;> cases h6:mem s.ks r <;> simp_all
 refine ⟨hy',hx',⟨rfl,?_,?_,?_,?_⟩,hg.app hy'⟩
 ·funext u
  show look (optCons dy.slot (optCons dx.slot s.slots)) u=look (optCons dx.slot (optCons dy.slot s.slots)) u
  rw [hx.hslot,hy.hslot]
  cases hdx:x.dst with
  | none=>rfl
  | some d =>
    cases hdy:y.dst with
    | none=>rfl
    | some e =>
      have hne:d≠e:=fun he=>h2 d hdx (he ▸ hdy)
      simp only [Option.map_some,optCons,look_cons]
      by_cases h4:e=u
      ·subst h4;simp [hne]
      ·simp [h4]
 ·funext u
  show mem (appK dy.gts (appK dx.gts s.gt)) u=mem (appK dx.gts (appK dy.gts s.gt)) u
  simp only [mem_appK]
  cases mem dy.gts u <;> cases mem dx.gts u <;> rfl
 ·funext u
  show mem (appK dy.new (appK dx.new s.ks)) u=mem (appK dx.new (appK dy.new s.ks)) u
  simp only [mem_appK]
  cases mem dy.new u <;> cases mem dx.new u <;> rfl
 ·funext u
  show look (addRows dy.upd (addRows dx.upd s.rows)) u=look (addRows dx.upd (addRows dy.upd s.rows)) u
  simp only [look_addRows]
  cases hlx:look dx.upd u with
  | none=>cases look dy.upd u <;> rfl
  | some o =>
    cases hly:look dy.upd u with
    | none=>rfl
    | some o' =>
      have m1:mem tx.wr u=true:=hx.wr.1 u (by rw [hlx];simp)
      have m2:mem ty.wr u=true:=hy.wr.1 u (by rw [hly];simp)
      rw [disj_spec i2 u m1] at m2;cases m2
theorem StepD.same {tt:TT} {S:Nat→Option Spec} {ops:List Oper} {o:Oper} {s t:St} {cs:List Prop} {tr:Tr} {dl:Dl} {p:List (Nat × Bool)} {cs0:List Prop} {av:AV} (h:StepD tt S ops o s cs dl tr p cs0 av) (hs:Same s t) (hg:GtsOk s) :
 StepD tt S ops o t cs dl tr p cs0 av∧Same (s.app dl) (t.app dl):=by
 refine ⟨h.frame hg hs.n.symm (fun u _=>by rw [hs.slots]) (fun u _=>by rw [hs.slots]) (fun r _=>by rw [hs.rows]) (fun d hd=>?_) (freshAll_of h.hfr fun r hr=>by rw [← hs.ks];exact (freshAll_spec h.hfr r hr).1) (fun r _ hm=>by rw [mem_appK] at hm ⊢;rw [← hs.ks];exact hm),hs.n,?_,?_,?_,?_⟩
 ·have:=(h.hdst d hd).1
  rw [gtOf_app,mem_appK] at this
  simp only [Bool.or_eq_false_iff] at this
  rw [← hs.gt];exact this.2
 ·funext u
  show look (optCons dl.slot s.slots) u=look (optCons dl.slot t.slots) u
  cases dl.slot with
  | none=>rw [show optCons none s.slots=s.slots from rfl,hs.slots];rfl
  | some x=>obtain ⟨i,e⟩:=x;simp only [optCons,look_cons,hs.slots]
 ·funext u
  show mem (appK dl.gts s.gt) u=mem (appK dl.gts t.gt) u
  rw [mem_appK,mem_appK,hs.gt]
 ·funext u
  show mem (appK dl.new s.ks) u=mem (appK dl.new t.ks) u
  rw [mem_appK,mem_appK,hs.ks]
 ·funext u
  show look (addRows dl.upd s.rows) u=look (addRows dl.upd t.rows) u
  rw [look_addRows,look_addRows,hs.rows]
inductive Lex (tt:TT) (S:Nat→Option Spec) (ops:List Oper):List Oper→St→List Prop→St→List Tr→Prop where
 | nil {st:St}:Lex tt S ops [] st [] st []
 | cons {o:Oper} {l:List Oper} {st s1 s2:St} {c cs:List Prop} {t:Tr} {ts:List Tr}:StepS tt S ops o st c s1 t→Lex tt S ops l s1 cs s2 ts→Lex tt S ops (o::l) st (c++cs) s2 (t::ts)
def anyE (tt:TT) (S:Nat→Option Spec) (ops:List Oper) (tr:Nat→Tr) (G:St→Prop):Nat→Array Bool→St→Prop
 | 0,listed,s=>Region.ready .any ops.toArray listed=[]∧G s
 | n+1,listed,s=>(Region.ready .any ops.toArray listed=[]→G s) ∧
   ∀ i∈Region.ready .any ops.toArray listed,∃ o cs dl p cs0 av,ops[i]?=some o∧StepD tt S ops o s cs dl (tr i) p cs0 av∧(∀ q∈cs,q)∧anyE tt S ops tr G n (listed.setIfInBounds i true) (s.app dl)
theorem Lex.uncons {tt:TT} {S:Nat→Option Spec} {ops:List Oper} {o:Oper} {l:List Oper} {st s2:St} {css:List Prop} {tss:List Tr} (h:Lex tt S ops (o::l) st css s2 tss) :
 ∃ t ts c cs s1,tss=t::ts∧css=c++cs∧StepS tt S ops o st c s1 t∧Lex tt S ops l s1 cs s2 ts:=by
 cases h with
 | cons h1 h2=>exact ⟨_,_,_,_,_,rfl,rfl,h1,h2⟩
section
variable {tt:TT} {S:Nat→Option Spec} {ops:List Oper} {tr:Nat→Tr} {G:St→Prop}
theorem anyE_same (hG:∀ s t,Same s t→G s→G t):∀ {n:Nat} {listed:Array Bool} {s t:St},Same s t→GtsOk s→anyE tt S ops tr G n listed s→anyE tt S ops tr G n listed t
 | 0,_,_,_,hs,_,h=>⟨h.1,hG _ _ hs h.2⟩
 | n+1,listed,s,t,hs,hg,h=>⟨fun h0=>hG _ _ hs (h.1 h0),fun i hi=>by
  obtain ⟨o,cs,dl,p,cs0,av,h1,h2,h3,h4⟩:=h.2 i hi
  obtain ⟨h5,h6⟩:=h2.same hs hg
  exact ⟨o,cs,dl,p,cs0,av,h1,h5,h3,anyE_same hG h6 (hg.app h2) h4⟩⟩
theorem anyE_first (hG:∀ s t,Same s t→G s→G t) {i:Nat} (T:Nat→Prop) (hT:∀ j,T j→∀ y,ops[j]?=some y→∃ e∈y.after,Region.binds .any e=true∧(e.on=i∨T e.on)) {x:Oper} (hi:ops[i]?=some x) {cx:List Prop} {dx:Dl} {px:List (Nat × Bool)} {cx0:List Prop} {ax:AV} (hcx:∀ q∈cx,q) :
 ∀ (n:Nat) (listed:Array Bool) (s:St),GtsOk s→(∀ j,T j→listed.getD j true=false) →
  (∀ j y,ops[j]?=some y→j≠i→listed.getD j true=false→¬ T j→Oper.apart ops.toArray x y=true∧indep (tr i) (tr j)=true) →
  i∈Region.ready .any ops.toArray listed→StepD tt S ops x s cx dx (tr i) px cx0 ax →
  anyE tt S ops tr G n (listed.setIfInBounds i true) (s.app dx)→anyE tt S ops tr G (n+1) listed s:=by
 intro n
 induction n with
 | zero =>
   intro listed s hg _ _ hr hy H
   refine ⟨fun h=>(by rw [h] at hr;cases hr),fun j hj=>?_⟩
   by_cases hji:j=i
   ·subst hji;exact ⟨x,cx,dx,px,cx0,ax,hi,hy,hcx,H⟩
   ·have:=ready_mono hj hji
    rw [H.1] at this
    cases this
 | succ n ih =>
   intro listed s hg hL hfree hr hx H
   refine ⟨fun h=>(by rw [h] at hr;cases hr),fun j hj=>?_⟩
   by_cases hji:j=i
   ·subst hji;exact ⟨x,cx,dx,px,cx0,ax,hi,hx,hcx,H⟩
   ·obtain ⟨y,cy,dy,py,cy0,ay,hoj,hy,hcy,hrest⟩:=H.2 j (ready_mono hj hji)
    obtain ⟨hjun,oj,hoj',hall⟩:=mem_ready.1 hj
    rw [List.getElem?_toArray,hoj] at hoj'
    cases hoj'
    have hnot:¬ T j:=fun ht=>by
     obtain ⟨e,he,hb,heq⟩:=hT j ht y hoj
     have h1:=hall e he hb
     rcases heq with heq|heq
     case inr =>
      have h0:=hL _ heq
      rcases Nat.lt_or_ge e.on listed.size with h'|h'
      ·simp [h'] at h0 h1;rw [h0] at h1;cases h1
      ·simp [Array.getElem?_eq_none h'] at h1
     have h0:=(mem_ready.1 hr).1
     rw [heq] at h1
     rcases Nat.lt_or_ge i listed.size with h'|h'
     ·simp [h'] at h0 h1;rw [h0] at h1;cases h1
     ·simp [Array.getElem?_eq_none h'] at h1
    obtain ⟨hap,hin⟩:=hfree j y hoj hji hjun hnot
    obtain ⟨hy',hx',hsame,hg'⟩:=hx.swap hy hg hap hin
    have hfree':∀ k z,ops[k]?=some z→k≠i→(listed.setIfInBounds j true).getD k true=false →
     ¬ T k→Oper.apart ops.toArray x z=true∧indep (tr i) (tr k)=true:=fun k z hk hki hun hno=>by
     refine hfree k z hk hki ?_ hno
     by_cases hjk:j=k
     ·subst hjk;exact hjun
     ·rw [getD_set_ne true hjk] at hun;exact hun
    have hL':∀ k,T k→(listed.setIfInBounds j true).getD k true=false:=fun k hk=>by
     have:j≠k:=fun e=>hnot (e ▸ hk)
     rw [getD_set_ne true this];exact hL k hk
    refine ⟨y,cy,dy,py,cy0,ay,hoj,hy',hcy,ih _ _ hg' hL' hfree' (ready_mono hr (Ne.symm hji)) hx' ?_⟩
    rw [Array.setIfInBounds_comm _ _ hji]
    exact anyE_same hG hsame ((hg.app hx).app hy) hrest
theorem readyAll_spec:∀ {l:List Oper} {k:Nat},readyAll k l=true→∀ j o,l[j]?=some o→∀ e∈o.after,Region.binds .any e=true→e.on < k+j
 | [],_,_,j,o,h=>by simp at h
 | x::l,k,h,j,o,hj=>by
   simp only [readyAll] at h
   split at h <;> try (cases h;done)
   rename_i h1
   cases j with
   | zero =>
     simp at hj;subst hj
     intro e he hb
     have:=List.all_eq_true.1 h1 e (Array.mem_toList_iff.2 he)
     simpa [hb] using this
   | succ j =>
     intro e he hb
     have:=readyAll_spec h j o (by simpa using hj) e he hb
     omega
theorem freeFrom_spec {x:Oper} {tx:Tr}:∀ {l:List Oper} {ts:List Tr} {wl:List Nat} {j0:Nat},freeFrom ops x tx wl j0 l ts=true →
 ∃ T:Nat→Prop,(∀ j,T j→j0≤j∧∃ y,l[j - j0]?=some y∧∃ e∈y.after,Region.binds .any e=true∧(mem wl e.on=true∨T e.on)) ∧
  ∀ (j:Nat) (y:Oper) (t:Tr),l[j]?=some y→ts[j]?=some t→T (j0+j)∨(Oper.apart ops.toArray x y=true∧indep tx t=true)
 | [],_,_,_,h=>⟨fun _=>False,fun _ h=>h.elim,fun j y t h _=>by simp at h⟩
 | _::_,[],_,_,h=>by simp [freeFrom] at h
 | z::l,u::ts,wl,j0,h=>by
   simp only [freeFrom] at h
   split at h
   ·rename_i hw
    obtain ⟨T,h1,h2⟩:=freeFrom_spec h
    unfold waitsAny at hw
    rw [List.any_eq_true] at hw
    obtain ⟨e,he,hb⟩:=hw
    simp only [Bool.and_eq_true] at hb
    refine ⟨fun j=>j=j0∨T j,fun j hj=>?_,fun j y t hj ht=>?_⟩
    ·rcases hj with rfl|hj
     ·exact ⟨Nat.le_refl _,z,by simp,e,Array.mem_toList_iff.1 he,hb.1,.inl hb.2⟩
     ·obtain ⟨h3,y,h4,e2,h5,h6,h7⟩:=h1 j hj
      refine ⟨by omega,y,?_,e2,h5,h6,?_⟩
      ·rw [show j - j0=(j - (j0+1))+1 by omega];simpa using h4
      ·rcases h7 with h7|h7
       ·rw [mem_cons] at h7
        simp only [Bool.or_eq_true,decide_eq_true_eq] at h7
        rcases h7 with h7|h7
        ·exact .inr (.inl h7.symm)
        ·exact .inl h7
       ·exact .inr (.inr h7)
    ·cases j with
     | zero=>exact .inl (.inl rfl)
     | succ j =>
       rcases h2 j y t (by simpa using hj) (by simpa using ht) with h|h
       ·rw [show j0+1+j=j0+(j+1) by omega] at h
        exact .inl (.inr h)
       ·exact .inr h
   ·split at h <;> try (cases h;done)
    rename_i ha hb
    obtain ⟨T,h1,h2⟩:=freeFrom_spec h
    refine ⟨T,fun j hj=>?_,fun j y t hj ht=>?_⟩
    ·obtain ⟨h3,y,h4,h5⟩:=h1 j hj
     refine ⟨by omega,y,?_,h5⟩
     rw [show j - j0=(j - (j0+1))+1 by omega];simpa using h4
    ·cases j with
     | zero =>
       simp at hj ht;subst hj ht
       exact .inr ⟨ha,hb⟩
     | succ j =>
       rcases h2 j y t (by simpa using hj) (by simpa using ht) with h|h
       ·rw [show j0+1+j=j0+(j+1) by omega] at h
        exact .inl h
       ·exact .inr h
theorem getD_listed {k j:Nat} {listed:Array Bool} (hl:∀ j,listed.getD j true=decide (j < k∨ops.length≤j)) (hlen:listed.size=ops.length) (hj:j < k) (hk:k≤ops.length):listed.getD j false=true:=by
 have h:=hl j
 have hlt:j < listed.size:=by omega
 simp [hlt] at h ⊢
 simp [h,hj]
theorem anyE_lex (hG:∀ s t,Same s t→G s→G t):∀ {l:List Oper} {ts:List Tr} {k:Nat} {listed:Array Bool} {s s':St} {css:List Prop},l=ops.drop k→ts.length=l.length→(∀ j t,ts[j]?=some t→tr (k+j)=t) →
 readyAll 0 ops=true→freeAll ops k l ts=true→listed.size=ops.length→(∀ j,listed.getD j true=decide (j < k∨ops.length≤j))→GtsOk s→Lex tt S ops l s css s' ts→(∀ q∈css,q)→G s'→anyE tt S ops tr G l.length listed s
 | [],_,k,listed,s,_,_,hl,_,_,_,_,hsz,hlst,_,hx,_,h=>by
   cases hx
   refine ⟨?_,h⟩
   cases hr:Region.ready .any ops.toArray listed with
   | nil=>rfl
   | cons i l' =>
     have hi:i∈Region.ready .any ops.toArray listed:=by rw [hr];simp
     obtain ⟨h0,o,ho,_⟩:=mem_ready.1 hi
     have hlt:i < ops.length:=by
      have:=(Array.getElem?_eq_some_iff.1 ho).1
      simpa using this
     have hk:ops.length≤k:=by
      have:=congrArg List.length hl
      simp at this;omega
     rw [hlst i] at h0
     simp at h0;omega
 | o::l,_,k,listed,s,s',_,hl,hts,htr,hrd,hfr,hsz,hlst,hg,hx,hcs,h=>by
   obtain ⟨t,ts,c,cs,s1,rfl,rfl,h1,h2⟩:=hx.uncons
   have hk:ops[k]?=some o:=by
    have:=congrArg (·[0]?) hl
    simpa using this.symm
   have hklt:k < ops.length:=(List.getElem?_eq_some_iff.1 hk).1
   have hl':l=ops.drop (k+1):=by
    have:=congrArg List.tail hl
    simpa using this
   simp only [freeAll] at hfr
   split at hfr <;> try (cases hfr;done)
   rename_i hf
   obtain ⟨dl,p,cs0,av,hstep,rfl⟩:=stepD_of h1
   have htk:tr k=t:=by simpa using htr 0 t (by simp)
   have hready:k∈Region.ready .any ops.toArray listed:=by
    refine mem_ready.2 ⟨by rw [hlst k];simp;omega,o,by simpa using hk,fun e he hb=>?_⟩
    have:=readyAll_spec hrd k o hk e he hb
    exact getD_listed hlst hsz (by omega) (by omega)
   obtain ⟨T,hT1,hT2⟩:=freeFrom_spec hf
   have hTlt:∀ j,T j→k+1≤j∧j < ops.length:=fun j hj=>by
    obtain ⟨h3,y,h4,_⟩:=hT1 j hj
    rw [hl',List.getElem?_drop,show k+1+(j - (k+1))=j by omega] at h4
    exact ⟨h3,(List.getElem?_eq_some_iff.1 h4).1⟩
   refine anyE_first hG T (fun j hj y hy=>?_) hk (cx:=_) (fun q hq=>hcs q (List.mem_append_left _ hq)) l.length listed s hg ?_ ?_ hready (by rw [htk];exact hstep) ?_
   ·obtain ⟨h3,y',h4,e,h5,h6,h7⟩:=hT1 j hj
    rw [hl',List.getElem?_drop,show k+1+(j - (k+1))=j by omega,hy] at h4
    cases h4
    refine ⟨e,h5,h6,?_⟩
    rcases h7 with h7|h7
    ·rw [mem_cons] at h7
     simp only [Bool.or_eq_true,decide_eq_true_eq] at h7
     rcases h7 with h7|h7
     ·exact .inl h7.symm
     ·simp [mem] at h7
    ·exact .inr h7
   ·intro j hj
    have:=hTlt j hj
    rw [hlst j];simp;omega
   ·intro j y hj hjk hun hno
    rw [hlst j] at hun
    have hjlt:j < ops.length:=(List.getElem?_eq_some_iff.1 hj).1
    have hkj:k+1≤j:=by simp at hun;omega
    have hjl:l[j - (k+1)]?=some y:=by
     rw [hl',List.getElem?_drop]
     rw [show k+1+(j - (k+1))=j by omega];exact hj
    have hjt:j - (k+1) < ts.length:=by
     have:=(List.getElem?_eq_some_iff.1 hjl).1
     simp at hts;omega
    have hty:ts[j - (k+1)]?=some ts[j - (k+1)]:=List.getElem?_eq_getElem hjt
    have htj:tr j=ts[j - (k+1)]:=by
     have:=htr (j - (k+1)+1) ts[j - (k+1)] (by simp)
     rwa [show k+(j - (k+1)+1)=j by omega] at this
    rcases hT2 (j - (k+1)) y _ hjl hty with hw|⟨ha,hb⟩
    ·rw [show k+1+(j - (k+1))=j by omega] at hw
     exact absurd hw hno
    ·rw [htk,htj];exact ⟨ha,hb⟩
   ·refine anyE_lex hG hl' (by simpa using hts) (fun j t ht=>?_) hrd hfr (by simpa using hsz) (fun j=>?_) (hg.app hstep) h2 (fun q hq=>hcs q (List.mem_append_right _ hq)) h
    ·have:=htr (j+1) t (by simpa using ht)
     rwa [show k+(j+1)=k+1+j by omega] at this
    ·by_cases hjk:k=j
     ·subst hjk
      have:k < listed.size:=by omega
      simp [this]
     ·rw [getD_set_ne true hjk,hlst j]
      congr 1
      apply propext
      omega
end
end Go.AM
end

section
set_option linter.all false
namespace Go.AM
theorem mem_iff:∀ {l:List Nat} {k:Nat},mem l k=true↔k∈l
 | [],_=>by simp [mem]
 | x::l,k=>by
   rw [mem_cons,List.mem_cons]
   simp only [Bool.or_eq_true,decide_eq_true_eq,mem_iff]
   exact or_congr eq_comm Iff.rfl
section
variable {g g' gL:Nat→Gh} {K R R2:Nat→Prop} {w:World} {src:Nat→Option (Option Nat)} {K':Nat→Prop}
structure SrcOk (src:Nat→Option (Option Nat)) (K':Nat→Prop) (g' gL:Nat→Gh):Prop where
 lt:∀ i x,src i=some x→K' i
 key:∀ i k,src i=some (some k)→gL i=g' k
 nil:∀ i,src i=some none→gL i=⟨0,.slice none 0 0⟩
theorem own_of {g:Nat→Gh} {K R:Nat→Prop} {w:World} {r:Nat} {v:Value} (hk:K r) (h:v.oneCell'=true) (e:(g r).v=v):RelV g K R w (.own r) v:=by
 subst e;exact .own hk h
mutual
theorem expV_rel (hs:SrcOk src K' g' gL):∀ {c x:AV} {v:Value},expV src c x→RelV g' K R w x v→RelV gL K' R w c v
 | .own i,x,v,h,hv=>by
   simp only [expV] at h
   split at h
   ·rename_i k k' hi
    subst h
    cases hv with
    | own hk h1=>exact own_of (hs.lt _ _ hi) h1 (by rw [hs.key _ _ hi])
   ·rename_i hi
    cases hv
    exact own_of (hs.lt _ _ hi) (by simp [Value.oneCell']) (by rw [hs.nil _ hi])
   ·exact h.elim
 | .ptr i j,x,v,h,hv=>by
   simp only [expV] at h
   split at h
   ·rename_i k j' k' hi
    obtain ⟨rfl,rfl⟩:=h
    cases hv with
    | ptr hk=>rw [← hs.key _ _ hi];exact .ptr (hs.lt _ _ hi)
   ·exact h.elim
 | .agg cs,x,v,h,hv=>by
   simp only [expV] at h
   split at h
   ·cases hv with
    | agg hv=>exact .agg (expL_rel hs h hv)
   ·exact h.elim
 | .tup cs,x,v,h,hv=>by
   simp only [expV] at h
   split at h
   ·cases hv with
    | tup hv=>exact .tup (expL_rel hs h hv)
   ·exact h.elim
 | .int k m,x,v,h,hv=>by
   simp only [expV] at h;subst h
   cases hv with
   | int h=>exact .int h
 | .bool b,x,v,h,hv=>by
   simp only [expV] at h;subst h
   cases hv;exact .bool
 | .str s,x,v,h,hv=>by
   simp only [expV] at h;subst h
   cases hv with
   | str h=>exact .str h
 | .sl t xs,x,v,h,hv=>by
   simp only [expV] at h
   split at h
   ·subst h
    cases hv
    exact .sl (Reads_nil _ _)
   ·subst h
    cases hv with
    | sl h=>exact .sl h
 | .nilsl,x,v,h,hv=>by
   simp only [expV] at h;subst h
   cases hv;exact .nilsl
 | .nilptr,x,v,h,hv=>by
   simp only [expV] at h;subst h
   cases hv;exact .nilptr
 | .ext .any,x,v,h,hv=>by
   simp only [expV] at h
   exact .ext (cell_one h hv)
 | .ext (.nn _ _),x,v,h,hv=>by
   simp only [expV] at h;subst h
   cases hv with
   | ext h=>exact .ext h
 | .ext (.cref _ _ _),x,v,h,hv=>by
   simp only [expV] at h;subst h
   cases hv with
   | ext h=>exact .ext h
 | .ext (.cvals _ _),x,v,h,hv=>by
   simp only [expV] at h;subst h
   cases hv with
   | ext h=>exact .ext h
 | .ext (.full _ _),x,v,h,hv=>by
   simp only [expV] at h;subst h
   cases hv with
   | ext h=>exact .ext h
 | .ext (.nl _),x,v,h,hv=>by
   simp only [expV] at h;subst h
   cases hv with
   | ext h=>exact .ext h
 | .ext (.fn1 _ _ _),x,v,h,hv=>by
   simp only [expV] at h;subst h
   cases hv with
   | ext h=>exact .ext h
 | .ext (.fn2 _ _ _),x,v,h,hv=>by
   simp only [expV] at h;subst h
   cases hv with
   | ext h=>exact .ext h
 | .ext (.opt _ _),x,v,h,hv=>by
   simp only [expV] at h;subst h
   cases hv with
   | ext h=>exact .ext h
 | .ext (.nilm),x,v,h,hv=>by
   simp only [expV] at h;subst h
   cases hv with
   | ext h=>exact .ext h
 | .junk,x,v,h,hv=>.junk
 | .el t xs i j,x,v,h,hv=>by
   simp only [expV] at h;subst h
   cases hv with
   | el h1 h2=>exact .el h1 h2
 | .oel _ _ _ _,x,v,h,hv=>by simp [expV] at h
 | .part _ _ _,x,v,h,hv=>by simp [expV] at h
 | .head _ _ _,x,v,h,hv=>by simp [expV] at h
 | .fn f cs ds,x,v,h,hv=>by
   simp only [expV] at h
   split at h
   ·obtain ⟨rfl,h1,h2⟩:=h
    cases hv with
    | fn h3 h4=>exact .fn (expL_rel hs h1 h3) (expL_rel hs h2 h4)
   ·exact h.elim
 | .nilfn,x,v,h,hv=>by simp [expV] at h
theorem expL_rel (hs:SrcOk src K' g' gL):∀ {cs ds:List AV} {vs:List Value},expL src cs ds→RelL g' K R w ds vs→RelL gL K' R w cs vs
 | [],[],vs,h,hv=>by cases hv;exact .nil
 | [],_::_,vs,h,hv=>by simp [expL] at h
 | _::_,[],vs,h,hv=>by simp [expL] at h
 | c::cs,d::ds,vs,h,hv=>by
   simp only [expL] at h
   cases hv with
   | cons h1 h2=>exact .cons (expV_rel hs h.1 h1) (expL_rel hs h.2 h2)
end
theorem nilsOf_rel {α:Type}:∀ {ds:List AV} {xss:List (List α)} {vs:List Value},nilsOf ds xss→RelL g' K R w ds vs→vs.length=xss.length∧∀ v∈vs,v=.slice none 0 0
 | [],[],vs,_,h=>by cases h;exact ⟨rfl,by simp⟩
 | [],_::_,vs,h,_=>by simp [nilsOf] at h
 | d::ds,xss,vs,h,hv=>by
   cases hv with
   | cons h1 h2 =>
     cases xss with
     | nil=>cases d <;> simp [nilsOf] at h
     | cons x xss =>
       cases d <;> cases x <;> try (simp [nilsOf] at h;done)
       simp only [nilsOf] at h
       obtain ⟨h3,h4⟩:=nilsOf_rel h h2
       cases h1
       exact ⟨by simp [h3],fun v hv=>by
        rcases List.mem_cons.1 hv with rfl|hv
        ·rfl
        ·exact h4 v hv⟩
theorem nilsOf_nil {α:Type}:∀ {ds:List AV} {xss:List (List α)} {i:Nat} {xs:List α},nilsOf ds xss→xss[i]?=some xs→xs=[]
 | [],[],_,_,_,h=>by simp at h
 | [],_::_,_,_,h,_=>by simp [nilsOf] at h
 | d::ds,[],_,_,h,_=>by cases d <;> simp [nilsOf] at h
 | d::ds,x::xss,i,xs,h,hx=>by
   cases d <;> cases x <;> try (simp [nilsOf] at h;done)
   simp only [nilsOf] at h
   cases i with
   | zero=>simp at hx;exact hx
   | succ i=>exact nilsOf_nil h (by simpa using hx)
theorem expO_rel (hs:SrcOk src K' g' gL) {i k:Nat} (hk:gL i=g' k) {o x:AObj} (h:expO src o x) (hx:RowH g' K R w k x):RowH gL K' R w i o∧∀ b,Own gL w i o b→Own g' w k x b:=by
 cases o with
 | box cs =>
   simp only [expO] at h
   split at h
   ·obtain ⟨vs,t,h1,h2,h3⟩:=hx
    exact ⟨⟨vs,t,by rw [hk];exact h1,expL_rel hs h h2,h3⟩,fun b hb=>by simpa [Own,hk] using hb⟩
   ·exact h.elim
 | seq t xs =>
   simp only [expO] at h
   subst h
   exact ⟨by unfold RowH at *;rw [hk];exact hx,fun b hb=>by simpa [Own,hk] using hb⟩
 | arr t xss hl =>
   simp only [expO] at h
   split at h
   ·obtain ⟨h1,h2⟩:=h
    subst h1
    obtain ⟨vs,ty,h3,h4,h5⟩:=hx
    obtain ⟨h6,h7⟩:=nilsOf_rel h2 h4
    have hbl:∀ (i:Nat) v,vs[i]?=some v→v=.slice none 0 0:=fun i v hv=>h7 v (List.mem_of_getElem? hv)
    refine ⟨⟨vs,ty,by rw [hk];exact h3,⟨h6,h5,fun i v xs hv hxs _=>?_,fun i v hv _=>by rw [hbl i v hv];simp [blkOf],fun i j v u c hv hu _ _ hb _=>by rw [hbl i v hv] at hb;simp [blkOf] at hb⟩⟩,fun b hb=>?_⟩
    ·rw [hbl i v hv,nilsOf_nil h2 hxs]
     exact ⟨ty,[],ownsSeq_nil w ty t.size none,rfl,by simp⟩
    ·rcases hb with rfl|⟨vs',ty',i,v,h8,h9,_,h10⟩
     ·rw [hk];rfl
     ·rw [hk,h3] at h8
      have:vs=vs':=by
       have:=congrArg (fun o=>match o with|some (Obj.cells c _ _)=>c.toList|_=>[]) h8
       simpa using this
      subst this
      rw [hbl i v h9] at h10
      simp [blkOf] at h10
   ·subst h
    refine ⟨by simp only [RowH] at *;rw [hk];exact hx,fun b hb=>?_⟩
    simp only [Own,hk] at hb ⊢
    exact hb
 | map a b l =>
   simp only [expO] at h
   subst h
   exact ⟨by simp only [RowH] at *;rw [hk];exact hx,fun b hb=>by simpa [Own,hk] using hb⟩
 | mit m0 a b l cur G =>
   simp only [expO] at h
   split at h
   ·rename_i m1 a' b' l' cur' G'
    obtain ⟨h1,h2⟩:=h
    cases h1
    split at h2
    ·rename_i q hi
     subst h2
     obtain ⟨⟨h3,h4⟩,h5⟩:=hx
     refine ⟨⟨⟨hs.lt _ _ hi,by rw [hk,hs.key _ _ hi];exact h4⟩,by rw [hk];exact h5⟩,fun b hb=>?_⟩
     simp only [Own,hk] at hb ⊢
     exact hb
    ·exact h2.elim
   ·exact h.elim
 | yp j =>
   simp only [expO] at h
   split at h
   ·rename_i k0
    split at h
    ·rename_i k' hi
     subst h
     obtain ⟨h1,h2⟩:=hx
     exact ⟨⟨hs.lt _ _ hi,by rw [hk,hs.key _ _ hi];exact h2⟩,fun b hb=>by simp [Own] at hb⟩
    ·exact h.elim
   ·exact h.elim
 | yld t two Y p =>
   simp only [expO] at h
   subst h
   exact ⟨by simp only [RowH] at *;rw [hk];exact hx,fun b hb=>by simpa [Own,hk] using hb⟩
 | dead=>exact ⟨trivial,fun b hb=>by simp [Own] at hb⟩
end
theorem nth_someK:∀ {l:List (Option Nat)} {i k:Nat},l[i]?=some (some k)→k∈someK l
 | [],_,_,h=>by simp at h
 | none::l,0,k,h=>by simp at h
 | some x::l,0,k,h=>by simp at h;subst h;simp [someK]
 | none::l,i+1,k,h=>by simp only [someK];exact nth_someK (by simpa using h)
 | some x::l,i+1,k,h=>by simp only [someK];exact List.mem_cons_of_mem _ (nth_someK (by simpa using h))
theorem someK_inj:∀ {l:List (Option Nat)} {i j k:Nat},nodupK (someK l)=true→l[i]?=some (some k)→l[j]?=some (some k)→i=j
 | [],_,_,_,_,h,_=>by simp at h
 | none::l,0,_,_,_,h,_=>by simp at h
 | none::l,_+1,0,_,_,_,h=>by simp at h
 | none::l,i+1,j+1,k,hn,h1,h2=>by
   simp only [someK] at hn
   have:=someK_inj hn (i:=i) (j:=j) (k:=k) (by simpa using h1) (by simpa using h2)
   omega
 | some x::l,0,0,_,_,_,_=>rfl
 | some x::l,0,j+1,k,hn,h1,h2=>by
   simp at h1;subst h1
   simp only [someK,nodupK] at hn
   split at hn
   ·cases hn
   ·rename_i hm
    have:=nth_someK (l:=l) (by simpa using h2)
    rw [← mem_iff] at this
    rw [this] at hm;cases hm
 | some x::l,i+1,0,k,hn,h1,h2=>by
   simp at h2;subst h2
   simp only [someK,nodupK] at hn
   split at hn
   ·cases hn
   ·rename_i hm
    have:=nth_someK (l:=l) (by simpa using h1)
    rw [← mem_iff] at this
    rw [this] at hm;cases hm
 | some x::l,i+1,j+1,k,hn,h1,h2=>by
   simp only [someK,nodupK] at hn
   split at hn
   ·cases hn
   ·have:=someK_inj hn (i:=i) (j:=j) (k:=k) (by simpa using h1) (by simpa using h2)
    omega
end Go.AM
end
