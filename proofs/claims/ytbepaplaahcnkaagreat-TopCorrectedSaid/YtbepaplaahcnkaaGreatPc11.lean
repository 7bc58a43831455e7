/- AmStep. -/
import Derived.Test.YtbepaplaahcnkaaGreatPc10
import Derived.Scope
import Derived.OrdersIn
import Derived.AtR

section
set_option linter.all false
namespace Go.AM
def notDefer:Op→Bool
 | .defer _=>false
 | _=>true
theorem callsFR {ro:Option Nat} {n:Nat} {P:Program} {f:FuncId} {args:Array Value} {w:World} {R:Ending→World→Prop} (h:Calls P f args w R):CallsIn (FR ro) n P f args w R:=callsIn_wide.2 h
theorem rowsFR {ro:Option Nat} {n:Nat} {P:Program} {row:String} {args:Array Value} {w:World} {R:Value→World→Prop} (h:Rows P row args w R):RowsIn (FR ro) n P row args w R:=fun c cs _=>by
 obtain ⟨v,w',r,s⟩:=h c cs
 exact ⟨v,w',r,stepsIn_wide.2 s⟩
theorem opFR {ro:Option Nat} {n:Nat} {P:Program} {o:Oper} {a:Act} {w:World} {next:Act→World→Prop} {Q:Exit→Act→World→Prop} (h:o.wp P a w next Q) (hd:notDefer o.op=true):o.wpIn (FR ro) n P a w next Q:=by
 refine ⟨fun _ _=>trivial,?_⟩
 rw [show (FR ro).round=ro from rfl,Oper.semAt_eq _ _ _ (fun c e=>by rw [e] at hd;cases hd)]
 unfold Oper.wp at h
 generalize (execOp a.eval o).run P w=r at h ⊢
 cases r with
 | ok x w' =>
   cases x with
   | value v=>exact h
   | skip=>exact h
   | defer d=>exact h
   | enter f args=>exact ⟨(fun hh=>absurd hh (by simp [Fence.wide])),callsFR h⟩
   | row row args=>exact ⟨(fun hh=>absurd hh (by simp [Fence.wide])),rowsFR h⟩
   | _=>exact h.elim
 | halt x w'=>cases x <;> first|exact h|exact h.elim
def SigOk (P:Program) (S:Nat→Option Spec):Prop :=
 ∀ f s,S f=some s→SpecSound P f s∧∀ args w,(callFunc f args).run P w=.ok (.enter f args) w
section
variable {P:Program} {C:Ctx} {g:Nat→Gh} {R:Nat→Prop} {st:St} {a:Act} {w:World} {tt:TT} {S:Nat→Option Spec}
variable {next:Act→World→Prop} {Q:Exit→Act→World→Prop}
def Next1 (C:Ctx) (st:St) (a:Act) (res:Res) (dst:Option Tmp) (next:Act→World→Prop):Prop :=
 ∀ g' R' w' v,Rel C g' R' ⟨st.n,st.slots,st.gt,appK res.new st.ks,addRows res.upd st.rows⟩ a w'→RelV g' (fun r=>mem (appK res.new st.ks) r=true) R' w' res.av v→next (a.put dst v) w'
theorem did_wp {o:Oper} {s:Sem Value} {res:Res} (hd:Did P C st a w s res) (he:execOp a.eval o=(do pure (.value (← s)))) (hn:Next1 C st a res o.dst next):o.wp P a w next Q:=by
 obtain ⟨v,w',g',R',h1,h2,h3⟩:=hd
 exact wp_value (v:=v) (w':=w') (by rw [he];simp [h1]) (hn g' R' w' v h2 h3)
theorem pure_wp {o:Oper} {s:Sem Value} {res:Res} (hrel:Rel C g R st a w) (hp:Pure P g (fun r=>mem st.ks r=true) R w s res) (he:execOp a.eval o=(do pure (.value (← s)))) (hn:Next1 C st a res o.dst next):o.wp P a w next Q :=
 did_wp (hp.did hrel) he hn
theorem call_wp {o:Oper} {f:Nat} {vals:List Value} {res:Res} (h:CallDid P C st a w f vals res) (he:(execOp a.eval o).run P w=.ok (.enter f vals.toArray) w) (hn:Next1 C st a res o.dst next):o.wp P a w next Q:=by
 unfold Oper.wp
 rw [he]
 simp only [Oper.upon]
 exact h.mono fun e w' ⟨v,g',R',e1,h1,h2⟩=>by subst e1;exact hn g' R' w' v h1 h2
theorem snocN_f {β:Type} {l:List Nat} {r:Nat} (k:List Nat→β):∃ l',∀ β (k:List Nat→β),addKK l r k=k l':=by
 unfold addKK
 split
 ·exact ⟨_,fun _ _=>rfl⟩
 ·have:∀ (l:List Nat) β (k:List Nat→β),forceL l k=k l:=fun l=>by
   induction l with
   | nil=>intro β k;rfl
   | cons x l ih=>intro β k;simp only [forceL];rw [ih]
  exact ⟨_,fun β k=>this _ β k⟩
mutual
theorem keysVK_ex:∀ (c:AV) (l:List Nat),∃ l',∀ β (k:List Nat→β),keysVK c l k=k l'
 | .own r,l=>by unfold keysVK;exact snocN_f (β:=Unit) (fun _=>())
 | .oel r _ _ _,l=>by unfold keysVK;exact snocN_f (β:=Unit) (fun _=>())
 | .part r _ _,l=>by unfold keysVK;exact snocN_f (β:=Unit) (fun _=>())
 | .head r _ _,l=>by unfold keysVK;exact snocN_f (β:=Unit) (fun _=>())
 | .ptr r _,l=>by unfold keysVK;exact snocN_f (β:=Unit) (fun _=>())
 | .agg cs,l=>by unfold keysVK;exact keysLK_ex cs l
 | .tup cs,l=>by unfold keysVK;exact keysLK_ex cs l
 | .fn _ cs ds,l=>by
   obtain ⟨l1,h1⟩:=keysLK_ex cs l
   obtain ⟨l2,h2⟩:=keysLK_ex ds l1
   exact ⟨l2,fun β k=>by unfold keysVK;rw [h1,h2]⟩
 | .int _ _,l=>⟨l,fun _ _=>rfl⟩
 | .bool _,l=>⟨l,fun _ _=>rfl⟩
 | .str _,l=>⟨l,fun _ _=>rfl⟩
 | .sl _ _,l=>⟨l,fun _ _=>rfl⟩
 | .el _ _ _ _,l=>⟨l,fun _ _=>rfl⟩
 | .nilsl,l=>⟨l,fun _ _=>rfl⟩
 | .nilptr,l=>⟨l,fun _ _=>rfl⟩
 | .nilfn,l=>⟨l,fun _ _=>rfl⟩
 | .ext _,l=>⟨l,fun _ _=>rfl⟩
 | .junk,l=>⟨l,fun _ _=>rfl⟩
theorem keysLK_ex:∀ (cs:List AV) (l:List Nat),∃ l',∀ β (k:List Nat→β),keysLK cs l k=k l'
 | [],l=>⟨l,fun _ _=>rfl⟩
 | c::r,l=>by
   obtain ⟨l1,h1⟩:=keysVK_ex c l
   obtain ⟨l2,h2⟩:=keysLK_ex r l1
   exact ⟨l2,fun β k=>by unfold keysLK;rw [h1,h2]⟩
end
theorem forceL_eq {α β:Type}:∀ (l:List α) (k:List α→β),forceL l k=k l
 | [],_=>rfl
 | x::r,k=>by simp only [forceL];rw [forceL_eq r]
mutual
theorem forceV_eq {β:Type}:∀ (v:AV) (k:AV→β),forceV v k=k v
 | .int _ _,_=>rfl
 | .bool _,_=>rfl
 | .str _,_=>rfl
 | .sl _ _,_=>rfl
 | .el _ _ _ _,_=>rfl
 | .own _,_=>rfl
 | .oel _ _ _ _,_=>rfl
 | .part _ _ _,_=>rfl
 | .head _ _ _,_=>rfl
 | .ptr _ _,_=>rfl
 | .agg cs,k=>by simp only [forceV];rw [forceVL_eq cs]
 | .tup cs,k=>by simp only [forceV];rw [forceVL_eq cs]
 | .fn _ cs ds,k=>by simp only [forceV];rw [forceVL_eq cs,forceVL_eq ds]
 | .nilsl,_=>rfl
 | .nilptr,_=>rfl
 | .nilfn,_=>rfl
 | .ext _,_=>rfl
 | .junk,_=>rfl
theorem forceVL_eq {β:Type}:∀ (l:List AV) (k:List AV→β),forceVL l k=k l
 | [],_=>rfl
 | c::r,k=>by simp only [forceVL];rw [forceV_eq c,forceVL_eq r]
end
theorem forceO_eq {β:Type} (o:AObj) (k:AObj→β):forceO o k=k o:=by
 cases o <;> simp [forceO,forceVL_eq]
theorem forceR_eq {β:Type}:∀ (l:List (Nat × AObj)) (k:List (Nat × AObj)→β),forceR l k=k l
 | [],_=>rfl
 | (i,o)::r,k=>by simp only [forceR];rw [forceO_eq o,forceR_eq r]
theorem bind_assoc' {α β γ:Type}:∀ (x:RQ α) (f:α→RQ β) (k:β→RQ γ),(x.bind f).bind k=x.bind fun a=>(f a).bind k
 | .ret _,_,_=>rfl
 | .fail,_,_=>rfl
 | .ask r h,f,k=>congrArg (RQ.ask r) (funext fun o=>bind_assoc' (h o) f k)
theorem viewAK_eq {β:Type} (x:AV) (k:AV→RQ β):viewAK x k=(viewA x).bind k:=by
 cases x <;> try rfl
 ·unfold viewAK viewA
  refine congrArg (RQ.ask _) (funext fun o=>?_)
  cases o <;> rfl
 ·rename_i r j
  cases j with
  | zero =>
    unfold viewAK viewA
    refine congrArg (RQ.ask _) (funext fun o=>?_)
    cases o <;> try rfl
    ·rename_i cs
     rcases cs with _|⟨c,_|⟨c',cs⟩⟩
     ·rfl
     ·cases c <;> try rfl
      refine congrArg (RQ.ask _) (funext fun o=>?_)
      cases o <;> rfl
     ·cases c <;> rfl
    ·rename_i t xss h
     cases h <;> rfl
  | succ j=>rfl
theorem viewCK_eq {β:Type}:∀ (l:List AV) (k:List AV→RQ β),viewCK l k=(viewC l).bind k
 | [],_=>rfl
 | c::r,k=>by
   simp only [viewCK,viewC]
   rw [viewAK_eq,bind_assoc']
   congr 1
   funext c'
   rw [viewCK_eq r,bind_assoc']
   rfl
theorem viewLK_eq {β:Type}:∀ (l:List AV) (k:List AV→RQ β),viewLK l k=(viewL l).bind k
 | [],_=>rfl
 | c::r,k=>by
   by_cases hc:∃ cs,c=.agg cs
   ·obtain ⟨cs,rfl⟩:=hc
    simp only [viewLK,viewL]
    rw [viewCK_eq,bind_assoc']
    congr 1
    funext c'
    rw [viewLK_eq r,bind_assoc']
    rfl
   ·have e1:viewLK (c::r) k=viewAK c fun c'=>viewLK r fun r'=>k (c'::r'):=by
     cases c <;> first|rfl|exact absurd ⟨_,rfl⟩ hc
    have e2:viewL (c::r)=(viewA c).bind fun c'=>(viewL r).bind fun r'=>.ret (c'::r'):=by
     cases c <;> first|rfl|exact absurd ⟨_,rfl⟩ hc
    rw [e1,e2,viewAK_eq,bind_assoc']
    congr 1
    funext c'
    rw [viewLK_eq r,bind_assoc']
    rfl
theorem frz1K_eq {β:Type} (v:AV) (ms:List Nat) (k:AV→List Nat→RQ β):frz1K v ms k=(frz1Q v ms).bind fun p=>k p.1 p.2:=by
 cases v <;> try rfl
 unfold frz1K frz1Q
 refine congrArg (RQ.ask _) (funext fun o=>?_)
 cases o <;> rfl
theorem frzLK_eq {β:Type}:∀ (l:List AV) (ms:List Nat) (k:List AV→List Nat→RQ β),frzLK l ms k=(frzLQ l ms).bind fun p=>k p.1 p.2
 | [],_,_=>rfl
 | v::r,ms,k=>by
   simp only [frzLK,frzLQ]
   rw [frz1K_eq,bind_assoc']
   congr 1
   funext p
   rw [frzLK_eq r,bind_assoc']
   rfl
theorem frzGK_eq {β:Type} (v:AV) (ms:List Nat) (k:AV→List Nat→RQ β):frzGK v ms k=(frzGQ v ms).bind fun p=>k p.1 p.2:=by
 by_cases hc:∃ cs,v=.agg cs
 ·obtain ⟨cs,rfl⟩:=hc
  simp only [frzGK,frzGQ]
  rw [frzLK_eq,bind_assoc']
  rfl
 ·have e1:frzGK v ms k=frz1K v ms k:=by
   cases v <;> first|rfl|exact absurd ⟨_,rfl⟩ hc
  have e2:frzGQ v ms=frz1Q v ms:=by
   cases v <;> first|rfl|exact absurd ⟨_,rfl⟩ hc
  rw [e1,e2]
  exact frz1K_eq v ms k
theorem frzPK_eq {β:Type}:∀ (l:List (Nat × AV)) (ms:List Nat) (k:List (Nat × AV)→List Nat→RQ β),frzPK l ms k=(frzPQ l ms).bind fun p=>k p.1 p.2
 | [],_,_=>rfl
 | (i,v)::r,ms,k=>by
   simp only [frzPK,frzPQ]
   rw [frzGK_eq,bind_assoc']
   congr 1
   funext p
   rw [frzPK_eq r,bind_assoc']
   rfl
theorem evBuildK_eq {d:Nat} {ti:TI} {n:Nat} {ps:List (Nat × AV)}:evBuildK d ti n ps=evBuildX d ti n ps:=by
 unfold evBuildK evBuildX
 rw [frzPK_eq]
theorem evUpdK_eq {S:Nat→Option Spec} {ti:TI} {m x y:AV}:evUpdK S ti m x y=evUpdX S ti m x y:=by
 cases y <;> try rfl
 unfold evUpdK evUpdX
 dsimp only
 rw [frzLK_eq]
theorem evCall_sound (hS:SigOk P S) (hrel:Rel C g R st a w) {d f:Nat} {args:List AV} {vals:List Value} {li rd:List Nat} {res:Res} (h:(evCall S d f args).run (look st.rows) li=some (res,rd)) (hc:∀ p∈res.conds,p)
 (hf:freshAll st.ks res.new=true) (hargs:RelL g (fun r=>mem st.ks r=true) R w args vals):CallDid P C st a w f vals res∧∀ args w,(callFunc f args).run P w=.ok (.enter f args) w:=by
 unfold evCall at h
 split at h
 ·exact (fX h).elim
 ·rename_i s hs
  obtain ⟨hsound,hcall⟩:=hS f s hs
  refine ⟨?_,hcall⟩
  split at h
  ·rename_i hraw
   rw [viewLK_eq,run_bind] at h
   split at h <;> try (cases h;done)
   rename_i args' l' hv
   rw [forceVL_eq] at h
   split at h <;> try exact (fX h).elim
   rename_i o hw hsf
   split at h <;> try exact (fX h).elim
   rename_i hal
   rw [ret_run h] at hc hf ⊢
   exact call_view hrel hsound hraw hargs hv hw hsf (hc _ (List.mem_singleton.2 rfl)) hal hf
  ·rename_i hraw
   obtain ⟨ls,hls⟩:=keysLK_ex args []
   rw [hls] at h
   rw [run_bind] at h
   split at h <;> try (cases h;done)
   rename_i all l' _
   rw [run_bind] at h
   split at h <;> try (cases h;done)
   rename_i objs l'' hask
   split at h <;> try exact (fX h).elim
   rename_i o h1 h2 h3 hsf
   split at h <;> try exact (fX h).elim
   rw [ret_run h] at hc hf ⊢
   have e:dropL (lenL all) o.rows=o.rows.drop all.length:=by rw [dropL_spec,lenL_spec]
   rw [e] at hf ⊢
   exact call_raw hrel hsound hraw hargs hask h1 h2 h3 hsf (hc _ (List.mem_singleton.2 rfl)) hf
theorem RelL_map {K:Nat→Prop} {get:Operand→AV} {ρ:Operand→Value}:∀ {l:List Operand},(∀ x∈l,RelV g K R w (get x) (ρ x))→RelL g K R w (l.map get) (l.map ρ)
 | [],_=>.nil
 | x::l,h=>.cons (h x (by simp)) (RelL_map fun y hy=>h y (by simp [hy]))
theorem map_arr {α β:Type} (f:α→β) (xs:Array α):xs.map f=(xs.toList.map f).toArray:=by
 apply Array.ext';simp
theorem evOp_sound (hT:TTok P tt) (hS:SigOk P S) (hrel:Rel C g R st a w) {o:Oper} {d:Nat} {res:Res} {rd:List Nat} (h:(evOp tt S st.get d o.op).run (look st.rows) []=some (res,rd)) (hc:∀ p∈res.conds,p)
 (hf:freshAll st.ks res.new=true) (hget:∀ x∈opList o.op,RelV g (fun r=>mem st.ks r=true) R w (st.get x) (a.eval x))
 (hpick:∀ c x y,o.op=.pick c x y→RelV g (fun r=>mem st.ks r=true) R w (st.get c) (a.eval c)∧∀ b,a.eval c=.bool b→RelV g (fun r=>mem st.ks r=true) R w (st.get (if b then x else y)) (a.eval (if b then x else y)))
 (hn:Next1 C st a res o.dst next) (hny:∀ c f r,o.op=.call c→c.callee=.value f→st.get f≠.own r):o.wp P a w next Q:=by
 obtain ⟨dst,op,type,pos,after,guard⟩:=o
 dsimp only at h hget hpick hn hny
 have held:=hrel.heap.held
 have hS':∀ f s,S f=some s→SpecSound P f s∧∀ args w,(callFunc f args).run P w=.ok (.enter f args) w:=hS
 cases op
 case move x =>
  simp only [evOp] at h
  rw [b2_run h] at hn
  exact pure_wp (s:=pure (a.eval x)) hrel ⟨rfl,rfl,_,rfl,hget x (by simp [opList])⟩ rfl hn
 case assign x =>
  simp only [evOp] at h
  rw [b2_run h] at hn
  exact pure_wp (s:=pure (a.eval x)) hrel ⟨rfl,rfl,_,rfl,hget x (by simp [opList])⟩ rfl hn
 case pick c x y =>
  obtain ⟨h1,h2⟩:=hpick c x y rfl
  simp only [evOp] at h
  split at h <;> try exact (fX h).elim
  rename_i t ht
  rw [ht] at h1
  generalize hec:a.eval c=vc at h1 h2
  cases h1
  have hx:t=true→RelV g (fun r=>mem st.ks r=true) R w (st.get x) (a.eval x):=fun e=>by subst e;simpa using h2 true rfl
  have hy:t=false→RelV g (fun r=>mem st.ks r=true) R w (st.get y) (a.eval y):=fun e=>by subst e;simpa using h2 false rfl
  obtain ⟨h3,h4,h5⟩:=evPick_sound (a:=a) h hc hx hy
  exact pure_wp (s:=pure (if t then a.eval x else a.eval y)) hrel ⟨h3,h4,_,rfl,h5⟩ (by simp [execOp,hec,asBool]) hn
 case alloc e =>
  simp only [evOp] at h
  split at h <;> try exact (fX h).elim
  rename_i ti hl
  obtain ⟨i,z,hi,hsz,hz,hoz,ha,hd,_,_⟩:=hT.info hl
  have hz0:=ofZero_rel (g:=g) (K:=fun r=>mem st.ks r=true) (R:=R) (w:=w) hoz
  obtain ⟨v,w',g',R',h1,h2,h3⟩:=new_did (P:=P) (e:=e) hrel h hf (cells_rel hz0 (ofZero_cell hoz))
  refine wp_value (v:=v) (w':=w') ?_ (hn g' R' w' v h2 h3)
  simp only [execOp,Instr.alloc]
  simp only [Sem.run_bind,run_zero w hi hz,Result.andThen_ok]
  simp only [Sem.run_bind] at h1
  rw [h1]
  rfl
 case box e x =>
  simp only [evOp] at h
  split at h <;> try exact (fX h).elim
  rename_i ti hl
  split at h <;> try exact (fX h).elim
  have hx:=hget x (by simp [opList])
  have hcell:allCell (st.get x).cells=true:=by
   unfold evNew at h
   split at h
   ·assumption
   ·exact (fX h).elim
  exact did_wp (new_did (P:=P) (e:=e) hrel h hf (cells_rel hx hcell)) rfl hn
 case build t ps =>
  simp only [evOp] at h
  split at h <;> try exact (fX h).elim
  rename_i ti hl
  refine pure_wp hrel (build_sound hT hl (ps:=ps.toList) (ρ:=a.eval) h (fun x hx=>hget x (by simpa [opList] using hx))) ?_ hn
  simp only [execOp,map_arr]
 case buildSlice t n ps =>
  simp only [evOp] at h
  split at h <;> try exact (fX h).elim
  rename_i ti hl
  rw [evBuildK_eq] at h
  refine did_wp (buildX_did hT hrel hl (ps:=ps.toList) (ρ:=a.eval) h hf (fun x hx=>hget x (by simpa [opList] using hx))) ?_ hn
  simp only [execOp,map_arr]
 case load t x =>
  simp only [evOp] at h
  split at h <;> try exact (fX h).elim
  rename_i ti hl
  exact did_wp (loadD_did hT hrel hl h hf hc (hget x (by simp [opList]))) rfl hn
 case store t x y =>
  simp only [evOp] at h
  split at h <;> try exact (fX h).elim
  rename_i ti hl
  obtain ⟨hav,R',w',h1,h2⟩:=storeX_did hT hrel hl h hc (hget x (by simp [opList])) (hget y (by simp [opList]))
  exact wp_skip' (w':=w') (by simp [execOp,h1]) (hn g R' w' undef h2 (by rw [hav];exact .junk))
 case nilCheck x =>
  simp only [evOp] at h
  have hv:=hget x (by simp [opList])
  split at h <;> try exact (fX h).elim
  ·rename_i r j hx
   rw [hx] at hv
   rw [b2_run h] at hn
   generalize hec:a.eval x=vx at hv
   cases hv with
   | ptr hk =>
     refine wp_value (w':=w) ?_ (hn g R w _ hrel (.ptr hk))
     simp [execOp,hec]
  ·rename_i t xss j hx
   rw [hx] at hv
   rw [b2_run h] at hn
   generalize hec:a.eval x=vx at hv
   cases hv with
   | ext hv =>
     have hv':=hv
     obtain ⟨b,vs,rfl,_⟩:=hv'
     refine wp_value (w':=w) ?_ (hn g R w _ hrel (.ext hv))
     simp [execOp,hec]
  ·rename_i t xs i j hx
   rw [hx] at hv
   rw [b2_run h] at hn
   generalize hec:a.eval x=vx at hv
   cases hv with
   | el hi hv =>
     have hv':=hv
     obtain ⟨ad,vs,rfl,_⟩:=hv'
     refine wp_value (w':=w) ?_ (hn g R w _ hrel (.el hi hv))
     simp [execOp,hec]
  ·rename_i t y hx
   rw [hx] at hv
   rw [b2_run h] at hn hc
   generalize hec:a.eval x=vx at hv
   cases hv with
   | ext hv =>
     have hy:y.isSome=true:=hc _ (by simp)
     rcases hv with ⟨rfl,_⟩|⟨z,v,rfl,e2,hv⟩
     ·cases hy
     ·obtain rfl:vx=v:=by simpa using e2
      have hv':=hv
      obtain ⟨ad,vs,rfl,_⟩:=hv'
      refine wp_value (w':=w) ?_ (hn g R w _ hrel (.el (by simp) hv))
      simp [execOp,hec]
 case convert s t x =>
  simp only [evOp] at h
  split at h <;> try exact (fX h).elim
  rename_i si ti hls hl
  exact pure_wp hrel (conv_sound hT hls hl h (hget x (by simp [opList])) held) rfl hn
 case binOp op t x y u =>
  simp only [evOp] at h
  exact pure_wp hrel (binX_sound hT h hc (hget x (by simp [opList])) (hget y (by simp [opList]))) rfl hn
 case unOp op t x =>
  simp only [evOp] at h
  have hv:=hget x (by simp [opList])
  split at h
  ·rename_i b hx
   rw [hx] at hv
   rw [b2_run h] at hn
   generalize hec:a.eval x=vx at hv
   cases hv
   exact wp_value (w':=w) (by simp [execOp,Op.unary,hec]) (hn g R w _ hrel .bool)
  ·rename_i k n hx
   rw [hx] at hv
   generalize hec:a.eval x=vx at hv
   cases hv
   unfold arith at h
   split at h
   ·rw [b2_run h] at hn hc
    have hi:=wrap_in64 (hc _ (List.mem_singleton.2 rfl))
    exact wp_value (w':=w) (v:=.int .i64 (0 - n)) (by simp only [execOp,Op.unary,Op.intArith,hec,hi];rfl) (hn g R w _ hrel (.int hi))
   ·rw [b2_run h] at hn
    exact wp_value (w':=w) (by simp only [execOp,Op.unary,Op.intArith,hec];rfl) (hn g R w _ hrel (.int (wrap_wrap _ _)))
  ·exact (fX h).elim
 case makeFunc fn fs cs =>
  cases fn with
  | func f =>
    simp only [evOp] at h
    rw [b2_run h] at hn
    refine wp_value (w':=w) (v:=.func (.func f) (fs.map a.eval) (cs.map a.eval)) rfl (hn g R w _ hrel ?_)
    rw [map_arr a.eval fs,map_arr a.eval cs]
    exact .fn (RelL_map fun x hx=>hget x (by simp only [opList,List.mem_append];exact .inl hx)) (RelL_map fun x hx=>hget x (by simp only [opList,List.mem_append];exact .inr hx))
  | _=>simp only [evOp] at h;exact (fX h).elim
 case fieldAddr t x n =>
  simp only [evOp] at h
  split at h <;> try exact (fX h).elim
  rename_i ti hl
  exact pure_wp hrel (fieldX_sound hT hl h (hget x (by simp [opList]))) rfl hn
 case indexAddr t x i =>
  simp only [evOp] at h
  split at h <;> try exact (fX h).elim
  rename_i ti k n hl hi
  have hv:=hget i (by simp [opList])
  rw [hi] at hv
  generalize hec:a.eval i=vi at hv
  cases hv
  exact pure_wp hrel (indexAddrX_sound (k:=k) hT hl h hc (hget x (by simp [opList])) held) (by simp [execOp,hec]) hn
 case index t x i =>
  simp only [evOp] at h
  split at h <;> try exact (fX h).elim
  rename_i ti k n hl hi
  have hv:=hget i (by simp [opList])
  have hy:=hget x (by simp [opList])
  rw [hi] at hv
  generalize hec:a.eval i=vi at hv
  cases hv
  exact pure_wp hrel (indexX_sound (k:=k) hT hl h hc hy) (by simp [execOp,hec]) hn
 case field t x n =>
  simp only [evOp] at h
  split at h <;> try exact (fX h).elim
  rename_i ti hl
  exact pure_wp hrel (fieldV_sound hT hl h (hget x (by simp [opList]))) rfl hn
 case makeSlice t l c =>
  simp only [evOp] at h
  split at h <;> try exact (fX h).elim
  rename_i ti kl n kc m hl hgl hgc
  have hvl:=hget l (by simp [opList])
  have hvc:=hget c (by simp [opList])
  rw [hgl] at hvl
  rw [hgc] at hvc
  generalize hel:a.eval l=vl at hvl
  generalize hec:a.eval c=vc at hvc
  cases hvl
  cases hvc
  obtain ⟨hmn,_,cs,hev,hcs⟩:=withC_spec h hc
  subst hmn
  exact did_wp (makeS_did (kl:=kl) (kc:=kc) hT hrel hl hev hf hcs) (by simp [execOp,hel,hec]) hn
 case slice t x lo hi mx =>
  simp only [evOp] at h
  split at h <;> try exact (fX h).elim
  rename_i ti hl
  split at h
  ·rename_i _ _ r k n hlk hx hhi
   have hhi':∃ y,hi=some y∧st.get y=.int k n:=by
    cases hi with
    | none=>simp at hhi
    | some y=>exact ⟨y,rfl,by simpa using hhi⟩
   obtain ⟨y,rfl,hy⟩:=hhi'
   have hvx:=hget x (by simp [opList])
   have hvy:=hget y (by simp [opList])
   rw [hx] at hvx
   rw [hy] at hvy
   generalize hey:a.eval y=vy at hvy
   cases hvy
   exact did_wp (head_did (k:=k) hT hrel hl h hc hvx) (by simp [execOp,hey]) hn
  exact did_wp (sliceX_did hT hrel hl (ρ:=a.eval) h hf hc (hget x (by simp [opList])) (fun y hy=>hget y (by simp only [opList];exact List.mem_cons_of_mem _ (List.mem_append_left _ hy))) (fun y hy=>hget y (by simp only [opList];exact List.mem_cons_of_mem _ (List.mem_append_right _ (List.mem_append_left _ hy)))) (fun y hy=>hget y (by simp only [opList];exact List.mem_cons_of_mem _ (List.mem_append_right _ (List.mem_append_right _ hy))))) (by simp [execOp]) hn
 case range t x =>
  simp only [evOp] at h
  split at h <;> try exact (fX h).elim
  rename_i ti hl
  exact did_wp (rangeM_did hT hrel hl h hf hc (hget x (by simp [opList]))) (by simp [execOp]) hn
 case entry x =>
  simp only [evOp] at h
  exact pure_wp hrel (entryM_sound held h (hget x (by simp [opList]))) (by simp [execOp]) hn
 case extract x i =>
  simp only [evOp] at h
  split at h <;> try exact (fX h).elim
  rename_i vs hx
  split at h <;> try exact (fX h).elim
  rename_i v hv
  rw [b2_run h] at hn
  have hr:=hget x (by simp [opList])
  rw [hx] at hr
  generalize hec:a.eval x=vx at hr
  cases hr with
  | tup hr =>
    rw [nth_spec] at hv
    obtain ⟨u,h1,h2⟩:=RelL_get hr hv
    exact wp_value (w':=w) (by simp [execOp,Instr.extract,hec,h1]) (hn g R w _ hrel h2)
 case call c =>
  obtain ⟨callee,args,argTypes⟩:=c
  have hargs:∀ l:List Operand,args.toList=l→args=l.toArray:=fun l h=>by rw [← h]
  have htys:∀ l:List TypeId,argTypes.toList=l→argTypes=l.toArray:=fun l h=>by rw [← h]
  simp only [evOp] at h
  split at h
  ·-- len
   split at h <;> try exact (fX h).elim
   rename_i x t h1 h2
   split at h <;> try exact (fX h).elim
   rename_i ti hl
   rw [hargs _ h1] at hget ⊢
   rw [htys _ h2]
   exact pure_wp hrel (len_sound (rt:=type) hT hl h (plain_rel (hget x (by simp [opList]))) held) (by simp [execOp,resolve,invoke,builtin]) hn
  ·-- clear
   split at h <;> try exact (fX h).elim
   rename_i x t h1 h2
   split at h <;> try exact (fX h).elim
   rename_i ti hl
   rw [hargs _ h1] at hget ⊢
   rw [htys _ h2]
   exact did_wp (clear_did (ty':=type) hT hrel hl h hc (hget x (by simp [opList]))) (by simp [execOp,resolve,invoke,builtin]) hn
  ·-- copy
   split at h <;> try exact (fX h).elim
   rename_i x y t u h1 h2
   split at h <;> try exact (fX h).elim
   rename_i ti htu hl
   rw [hargs _ h1] at hget ⊢
   rw [htys _ h2]
   obtain rfl:=beq_eq htu
   exact did_wp (copy_did (ty':=type) hT hrel hl h hc (hget x (by simp [opList])) (hget y (by simp [opList]))) (by simp [execOp,resolve,invoke,builtin]) hn
  ·-- append
   split at h <;> try exact (fX h).elim
   rename_i x y t u h1 h2
   split at h <;> try exact (fX h).elim
   ·rename_i ti htu hl
    rw [hargs _ h1] at hget ⊢
    rw [htys _ h2]
    obtain rfl:=beq_eq htu
    exact did_wp (appendX_did (ty':=type) hT hrel hl h hf hc (hget x (by simp [opList])) (hget y (by simp [opList]))) (by simp [execOp,resolve,invoke,builtin]) hn
   ·rename_i ti htu hl
    split at h <;> try exact (fX h).elim
    ·rename_i ui n hlu hy
     rw [hargs _ h1] at hget ⊢
     rw [htys _ h2]
     have hvy:=hget y (by simp [opList])
     rw [hy] at hvy
     generalize hey:a.eval y=vy at hvy
     cases hvy
     exact did_wp (appendZ_did (ty':=type) hT hrel hl hlu h hf hc (hget x (by simp [opList]))) (by simp [execOp,resolve,invoke,builtin,hey]) hn
    ·rename_i ui s0 hlu hy
     rw [hargs _ h1] at hget ⊢
     rw [htys _ h2]
     have hvy:=hget y (by simp [opList])
     rw [hy] at hvy
     generalize hey:a.eval y=vy at hvy
     cases hvy
     exact did_wp (appendS_did (ty':=type) hT hrel hl hlu h hf hc (hget x (by simp [opList]))) (by simp [execOp,resolve,invoke,builtin,hey]) hn
  ·-- cap
   split at h <;> try exact (fX h).elim
   rename_i x t h1 h2
   split at h <;> try exact (fX h).elim
   rename_i ti hl hx
   rw [hargs _ h1] at hget ⊢
   rw [htys _ h2]
   have hvx:=hget x (by simp [opList])
   rw [hx] at hvx
   generalize hex:a.eval x=vx at hvx
   cases hvx
   obtain ⟨i,z,hi,hsz,hz,hoz,ha,hd,_,_⟩:=hT.info hl
   obtain ⟨el,ei,_,_,hel,hei,_,_,_⟩:=td_slice hd
   rw [b2_run h] at hn
   exact wp_value (w':=w) (by simp [execOp,resolve,invoke,builtin,hex,Builtin.cap_,run_underlying hel,goInt]) (hn g R w _ hrel (.int rfl))
  ·-- max
   split at h <;> try exact (fX h).elim
   rename_i x y h1
   split at h <;> try exact (fX h).elim
   rename_i k n l m hx hy
   split at h <;> try exact (fX h).elim
   rename_i hk
   obtain rfl:=kindEq_eq hk
   rw [hargs _ h1] at hget ⊢
   have hvx:=hget x (by simp [opList])
   have hvy:=hget y (by simp [opList])
   rw [hx] at hvx
   rw [hy] at hvy
   rw [b2_run h] at hn
   generalize hex:a.eval x=vx at hvx
   generalize hey:a.eval y=vy at hvy
   cases hvx with
   | int hwx =>
     cases hvy with
     | int hwy =>
       refine wp_value (w':=w) (v:=.int k (max n m)) ?_ (hn g R w _ hrel (.int ?_))
       ·simp only [execOp,resolve,invoke,builtin,Builtin.max_,List.map_toArray,List.map_cons,List.map_nil,hex,hey,Sem.run_bind,Sem.run_pure,Result.andThen_ok,List.foldlM_cons,List.foldlM_nil,Builtin.max2]
        congr 3
        split <;> omega
       ·rcases Int.le_total n m with h'|h'
        ·rw [Int.max_eq_right h'];exact hwy
        ·rw [Int.max_eq_left h'];exact hwx
  ·-- min
   split at h <;> try exact (fX h).elim
   rename_i x y h1
   split at h <;> try exact (fX h).elim
   rename_i k n l m hx hy
   split at h <;> try exact (fX h).elim
   rename_i hk
   obtain rfl:=kindEq_eq hk
   rw [hargs _ h1] at hget ⊢
   have hvx:=hget x (by simp [opList])
   have hvy:=hget y (by simp [opList])
   rw [hx] at hvx
   rw [hy] at hvy
   rw [b2_run h] at hn
   generalize hex:a.eval x=vx at hvx
   generalize hey:a.eval y=vy at hvy
   cases hvx with
   | int hwx =>
     cases hvy with
     | int hwy =>
       refine wp_value (w':=w) (v:=.int k (min n m)) ?_ (hn g R w _ hrel (.int ?_))
       ·simp only [execOp,resolve,invoke,builtin,Builtin.min_,List.map_toArray,List.map_cons,List.map_nil,hex,hey,Sem.run_bind,Sem.run_pure,Result.andThen_ok,List.foldlM_cons,List.foldlM_nil,Builtin.min2]
        congr 3
        split <;> omega
       ·rcases Int.le_total n m with h'|h'
        ·rw [Int.min_eq_left h'];exact hwx
        ·rw [Int.min_eq_right h'];exact hwy
  ·-- a function
   rename_i f
   split at h <;> try exact (fX h).elim
   rotate_left
   rotate_left
   ·rename_i r hfn
    exact absurd hfn (hny _ f r rfl rfl)
   rotate_left
   ·rename_i e hfn
    have hvf:=hget f (by simp [opList])
    rw [hfn] at hvf
    have hra:RelL g (fun r=>mem st.ks r=true) R w (args.toList.map st.get) (args.toList.map a.eval):=RelL_map fun x hx=>hget x (by simp only [opList];exact List.mem_cons_of_mem _ hx)
    generalize hef:a.eval f=vf at hvf
    cases hvf with
    | ext he =>
      obtain ⟨ff,first,cap,rfl,h1,h2⟩:=fn_did hT.1 hrel h he hra
      refine call_wp h2 ?_ hn
      simp only [execOp,resolve,hef,Deferred.ofValue,Sem.run_bind,Sem.run_pure,Result.andThen_ok,invoke,h1]
      congr 2
      apply Array.ext'
      simp
   rename_i n fs cs hfn
   have hvf:=hget f (by simp [opList])
   rw [hfn] at hvf
   generalize hef:a.eval f=vf at hvf
   cases hvf with
   | fn hfs hcs =>
     rename_i vs us
     have hra:RelL g (fun r=>mem st.ks r=true) R w (args.toList.map st.get) (args.toList.map a.eval):=RelL_map fun x hx=>hget x (by simp only [opList];exact List.mem_cons_of_mem _ hx)
     obtain ⟨h1,h2⟩:=evCall_sound hS hrel h hc hf (RelL_append hfs (RelL_append hra hcs))
     refine call_wp h1 ?_ hn
     simp only [execOp,resolve,hef,Deferred.ofValue,Sem.run_bind,Sem.run_pure,Result.andThen_ok,invoke,h2]
     congr 2
     apply Array.ext'
     simp
  ·exact (fX h).elim
 case makeMap t r =>
  simp only [evOp] at h
  split at h <;> try exact (fX h).elim
  rename_i ti hl
  exact did_wp (make_did hT hrel hl h hf) rfl hn
 case mapUpdate t m x y =>
  simp only [evOp] at h
  split at h <;> try exact (fX h).elim
  rename_i ti hl
  rw [evUpdK_eq] at h
  obtain ⟨hav,w',R',h1,h2⟩:=updX_did hT hS' hrel hl h hc (hget m (by simp [opList])) (hget x (by simp [opList])) (hget y (by simp [opList]))
  exact wp_skip' (w':=w') (by simp [execOp,h1]) (hn g R' w' undef h2 (by rw [hav];exact .junk))
 case insert t m x y =>
  simp only [evOp] at h
  split at h <;> try exact (fX h).elim
  rename_i ti hl
  rw [evUpdK_eq] at h
  obtain ⟨hav,w',R',h1,h2⟩:=updX_did hT hS' hrel hl h hc (hget m (by simp [opList])) (hget x (by simp [opList])) (hget y (by simp [opList]))
  exact wp_skip' (w':=w') (by simp [execOp,h1]) (hn g R' w' undef h2 (by rw [hav];exact .junk))
 case mapEntry t m x =>
  simp only [evOp] at h
  split at h <;> try exact (fX h).elim
  rename_i ti hl
  exact did_wp (entryP_did hT hrel hl h hf (hget m (by simp [opList])) (hget x (by simp [opList]))) (by simp [execOp]) hn
 case entryStore t m s y =>
  simp only [evOp] at h
  obtain ⟨hav,w',h1,h2⟩:=entryS_did (P:=P) (t:=t) hrel h (hget m (by simp [opList])) (hget s (by simp [opList])) (hget y (by simp [opList]))
  exact wp_skip' (w':=w') (by simp [execOp,h1]) (hn g R w' undef h2 (by rw [hav];exact .junk))
 case lookup t m x ok =>
  simp only [evOp] at h
  split at h <;> try exact (fX h).elim
  rename_i ti hl
  exact pure_wp hrel (lookup_sound hT held hl h hc (hget m (by simp [opList])) (hget x (by simp [opList]))) rfl hn
 all_goals (simp only [evOp] at h;exact (fX h).elim)
theorem decY_rel {K:Nat→Prop} {t:Ty} {two:Bool} {args:List AV} {vals:List Value} {x:t.El} (h:decY t two args=some x) (hr:RelL g K R w args vals):YArgs R w t two x vals:=by
 unfold decY at h
 split at h
 ·split at h <;> try (cases h;done)
  cases hr with
  | cons h1 h2 =>
    cases h2
    obtain ⟨us,h3,h4⟩:=decV_rel h h1
    unfold YArgs
    exact ⟨us,h3,by rw [h4]⟩
 ·split at h <;> try (cases h;done)
  split at h <;> try (cases h;done)
  rename_i ha hb
  cases h
  cases hr with
  | cons h1 h2 =>
    cases h2 with
    | cons h3 h4 =>
      cases h4
      obtain ⟨us,h5,h6⟩:=decV_rel ha h1
      obtain ⟨us',h7,h8⟩:=decV_rel hb h3
      exact ⟨us,us',h5,h7,by rw [h6,h8]⟩
theorem look_deadL:∀ {l:List Nat} {q:Nat} {o:AObj},look (deadL l) q=some o→mem l q=true∧o=.dead
 | [],_,_,h=>by simp [deadL,look] at h
 | k::l,q,o,h=>by
   simp only [deadL,look_cons] at h
   by_cases hk:k=q
   ·simp [hk] at h
    exact ⟨by simp [mem_cons,hk],h.symm⟩
   ·simp [hk] at h
    obtain ⟨h1,h2⟩:=look_deadL h
    exact ⟨by simp [mem_cons,h1],h2⟩
theorem deadL_look:∀ {l:List Nat} {q:Nat},mem l q=true→look (deadL l) q=some .dead
 | [],_,h=>by simp [mem] at h
 | k::l,q,h=>by
   simp only [deadL,look_cons]
   by_cases hk:k=q
   ·simp [hk]
   ·rw [mem_cons] at h
    simp [hk] at h ⊢
    exact deadL_look h
def OwnsOf (rows:List (Nat × AObj)) (l:List Nat):Prop:=∀ q,mem l q=true→∃ t xs,look rows q=some (.seq t xs)
def seenR (g:Nat→Gh) (w:World) (R:Nat→Prop) (rows:List (Nat × AObj)) (l:List Nat):Nat→Prop:=fun b=>R b∨∃ q o,mem l q=true∧look rows q=some o∧Own g w q o b
theorem seeA_sound (hrel:Rel C g R st a w) {x y:AV} {v:Value} {li rd:List Nat} (h:(seeA x).run (look st.rows) li=some (y,rd)) (hx:RelV g (fun r=>mem st.ks r=true) R w x v) {l:List Nat} (hl:∀ r,x=.own r→mem l r=true) :
 RelV g (fun r=>mem st.ks r=true) (seenR g w R st.rows l) w y v∧∀ r,x=.own r→∃ t xs,look st.rows r=some (.seq t xs):=by
 unfold seeA at h
 split at h
 ·rename_i r
  simp only [RQ.run] at h
  split at h <;> try (cases h;done)
  rename_i o ho
  split at h <;> try exact (fX h).elim
  rename_i t xs
  rw [ret_run h]
  cases hx with
  | own hk h1=>exact ⟨.sl (reads_of_elem (hrel.heap.held _ _ ho) (fun _ h=>.inl h) (fun b hb=>.inr ⟨r,_,hl r rfl,ho,hb⟩)),fun r' e=>by cases e;exact ⟨t,xs,ho⟩⟩
 ·rename_i hne
  rw [ret_run h]
  exact ⟨RelV_weaken (fun _ h=>h) (fun _ h=>.inl h) hx,fun r e=>absurd e (hne r)⟩
theorem seeC_sound (hrel:Rel C g R st a w):∀ {cs ds:List AV} {vs:List Value} {li rd l:List Nat},(seeC cs).run (look st.rows) li=some (ds,rd)→RelL g (fun r=>mem st.ks r=true) R w cs vs→(∀ q,mem (ownC cs) q=true→mem l q=true) →
 RelL g (fun r=>mem st.ks r=true) (seenR g w R st.rows l) w ds vs∧OwnsOf st.rows (ownC cs)
 | [],ds,vs,li,rd,l,h,hr,_=>by simp only [seeC] at h;rw [ret_run h];cases hr;exact ⟨.nil,fun q hq=>by simp [ownC,mem] at hq⟩
 | c::cs,ds,vs,li,rd,l,h,hr,hl=>by
   cases hr with
   | cons h1 h2 =>
     simp only [seeC] at h
     rw [run_bind] at h
     split at h <;> try (cases h;done)
     rename_i c' l' hc
     rw [run_bind] at h
     split at h <;> try (cases h;done)
     rename_i cs' l'' hcs
     rw [ret_run h]
     have hsub:∀ q,mem (ownC cs) q=true→mem (ownC (c::cs)) q=true:=fun q hq=>by
      cases c <;> simp only [ownC] <;> first|exact hq|(rw [mem_cons,hq];simp)
     obtain ⟨k1,k2⟩:=seeA_sound hrel hc h1 (l:=l) (fun r e=>by subst e;exact hl r (by simp [ownC,mem_cons]))
     obtain ⟨k3,k4⟩:=seeC_sound hrel hcs h2 (fun q hq=>hl q (hsub q hq))
     refine ⟨.cons k1 k3,fun q hq=>?_⟩
     by_cases hm:mem (ownC cs) q=true
     ·exact k4 q hm
     ·cases c with
      | own r =>
        simp only [ownC,mem_cons,Bool.or_eq_true,decide_eq_true_eq] at hq
        rcases hq with rfl|hq
        ·exact k2 r rfl
        ·exact absurd hq hm
      | _=>exact absurd hq hm
theorem seeL_sound (hrel:Rel C g R st a w):∀ {cs ds:List AV} {vs:List Value} {li rd l:List Nat},(seeL cs).run (look st.rows) li=some (ds,rd)→RelL g (fun r=>mem st.ks r=true) R w cs vs→(∀ q,mem (ownL cs) q=true→mem l q=true) →
 RelL g (fun r=>mem st.ks r=true) (seenR g w R st.rows l) w ds vs∧OwnsOf st.rows (ownL cs)
 | [],ds,vs,li,rd,l,h,hr,_=>by simp only [seeL] at h;rw [ret_run h];cases hr;exact ⟨.nil,fun q hq=>by simp [ownL,mem] at hq⟩
 | c::cs,ds,vs,li,rd,l,h,hr,hl=>by
   cases hr with
   | cons h1 h2 =>
     unfold seeL at h
     split at h
     ·rename_i heq;cases heq
     ·rename_i xs r heq
      cases heq
      rw [run_bind] at h
      split at h <;> try (cases h;done)
      rename_i c' l' hc
      rw [run_bind] at h
      split at h <;> try (cases h;done)
      rename_i cs' l'' hcs
      rw [ret_run h]
      cases h1 with
      | agg h1 =>
        obtain ⟨k1,k2⟩:=seeC_sound hrel hc h1 (fun q hq=>hl q (by simp only [ownL,mem_appK,hq,Bool.true_or]))
        obtain ⟨k3,k4⟩:=seeL_sound hrel hcs h2 (fun q hq=>hl q (by simp only [ownL,mem_appK,hq,Bool.or_true]))
        refine ⟨.cons (.agg k1) k3,fun q hq=>?_⟩
        simp only [ownL,mem_appK,Bool.or_eq_true] at hq
        exact hq.elim (k2 q) (k4 q)
     ·rename_i hne heq
      cases heq
      rw [run_bind] at h
      split at h <;> try (cases h;done)
      rename_i c' l' hc
      rw [run_bind] at h
      split at h <;> try (cases h;done)
      rename_i cs' l'' hcs
      rw [ret_run h]
      have hsub:∀ q,mem (ownL cs) q=true→mem (ownL (c::cs)) q=true:=fun q hq=>by
       cases c <;> simp only [ownL] <;> first|exact hq|(rw [mem_cons,hq];simp)|(rw [mem_appK,hq];simp)
      obtain ⟨k1,k2⟩:=seeA_sound hrel hc h1 (l:=l) (fun r e=>by subst e;exact hl r (by simp [ownL,mem_cons]))
      obtain ⟨k3,k4⟩:=seeL_sound hrel hcs h2 (fun q hq=>hl q (hsub q hq))
      refine ⟨.cons k1 k3,fun q hq=>?_⟩
      by_cases hm:mem (ownL cs) q=true
      ·exact k4 q hm
      ·cases c with
       | own r =>
         simp only [ownL,mem_cons,Bool.or_eq_true,decide_eq_true_eq] at hq
         rcases hq with rfl|hq
         ·exact k2 r rfl
         ·exact absurd hq hm
       | agg xs=>exact absurd rfl (hne xs)
       | _=>exact absurd hq hm
theorem yield_in {ro:Option Nat} (hP:P=PG) (hrel:Rel C g R st a w) {o:Oper} {c:Call} {f:Operand} (ho:o.op=.call c) (hcf:c.callee=.value f) {d r:Nat} {res:Res} {rd li:List Nat} (hf:st.get f=.own r)
 (h:(evYield d r (c.args.toList.map st.get)).run (look st.rows) li=some (res,rd)) (hc:∀ p∈res.conds,p) (hfr:freshAll st.ks res.new=true)
 (hget:∀ x∈opList o.op,RelV g (fun r=>mem st.ks r=true) R w (st.get x) (a.eval x)) (hn:Next1 C st a res o.dst next):o.wpIn (FR ro) 0 P a w next Q:=by
 subst hP
 obtain ⟨dst,op,type,pos,after,guard⟩:=o
 obtain ⟨callee,args,argTypes⟩:=c
 dsimp only at ho hcf h hget hn
 subst ho
 subst hcf
 have hvf:=hget f (by simp [opList])
 rw [hf] at hvf
 have hra:RelL g (fun r=>mem st.ks r=true) R w (args.toList.map st.get) (args.toList.map a.eval):=RelL_map fun x hx=>hget x (by simp only [opList];exact List.mem_cons_of_mem _ hx)
 generalize hef:a.eval f=vf at hvf
 unfold evYield at h
 simp only [RQ.run] at h
 split at h <;> try (cases h;done)
 rename_i o1 hr1
 split at h <;> try exact (fX h).elim
 rename_i k
 simp only [RQ.run] at h
 split at h <;> try (cases h;done)
 rename_i o2 hk1
 split at h <;> try exact (fX h).elim
 rename_i t two Y p
 rw [run_bind] at h
 split at h <;> try (cases h;done)
 rename_i args' l1 hsee
 split at h <;> try exact (fX h).elim
 rename_i x hx hrk
 have hrk:=beq_ne hrk
 rw [ret_run h] at hc hfr hn
 obtain ⟨ow,how⟩:∃ ow,ow=ownL (args.toList.map st.get):=⟨_,rfl⟩
 rw [← how] at hn
 obtain ⟨hrs,hos⟩:=seeL_sound hrel hsee hra (l:=ow) (fun q hq=>by rw [how];exact hq)
 rw [← how] at hos
 obtain ⟨Rs,hRs⟩:∃ Rs,Rs=seenR g w R st.rows ow:=⟨_,rfl⟩
 rw [← hRs] at hrs
 have hRsub:∀ b,R b→Rs b:=fun b h=>by rw [hRs];exact .inl h
 have hRsd:∀ b,Rs b→R b∨∃ q o,mem ow q=true∧look st.rows q=some o∧Own g w q o b:=fun b h=>by rw [hRs] at h;exact h
 have hyp:=hrel.heap.held _ _ hr1
 have hyl:=hrel.heap.held _ _ hk1
 obtain ⟨hKk,hgv⟩:=hyp
 obtain ⟨hlaw,hJ⟩:=hyl
 have hkow:mem ow k=false:=by
  cases hm:mem ow k with
  | false=>rfl
  | true=>obtain ⟨t',xs',h1⟩:=hos k hm;rw [hk1] at h1;cases h1
 have hrow:mem ow r=false:=by
  cases hm:mem ow r with
  | false=>rfl
  | true=>obtain ⟨t',xs',h1⟩:=hos r hm;rw [hr1] at h1;cases h1
 cases hvf with
 | own hKr _ =>
   have hargs:=decY_rel hx hrs
   have hO:∀ b,VHas (g k).v b→¬ Rs b:=fun b hb hR=>by
    rcases hRsd b hR with h1|⟨q,o,h1,h2,h3⟩
    ·exact (hrel.heap.own k _ b hk1 hb).1 h1
    ·have:=hrel.heap.sep k q _ o b hk1 h2 hb h3
     subst this
     rw [hkow] at h1;cases h1
   have hRlt:∀ b,Rs b→b < w.heap.size:=fun b hR=>by
    rcases hRsd b hR with h1|⟨q,o,h1,h2,h3⟩
    ·exact hrel.heap.rlt b h1
    ·exact Own_lt (hrel.heap.held q o h2) h3
   have hJ':Y.J p (VHas (g k).v) Rs w:=hlaw.mono hRsub (fun _ _=>rfl) (fun _ _=>rfl) (SameW.refl w) hJ
   obtain ⟨fn,tmps,assign,body,hy,hround⟩:=hlaw.call ro hJ' (hc _ (List.mem_singleton.2 rfl)) hO hRlt hargs
   have hfr':=freshAll_spec hfr
   have hd:mem st.ks d=false∧d < 100000:=hfr' d (by simp [mem])
   have hexec:(execOp a.eval ({ dst:=dst,op:=.call { callee:=.value f,args:=args,argTypes:=argTypes },type:=type,pos:=pos,after:=after,guard:=guard }:Oper)).run PG w=.ok (.round (g k).b fn tmps assign body) w:=by
    simp only [execOp,resolve,hef,hgv,Deferred.ofValue,Sem.run_bind,Sem.run_pure,Result.andThen_ok,invoke]
    have e:(#[]++Array.map a.eval args++#[]:Array Value)=(args.toList.map a.eval).toArray:=by
     apply Array.ext';simp
    first
     | (rw [e];simpa using hy)
     | (simp only [Array.empty_append,Array.append_empty,map_arr];simpa using hy)
     | (simpa using hy)
   refine ⟨fun _ _=>trivial,?_⟩
   rw [show (FR ro).round=ro from rfl,Oper.semAt_eq _ _ _ (fun c e=>by cases e),hexec,Oper.uponIn_round]
   refine ⟨fun hh=>absurd hh (by simp [Fence.wide]),hround.mono ?_⟩
   rintro e w' ⟨rfl,O',hJ',hoff,hext,hw,hkeep⟩
   obtain ⟨v',hv'⟩:=VHas_of O' w'.heap.size (fun b hb=>hlaw.lt hJ' hb)
   have hvO:VHas v'=O':=funext fun b=>propext (hv' b)
   obtain ⟨g',hg'⟩:∃ g',g'=updG g d ⟨(g k).b,v'⟩:=⟨_,rfl⟩
   have hgo:∀ r,mem st.ks r=true→g' r=g r:=fun r hr=>by rw [hg',updG_other];intro e;rw [e,hd.1] at hr;cases hr
   have hgd:g' d=⟨(g k).b,v'⟩:=by rw [hg',updG_same]
   have hdr:d≠r:=fun e=>by subst e;have h5:=hrel.heap.keys _ _ hr1;have h6:=hd.1;rw [h5] at h6;cases h6
   have hdk:d≠k:=fun e=>by subst e;have h5:=hrel.heap.keys _ _ hk1;have h6:=hd.1;rw [h5] at h6;cases h6
   have hdo:mem ow d=false:=by
    cases hm:mem ow d with
    | false=>rfl
    | true=>obtain ⟨t',xs',h1⟩:=hos d hm;have h5:=hrel.heap.keys _ _ h1;have h6:=hd.1;rw [h5] at h6;cases h6
   obtain ⟨upd,hupd⟩:∃ upd,upd=(r,AObj.yp d)::(d,.yld t two Y (p++[x]))::(k,.dead)::deadL ow:=⟨_,rfl⟩
   rw [← hupd] at hn
   have hcases:∀ q o,look upd q=some o→(q=r∧o=.yp d)∨(q=d∧o=.yld t two Y (p++[x]))∨((q=k∨mem ow q=true)∧o=.dead):=fun q o hq=>by
    rw [hupd] at hq
    simp only [look_cons] at hq
    split at hq
    ·rename_i e;exact .inl ⟨e.symm,by simpa using hq.symm⟩
    ·split at hq
     ·rename_i e;exact .inr (.inl ⟨e.symm,by simpa using hq.symm⟩)
     ·split at hq
      ·rename_i e;exact .inr (.inr ⟨.inl e.symm,by simpa using hq.symm⟩)
      ·obtain ⟨h1,h2⟩:=look_deadL hq
       exact .inr (.inr ⟨.inr h1,h2⟩)
   have hOwn:∀ q o b,look upd q=some o→Own g' w' q o b→q=d∧O' b:=fun q o b hq hb=>by
    rcases hcases q o hq with ⟨rfl,rfl⟩|⟨rfl,rfl⟩|⟨_,rfl⟩
    ·simp [Own] at hb
    ·refine ⟨rfl,?_⟩
     simp only [Own,hgd] at hb
     exact (hv' b).1 hb
    ·simp [Own] at hb
   have gen:=hrel.heap.gen (g':=g') (R':=Rs) (w':=w') upd [d] (fun q=>q=k∨mem ow q=true)
    (fun q hq=>by rw [(hfr' q hq).1];exact ⟨by simp,(hfr' q hq).2⟩)
    (fun q o hq=>by
     rcases hcases q o hq with ⟨rfl,_⟩|⟨rfl,_⟩|⟨h1,_⟩
     ·exact .inl (hrel.heap.keys _ _ hr1)
     ·exact .inr (by simp [mem])
     ·rcases h1 with rfl|h1
      ·exact .inl (hrel.heap.keys _ _ hk1)
      ·obtain ⟨t',xs',h2⟩:=hos q h1
       exact .inl (hrel.heap.keys _ _ h2))
    (fun q hq=>by
     rcases hq with rfl|hq
     ·exact ⟨.dead,by rw [hupd];simp [look_cons,hrk,hdk]⟩
     ·refine ⟨.dead,?_⟩
      have h1:r≠q:=fun e=>by subst e;rw [hrow] at hq;cases hq
      have h2:d≠q:=fun e=>by subst e;rw [hdo] at hq;cases hq
      have h3:k≠q:=fun e=>by subst e;rw [hkow] at hq;cases hq
      rw [hupd]
      simp only [look_cons,h1,h2,h3,if_false]
      exact deadL_look hq)
    hw.1 hw.2.1 hw.2.2.1 hw.2.2.2
    (fun b hb=>by
     by_cases h:VHas (g k).v b
     ·exact .inr ⟨k,_,.inl rfl,hk1,h⟩
     ·exact .inl (hkeep b hb h))
    hgo hRsub (fun b hb=>Nat.lt_of_lt_of_le (hRlt b hb) hw.2.2.2)
    (fun b hb=>by
     rcases hRsd b hb with h1|⟨q,o,h1,h2,h3⟩
     ·exact .inl h1
     ·exact .inr (.inr ⟨q,o,.inr h1,h2,h3⟩))
    (fun q o hq=>by
     rcases hcases q o hq with ⟨rfl,rfl⟩|⟨rfl,rfl⟩|⟨_,rfl⟩
     ·exact ⟨.inr (by simp [mem]),by rw [hgo _ (hrel.heap.keys _ _ hr1),hgd];exact hgv⟩
     ·show YLaw two Y (g' q).b∧Y.J (p++[x]) (VHas (g' q).v) Rs w'
      rw [hgd,hvO]
      exact ⟨hlaw,hJ'⟩
     ·trivial)
    (fun q o b hq hb=>by
     obtain ⟨_,hb'⟩:=hOwn q o b hq hb
     refine ⟨hoff b hb',?_⟩
     rcases hext b hb' with h|h
     ·exact .inr ⟨k,_,.inl rfl,hk1,h⟩
     ·exact .inl h)
    (fun q q' o o' b h1 h2 h3 h4=>by rw [(hOwn q o b h1 h3).1,(hOwn q' o' b h2 h4).1])
   exact hn g' Rs w' _ (hrel.gen hgo (fun q hq=>by rw [mem_appK,hq];simp) hRsub ⟨gen.1.lists,gen.2⟩) .bool
theorem evOp_in {ro:Option Nat} (hT:TTok P tt) (hS:SigOk P S) {o:Oper} (hnd:notDefer o.op=true) (hrel:Rel C g R st a w) {d:Nat} {res:Res} {rd:List Nat} (h:(evOp tt S st.get d o.op).run (look st.rows) []=some (res,rd)) (hc:∀ p∈res.conds,p)
 (hf:freshAll st.ks res.new=true) (hget:∀ x∈opList o.op,RelV g (fun r=>mem st.ks r=true) R w (st.get x) (a.eval x))
 (hpick:∀ c x y,o.op=.pick c x y→RelV g (fun r=>mem st.ks r=true) R w (st.get c) (a.eval c)∧∀ b,a.eval c=.bool b→RelV g (fun r=>mem st.ks r=true) R w (st.get (if b then x else y)) (a.eval (if b then x else y)))
 (hn:Next1 C st a res o.dst next):o.wpIn (FR ro) 0 P a w next Q:=by
 by_cases hy:∃ c f r,o.op=.call c∧c.callee=.value f∧st.get f=.own r
 ·obtain ⟨c,f,r,h1,h2,h3⟩:=hy
  have h':(evYield d r (c.args.toList.map st.get)).run (look st.rows) []=some (res,rd):=by
   rw [h1] at h
   obtain ⟨callee,args,argTypes⟩:=c
   dsimp only at h2
   subst h2
   simp only [evOp,h3] at h
   exact h
  exact yield_in hT.1 hrel h1 h2 h3 h' hc hf hget hn
 ·exact opFR (evOp_sound hT hS hrel h hc hf hget hpick hn (fun c f r h1 h2 h3=>hy ⟨c,f,r,h1,h2,h3⟩)) hnd
end
theorem underK_eq {β:Type} {st:St}:∀ (p:List (Nat × Bool)) (c:Prop) (k:Prop→β),underK st p c k=k (underP st p c)
 | [],_,_=>rfl
 | (t,w)::r,c,k=>by
   simp only [underK,underP]
   split
   ·rename_i b h1 h2;rw [underK_eq r]
   ·rename_i h
    rw [underK_eq r]
theorem mapUnderK_eq {β:Type} {st:St} {p:List (Nat × Bool)}:∀ (l:List Prop) (k:List Prop→β),mapUnderK st p l k=k (mapUnder st p l)
 | [],_=>rfl
 | c::r,k=>by simp only [mapUnderK,mapUnder];rw [underK_eq,mapUnderK_eq r]
structure StepS (tt:TT) (S:Nat→Option Spec) (ops:List Oper) (o:Oper) (st:St) (cs:List Prop) (st':St) (tr:Tr):Prop where
 out:∃ p cs0 av upd new rd,st.pathAt ops o.guard=some p∧opsOk st p o.op=true∧(evAt tt S (litNo tt.2.2 st p) st.get o.op o.dst).run (look st.rows) []=some (⟨cs0,av,upd,new⟩,rd)∧freshAll st.ks new=true∧tr=⟨rd,appK new (keysOf upd)⟩ ∧
  (((p=[]∨(litAll st p=true∧o.dst≠none))∧cs=cs0∧((o.dst=none∧st'=⟨st.n,st.slots,st.gt,appK new st.ks,addRows upd st.rows⟩) ∨
    ∃ d,o.dst=some d∧mem st.gt d=false∧d < st.n∧st'=⟨st.n,(d,⟨[],av⟩)::st.slots,st.gt,appK new st.ks,addRows upd st.rows⟩)) ∨
   (p≠[]∧allIn (appK new st.ks) (keysOf upd)=true∧∃ d,o.dst=some d∧mem (gtOf p st.gt) d=false∧d < st.n∧cs=mapUnder st p cs0∧st'=⟨st.n,(d,⟨p,av⟩)::st.slots,gtOf p st.gt,appK new st.ks,addRows (deads upd) st.rows⟩))
theorem stepO_spec {β:Type} {tt:TT} {S:Nat→Option Spec} {ops:List Oper} {o:Oper} {st:St} {k:List Prop→St→Tr→Option β} {y:β} (h:stepO tt S ops o st k=some y) :
 ∃ cs st' tr,StepS tt S ops o st cs st' tr∧k cs st' tr=some y:=by
 unfold stepO at h
 split at h
 ·cases h
 ·rename_i p hp
  simp only [forceL_eq] at h
  split at h <;> try (cases h;done)
  rename_i cs0 av upd new rd hok hev
  simp only [forceV_eq,forceR_eq,forceL_eq,mapUnderK_eq] at h
  obtain ⟨n,slots,gt,ks,rows⟩:=st
  dsimp only at h hev
  split at h
  ·rename_i hfr
   split at h
   ·rename_i hd
    exact ⟨_,_,_,⟨[],cs0,av,_,new,rd,hp,hok,hev,hfr,rfl,.inl ⟨.inl rfl,rfl,.inl ⟨hd,rfl⟩⟩⟩,h⟩
   ·rename_i d hd
    split at h <;> try (cases h;done)
    rename_i h1 h2
    exact ⟨_,_,_,⟨[],cs0,av,_,new,rd,hp,hok,hev,hfr,rfl,.inl ⟨.inl rfl,rfl,.inr ⟨d,hd,h1,by simpa using h2,rfl⟩⟩⟩,h⟩
  ·rename_i q qs hfr
   split at h
   ·split at h <;> try (cases h;done)
    rename_i d hlit hd _ _ h1 h2
    refine ⟨_,_,_,⟨_,cs0,av,_,_,rd,hp,hok,hev,hfr,rfl,.inl ⟨.inr ⟨?_,by simp [hd]⟩,rfl,.inr ⟨d,hd,h1,by simpa using h2,rfl⟩⟩⟩,h⟩
    unfold litYes at hlit
    split at hlit
    ·exact hlit
    ·cases hlit
   split at h
   ·split at h <;> try (cases h;done)
    rename_i d hd hin
    split at h <;> try (cases h;done)
    rename_i h1 h2
    exact ⟨_,_,_,⟨_,cs0,av,_,_,rd,hp,hok,hev,hfr,rfl,.inr ⟨by simp,hin,d,hd,h1,by simpa using h2,rfl,rfl⟩⟩,h⟩
   ·split at h <;> try (cases h;done)
    rename_i d hlit hd
    split at h <;> try (cases h;done)
    rename_i h1 h2
    exact ⟨_,_,_,⟨_,cs0,av,_,_,rd,hp,hok,hev,hfr,rfl,.inl ⟨.inr ⟨hlit,by simp [hd]⟩,rfl,.inr ⟨d,hd,h1,by simpa using h2,rfl⟩⟩⟩,h⟩
  ·cases h
theorem pathEq_spec:∀ {p q:List (Nat × Bool)},pathEq p q=true→p=q
 | [],[],_=>rfl
 | [],_::_,h=>by simp [pathEq] at h
 | _::_,[],h=>by simp [pathEq] at h
 | (a,x)::r,(b,y)::s,h=>by
   simp only [pathEq] at h
   split at h
   ·rename_i h1 h2
    rw [beq_eq h1,pathEq_spec h]
    simp at h2
    rw [h2]
   ·cases h
theorem isTail_spec {p:List (Nat × Bool)}:∀ {q:List (Nat × Bool)},isTail p q=true→∀ x∈p,x∈q
 | [],h=>by simp only [isTail] at h;rw [pathEq_spec h];simp
 | y::q,h=>by
   simp only [isTail] at h
   split at h
   ·rename_i h1;rw [pathEq_spec h1];exact fun x hx=>hx
   ·exact fun x hx=>List.mem_cons_of_mem _ (isTail_spec h x hx)
theorem PathC.tail {a:Act} {p q:List (Nat × Bool)} (h:PathC a q) (ht:isTail p q=true):PathC a p:=fun t x hx=>h t x (isTail_spec ht _ hx)
theorem getD_of {a:Act} {t:Nat} {v:Value} (h:a.tmps[t]?=some v):a.tmps.getD t undef=v:=by
 rw [Array.getD_eq_getD_getElem?,h];rfl
theorem of_getD {a:Act} {t:Nat} {b:Bool} (h:a.tmps.getD t undef=.bool b):a.tmps[t]?=some (.bool b):=by
 rw [Array.getD_eq_getD_getElem?] at h
 cases hx:a.tmps[t]? with
 | none=>rw [hx] at h;simp [undef] at h
 | some v=>rw [hx] at h;simpa using h
def constOk:Operand→Prop
 | .const (.int k n)=>k.wrap n=n
 | .const (.string s)=>s.size≤maxLen
 | _=>True
section
variable {P:Program} {C:Ctx} {g:Nat→Gh} {R:Nat→Prop} {st:St} {a:Act} {w:World} {tt:TT} {S:Nat→Option Spec}
variable {next:Act→World→Prop} {Q:Exit→Act→World→Prop}
theorem get_rel (hrel:Rel C g R st a w) {x:Operand} (hc:constOk x) (hp:PathC a (st.pathOf x)):RelV g (fun r=>mem st.ks r=true) R w (st.get x) (a.eval x):=by
 cases x with
 | tmp t =>
   simp only [St.get,St.pathOf,Act.eval,St.ent] at hp ⊢
   cases hl:look st.slots t with
   | none=>exact .junk
   | some e =>
     rw [hl] at hp
     obtain ⟨v,h1,h2⟩:=(hrel.slots t e hl).1 hp
     rw [getD_of h1]
     exact h2
 | const v =>
   simp only [St.get,Act.eval]
   unfold ofConst
   split <;> first
    | exact .junk
    | exact .int hc
    | exact .bool
    | exact .str hc
    | exact .nilsl
    | exact .nilptr
    | exact .nilfn
    | exact .ext (show RelX R w .nilm (.map none) from rfl)
 | global n=>exact .junk
 | func f=>exact .fn .nil .nil
theorem allTail_spec {p:List (Nat × Bool)}:∀ {l:List Operand},allTail st p l=true→∀ x∈l,isTail (st.pathOf x) p=true
 | [],_=>by simp
 | y::l,h=>by
   simp only [allTail] at h
   split at h
   ·rename_i h1
    intro x hx
    rcases List.mem_cons.1 hx with rfl|hx
    ·exact h1
    ·exact allTail_spec h x hx
   ·cases h
theorem opsOk_spec {p:List (Nat × Bool)} {op:Op} (h:opsOk st p op=true) :
 (∀ x∈opList op,isTail (st.pathOf x) p=true)∧(∀ c x y,op=.pick c x y→∃ t,c=.tmp t∧isTail (st.pathOf c) p=true∧isTail (st.pathOf x) ((t,true)::p)=true∧isTail (st.pathOf y) ((t,false)::p)=true):=by
 unfold opsOk at h
 split at h
 ·split at h <;> try (cases h;done)
  rename_i h1 h2 h3
  refine ⟨fun z hz=>by simp [opList] at hz,fun c' x' y' e=>?_⟩
  injection e with e1 e2 e3
  subst e1 e2 e3
  exact ⟨_,rfl,h1,h2,h3⟩
 ·cases h
 ·rename_i hn1 hn2
  refine ⟨allTail_spec h,fun c x y e=>?_⟩
  subst e
  cases c with
  | tmp t=>exact absurd rfl (hn1 t x y)
  | _=>exact absurd rfl (hn2 _ x y)
theorem wanted_iff (hrel:Rel C g R st a w) {ops:List Oper} {o:Oper} {p:List (Nat × Bool)} (hp:st.pathAt ops o.guard=some p):Region.wanted o (yielded ops.toArray a.tmps)=true↔PathC a p:=by
 unfold St.pathAt at hp
 unfold Region.wanted
 split at hp
 ·rename_i hg
  cases hp
  rw [hg]
  exact ⟨fun _ t x h=>by simp at h,fun _=>rfl⟩
 ·rename_i j want hg
  rw [hg]
  split at hp <;> try (cases hp;done)
  rename_i oj hj
  split at hp <;> try (cases hp;done)
  rename_i t ht
  split at hp <;> try (cases hp;done)
  rename_i b hb
  cases hp
  rw [nth_spec] at hj
  have hy:yielded ops.toArray a.tmps j=match a.tmps[t]? with|some (.bool b)=>some b|_=>none:=by
   unfold yielded
   simp only [List.getElem?_toArray,hj,Option.bind_some,ht]
   rfl
  have hent:∃ e,look st.slots t=some e:=by
   unfold St.ent at hb
   split at hb
   ·rename_i e he;exact ⟨e,he⟩
   ·cases hb
  obtain ⟨e,he⟩:=hent
  have hee:st.ent t=e:=by simp [St.ent,he]
  rw [hee]
  simp only [beq_iff_eq]
  rw [hy]
  constructor
  ·intro h
   have h1:a.tmps[t]?=some (.bool want):=by
    split at h
    ·rename_i b' hb';cases h;exact hb'
    ·cases h
   have h2:PathC a e.path:=Classical.byContradiction fun hn=>by
    have:=(hrel.slots t e he).2 hn
    rw [h1] at this
    simp [undef] at this
   intro u x hx
   rcases List.mem_cons.1 hx with hx|hx
   ·cases hx;exact h1
   ·exact h2 u x hx
  ·intro h
   rw [h t want (by simp)]
theorem underP_spec (hrel:Rel C g R st a w):∀ {p:List (Nat × Bool)} {c:Prop},underP st p c→PathC a p→c
 | [],_,h,_=>h
 | (t,x)::r,c,h,hp=>by
   simp only [underP] at h
   have h1:=underP_spec hrel h (fun u y hy=>hp u y (List.mem_cons_of_mem _ hy))
   split at h1
   ·rename_i b ht hb
    apply h1
    have hent:∃ e,look st.slots t=some e:=by
     unfold St.ent at hb
     split at hb
     ·rename_i e he;exact ⟨e,he⟩
     ·cases hb
    obtain ⟨e,he⟩:=hent
    have hee:st.ent t=e:=by simp [St.ent,he]
    rw [hee] at ht hb
    have hpr:PathC a r:=fun u y hy=>hp u y (List.mem_cons_of_mem _ hy)
    obtain ⟨v,h2,h3⟩:=(hrel.slots t e he).1 (hpr.tail ht)
    rw [hb] at h3
    cases h3
    have:=hp t x (by simp)
    rw [h2] at this
    simpa using this
   ·exact h1.elim
theorem mapUnder_spec (hrel:Rel C g R st a w) {p:List (Nat × Bool)} (hp:PathC a p):∀ {cs:List Prop},(∀ q∈mapUnder st p cs,q)→∀ q∈cs,q
 | [],_=>by simp
 | c::cs,h=>by
   intro q hq
   rcases List.mem_cons.1 hq with rfl|hq
   ·exact underP_spec hrel (h _ (by simp [mapUnder])) hp
   ·exact mapUnder_spec hrel hp (fun r hr=>h r (by simp only [mapUnder];exact List.mem_cons_of_mem _ hr)) q hq
theorem litAll_spec (hrel:Rel C g R st a w):∀ {p:List (Nat × Bool)},litAll st p=true→PathC a p
 | [],_=>fun t x h=>by simp at h
 | (t,x)::r,h=>by
   simp only [litAll] at h
   have key:∀ b,(st.ent t).av=.bool b→isTail (st.ent t).path r=true→PathC a r→b=x→PathC a ((t,x)::r):=fun b hb ht hpr hbx=>by
    have hent:∃ e,look st.slots t=some e:=by
     unfold St.ent at hb
     split at hb
     ·rename_i e he;exact ⟨e,he⟩
     ·cases hb
    obtain ⟨e,he⟩:=hent
    have hee:st.ent t=e:=by simp [St.ent,he]
    rw [hee] at ht hb
    obtain ⟨v,h2,h3⟩:=(hrel.slots t e he).1 (hpr.tail ht)
    rw [hb] at h3
    cases h3
    intro u y hy
    rcases List.mem_cons.1 hy with hy|hy
    ·cases hy;rw [← hbx];exact h2
    ·exact hpr u y hy
   split at h
   ·rename_i h1 h2;exact key true h2 h1 (litAll_spec hrel h) rfl
   ·rename_i h1 h2;exact key false h2 h1 (litAll_spec hrel h) rfl
   ·cases h
theorem litNo_spec {hs:List (Nat × Bool)} (hrel:Rel C g R st a w):∀ {p:List (Nat × Bool)},litNo hs st p=true→¬ PathC a p
 | [],h=>by simp [litNo] at h
 | (t,x)::r,h=>by
   intro hpc
   have hpr:PathC a r:=fun u y hy=>hpc u y (List.mem_cons_of_mem _ hy)
   have key:∀ b,(st.ent t).av=.bool b→isTail (st.ent t).path r=true→b≠x→False:=fun b hb ht hbx=>by
    have hent:∃ e,look st.slots t=some e:=by
     unfold St.ent at hb
     split at hb
     ·rename_i e he;exact ⟨e,he⟩
     ·cases hb
    obtain ⟨e,he⟩:=hent
    have hee:st.ent t=e:=by simp [St.ent,he]
    rw [hee] at ht hb
    obtain ⟨v,h2,h3⟩:=(hrel.slots t e he).1 (hpr.tail ht)
    rw [hb] at h3
    cases h3
    have:=hpc t x (by simp)
    rw [h2] at this
    simp at this
    exact hbx this
   simp only [litNo] at h
   split at h
   ·exact litNo_spec hrel h hpr
   ·split at h
    ·rename_i h1 h2;exact key true h2 h1 (by simp)
    ·rename_i h1 h2;exact key false h2 h1 (by simp)
    ·exact litNo_spec hrel h hpr
def operOk (o:Oper):Prop:=∀ x∈o.op.operands.toList,constOk x
theorem opList_sub {op:Op} {x:Operand} (h:x∈opList op):x∈op.operands.toList:=by
 cases op <;> simp only [opList] at h <;> simp_all [Op.operands]
 rename_i c
 unfold Call.operands
 split at h
 ·rename_i f hf
  rw [hf]
  simpa using h
 ·simp only [Array.mem_append]
  exact .inr (by simpa using h)
theorem gtOf_mem {p:List (Nat × Bool)} {gt:List Nat} {u:Nat} (h:mem gt u=true):mem (gtOf p gt) u=true:=by
 cases p with
 | nil=>exact h
 | cons x r=>obtain ⟨t,b⟩:=x;simp [gtOf,mem_cons,h]
theorem look_deads:∀ {l:List (Nat × AObj)} {r:Nat},look (deads l) r=(look l r).map fun _=>AObj.dead
 | [],_=>rfl
 | (k,o)::l,r=>by
   simp only [deads,look_cons]
   split
   ·rfl
   ·exact look_deads
theorem keysOf_mem:∀ {l:List (Nat × AObj)} {r:Nat} {o:AObj},look l r=some o→mem (keysOf l) r=true
 | [],_,_,h=>by simp [look] at h
 | (k,x)::l,r,o,h=>by
   simp only [keysOf,mem_cons]
   rw [look_cons] at h
   by_cases hk:k=r
   ·simp [hk]
   ·simp [hk] at h;simp [keysOf_mem h]
theorem allIn_mem {ks:List Nat}:∀ {l:List Nat} {r:Nat},allIn ks l=true→mem l r=true→mem ks r=true
 | [],_,_,h=>by simp [mem] at h
 | k::l,r,h,hr=>by
   simp only [allIn] at h
   split at h
   ·rename_i h1
    rw [mem_cons] at hr
    by_cases hk:k=r
    ·subst hk;exact h1
    ·simp [hk] at hr;exact allIn_mem h hr
   ·cases h
theorem look_dead {upd rows:List (Nat × AObj)} {r:Nat} {o:AObj} (h:look (addRows (deads upd) rows) r=some o):(o=.dead∧∃ o',look upd r=some o')∨(look upd r=none∧look rows r=some o):=by
 rw [look_addRows,look_deads] at h
 cases hu:look upd r with
 | none=>rw [hu] at h;exact .inr ⟨rfl,h⟩
 | some o'=>rw [hu] at h;simp at h;exact .inl ⟨h.symm,o',rfl⟩
theorem Rel_deads {n:Nat} {slots:List (Nat × Ent)} {gt ks:List Nat} {upd rows:List (Nat × AObj)} (h:Rel C g R ⟨n,slots,gt,ks,addRows upd rows⟩ a w):Rel C g R ⟨n,slots,gt,ks,addRows (deads upd) rows⟩ a w:=by
 have hh:=h.heap
 have hold:∀ r o,look upd r=none→look rows r=some o→look (addRows upd rows) r=some o:=fun r o h1 h2=>by rw [look_addRows,h1];exact h2
 refine ⟨h.size,h.defers,h.slots,h.gts,⟨hh.hsize,hh.os,hh.tape,hh.output,hh.frame,hh.rsub,hh.rlt,hh.rnew,hh.gfix,fun r o ho=>?_,fun r o ho=>?_,fun r o b ho hb=>?_,fun r r' o o' b h1 h2 h3 h4=>?_⟩⟩
 ·rcases look_dead ho with ⟨_,o',h1⟩|⟨h1,h2⟩
  ·exact hh.keys r o' (by show look (addRows upd rows) r=_;rw [look_addRows,h1])
  ·exact hh.keys r o (hold r o h1 h2)
 ·rcases look_dead ho with ⟨rfl,_⟩|⟨h1,h2⟩
  ·trivial
  ·exact hh.held r o (hold r o h1 h2)
 ·rcases look_dead ho with ⟨rfl,_⟩|⟨h1,h2⟩
  ·simp [Own] at hb
  ·exact hh.own r o b (hold r o h1 h2) hb
 ·rcases look_dead h1 with ⟨rfl,_⟩|⟨h5,h6⟩
  ·simp [Own] at h3
  ·rcases look_dead h2 with ⟨rfl,_⟩|⟨h7,h8⟩
   ·simp [Own] at h4
   ·exact hh.sep r r' o o' b (hold _ _ h5 h6) (hold _ _ h7 h8) h3 h4
theorem Rel_not (h:Rel C g R st a w) {new:List Nat} {upd:List (Nat × AObj)} (hf:freshAll st.ks new=true) (hin:allIn (appK new st.ks) (keysOf upd)=true):Rel C g R ⟨st.n,st.slots,st.gt,appK new st.ks,addRows (deads upd) st.rows⟩ a w:=by
 have hh:=h.heap
 have hK:∀ r,mem st.ks r=true→mem (appK new st.ks) r=true:=fun r hr=>by rw [mem_appK,hr];simp
 refine h.gen (g':=g) (R':=R) (fun _ _=>rfl) hK (fun _ h=>h) ⟨⟨hh.hsize,hh.os,hh.tape,hh.output,hh.frame,hh.rsub,hh.rlt,hh.rnew,fun r hr hk=>?_,fun r o ho=>?_,fun r o ho=>?_,fun r o b ho hb=>?_,fun r r' o o' b h1 h2 h3 h4=>?_⟩,fun _ _=>rfl⟩
 ·rw [mem_appK] at hk
  simp only [Bool.or_eq_true] at hk
  rcases hk with hk|hk
  ·have:=(freshAll_spec hf r hk).2;omega
  ·exact hh.gfix r hr hk
 ·rcases look_dead ho with ⟨_,o',h1⟩|⟨h1,h2⟩
  ·exact allIn_mem hin (keysOf_mem h1)
  ·exact hK r (hh.keys r o h2)
 ·rcases look_dead ho with ⟨rfl,_⟩|⟨h1,h2⟩
  ·trivial
  ·exact RowH_mono (w:=w) (fun _ _=>rfl) rfl hK (fun _ h=>h) (fun _ _=>rfl) (fun _ _=>rfl) (SameW.refl w) (hh.held r o h2)
 ·rcases look_dead ho with ⟨rfl,_⟩|⟨h1,h2⟩
  ·simp [Own] at hb
  ·exact hh.own r o b h2 hb
 ·rcases look_dead h1 with ⟨rfl,_⟩|⟨h5,h6⟩
  ·simp [Own] at h3
  ·rcases look_dead h2 with ⟨rfl,_⟩|⟨h7,h8⟩
   ·simp [Own] at h4
   ·exact hh.sep r r' o o' b h6 h8 h3 h4
theorem stepS_sound {ro:Option Nat} (hT:TTok P tt) (hS:SigOk P S) {ops:List Oper} {o:Oper} {cs:List Prop} {st':St} {tr:Tr} (h:StepS tt S ops o st cs st' tr) (hok:operOk o) (hnd:notDefer o.op=true) (hrel:Rel C g R st a w) (hcs:∀ p∈cs,p)
 (hn:∀ g' R' a' w',Rel C g' R' st' a' w'→next a' w') :
 if Region.wanted o (yielded ops.toArray a.tmps)=true then o.wpIn (FR ro) 0 P a w next Q else next (a.put o.dst undef) w:=by
 obtain ⟨p,cs0,av,upd,new,rd,hp,hops,hev,hfr,_,hcase⟩:=h.out
 have hw:=wanted_iff hrel hp
 obtain ⟨ho1,ho2⟩:=opsOk_spec hops
 have hget:PathC a p→∀ x∈opList o.op,RelV g (fun r=>mem st.ks r=true) R w (st.get x) (a.eval x):=fun hpc x hx=>get_rel hrel (hok x (opList_sub hx)) (hpc.tail (ho1 x hx))
 have hpick:PathC a p→∀ c x y,o.op=.pick c x y→RelV g (fun r=>mem st.ks r=true) R w (st.get c) (a.eval c)∧∀ b,a.eval c=.bool b→RelV g (fun r=>mem st.ks r=true) R w (st.get (if b then x else y)) (a.eval (if b then x else y)):=fun hpc c x y e=>by
  obtain ⟨t,rfl,h1,h2,h3⟩:=ho2 c x y e
  have hk:∀ z∈[Operand.tmp t,x,y],constOk z:=fun z hz=>hok z (by rw [e];simpa [Op.operands] using hz)
  refine ⟨get_rel hrel (hk _ (by simp)) (hpc.tail h1),fun b hb=>?_⟩
  have hb':a.tmps[t]?=some (.bool b):=of_getD hb
  have hcons:PathC a ((t,b)::p):=fun u z hz=>by
   rcases List.mem_cons.1 hz with hz|hz
   ·cases hz;exact hb'
   ·exact hpc u z hz
  cases b
  ·simpa using get_rel hrel (hk y (by simp)) (hcons.tail h3)
  ·simpa using get_rel hrel (hk x (by simp)) (hcons.tail h2)
 have hev':PathC a p→(∀ q∈cs0,q)→∃ d cs1,(evOp tt S st.get d o.op).run (look st.rows) []=some (⟨cs1,av,upd,new⟩,rd)∧∀ q∈cs1,q:=fun hpc hc0=>by
  unfold evAt at hev
  split at hev
  ·rename_i hno;exact absurd hpc (litNo_spec hrel hno)
  ·split at hev
   ·rename_i d
    unfold pin at hev
    split at hev
    ·exact ⟨_,_,hev,hc0⟩
    ·rw [run_bind] at hev
     split at hev <;> try (cases hev;done)
     rename_i r l' hr
     obtain ⟨cs1,av1,upd1,new1⟩:=r
     unfold pinR at hev
     split at hev
     ·rename_i cs2 b upd2 new2 heq
      cases heq
      simp only [RQ.run] at hev
      cases hev
      have hb:b=_:=hc0 _ (List.mem_cons_self ..)
      exact ⟨_,_,hb ▸ hr,fun q hq=>hc0 q (List.mem_cons_of_mem _ hq)⟩
     ·simp only [RQ.run] at hev
      cases hev
      exact ⟨_,_,hr,hc0⟩
   ·exact ⟨_,_,hev,hc0⟩
 rcases hcase with ⟨hpl,rfl,hcase⟩|⟨hpne,hin,d,hd,hgt,hlt,rfl,rfl⟩
 ·have hpc:PathC a p:=by
   rcases hpl with rfl|⟨hl,_⟩
   ·exact fun t x h=>by simp at h
   ·exact litAll_spec hrel hl
  rw [if_pos (hw.2 hpc)]
  obtain ⟨d0,cs1,hev1,hcs1⟩:=hev' hpc hcs
  refine evOp_in (next:=next) hT hS hnd hrel hev1 hcs1 hfr (hget hpc) (hpick hpc) ?_
  intro g' R' w' v hrel' hv
  rcases hcase with ⟨hd,rfl⟩|⟨d,hd,hgt,hlt,rfl⟩
  ·rw [hd];exact hn g' R' a w' hrel'
  ·rw [hd]
   exact hn g' R' _ w' (hrel'.put d ⟨[],av⟩ v st.gt hlt hgt (fun _ h=>h) (fun u x h=>by simp at h) ⟨fun _=>hv,fun h=>absurd (fun t x h=>by simp at h) h⟩)
 ·have hsub:∀ u x,(u,x)∈p→mem (gtOf p st.gt) u=true∧u≠d:=fun u x hx=>by
   have hm:mem (gtOf p st.gt) u=true:=by
    unfold St.pathAt at hp
    split at hp
    ·cases hp;simp at hx
    ·split at hp <;> try (cases hp;done)
     split at hp <;> try (cases hp;done)
     rename_i t ht
     split at hp <;> try (cases hp;done)
     rename_i b hb
     cases hp
     rcases List.mem_cons.1 hx with hx|hx
     ·cases hx;simp [gtOf,mem_cons]
     ·refine gtOf_mem ?_
      unfold St.ent at hx hb
      split at hb
      ·rename_i e he
       simp only [he] at hx
       exact hrel.gts t e he u x hx
      ·cases hb
   exact ⟨hm,fun e=>by subst e;rw [hm] at hgt;cases hgt⟩
  have hgt':mem st.gt d=false:=by
   cases hm:mem st.gt d with
   | false=>rfl
   | true=>rw [gtOf_mem hm] at hgt;cases hgt
  by_cases hpc:PathC a p
  ·rw [if_pos (hw.2 hpc)]
   obtain ⟨d0,cs1,hev1,hcs1⟩:=hev' hpc (mapUnder_spec hrel hpc hcs)
   refine evOp_in (next:=next) hT hS hnd hrel hev1 hcs1 hfr (hget hpc) (hpick hpc) ?_
   intro g' R' w' v hrel' hv
   rw [hd]
   exact hn g' R' _ w' ((Rel_deads hrel').put d ⟨p,av⟩ v (gtOf p st.gt) hlt hgt' (fun _ h=>gtOf_mem h) hsub ⟨fun _=>hv,fun h=>absurd hpc h⟩)
  ·rw [if_neg (fun h=>hpc (hw.1 h)),hd]
   exact hn g R _ w ((Rel_not hrel hfr hin).put d ⟨p,av⟩ undef (gtOf p st.gt) hlt hgt' (fun _ h=>gtOf_mem h) hsub ⟨fun h=>absurd h hpc,fun _=>rfl⟩)
end
end Go.AM
end
