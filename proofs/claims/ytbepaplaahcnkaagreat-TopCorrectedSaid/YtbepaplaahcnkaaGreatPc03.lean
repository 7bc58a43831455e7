/- AmOps. -/
import Derived.Test.YtbepaplaahcnkaaGreatPc02
import Derived.Laws.StructEq

section
set_option linter.all false
namespace Go.AM
section
variable {P:Program} {o:Oper} {a:Act} {w w':World} {next:Act→World→Prop} {Q:Exit→Act→World→Prop} {v:Value}
theorem wp_value (h:(execOp a.eval o).run P w=.ok (.value v) w') (hn:next (a.put o.dst v) w'):o.wp P a w next Q:=by
 unfold Oper.wp;rw [h];exact hn
theorem wp_skip' (h:(execOp a.eval o).run P w=.ok .skip w') (hn:next (a.put o.dst undef) w'):o.wp P a w next Q:=by
 unfold Oper.wp;rw [h];exact hn
end
section
variable {P:Program} {tt:TT} {t:TypeId} {ti:TI}
theorem TTok.info (h:TTok P tt) (hl:look tt.1 t=some ti):∃ i z,P.info? t=some i∧i.size=ti.size∧i.zero=some z∧ofZero z=some ti.zero∧isAggOf P t=ti.agg∧tdOf P t=ti.d∧(if P.eqGuardType P.depth t then none else eqOk P 20 t)=ti.eqt∧∃ d,P.underlying t=some d:=by
 have h1:=h.2 t ti hl
 unfold tiOf at h1
 split at h1
 ·rename_i td i hu hi
  split at h1
  ·rename_i z hz
   cases ho:ofZero z with
   | none=>rw [ho] at h1;cases h1
   | some a=>rw [ho] at h1;cases h1;exact ⟨i,z,hi,rfl,hz,ho,rfl,rfl,rfl,td,hu⟩
  ·cases h1
 ·cases h1
theorem run_info {i:TypeInfo} (w:World) (h:P.info? t=some i):(typeInfo t).run P w=.ok i w:=by simp [typeInfo,h]
theorem run_size {i:TypeInfo} (w:World) (h:P.info? t=some i):(sizeOf t).run P w=.ok i.size w:=by simp [sizeOf,run_info w h]
theorem run_zero {i:TypeInfo} {z:Value} (w:World) (h:P.info? t=some i) (hz:i.zero=some z):(zeroValue t).run P w=.ok z w:=by simp [zeroValue,run_info w h,hz]
theorem td_struct {fs:List (Nat × Nat)} (h:tdOf P t=.struct fs):∃ f,P.underlying t=some (.struct f)∧fs=f.toList.map (fun x=>(x.offset,P.cellsOf x.type))∧∀ x∈f.toList,∃ i,P.info? x.type=some i:=by
 unfold tdOf at h
 split at h <;> try (first|(cases h;done)|exact (tdMM_no h (by simp) (by simp) (by simp)).elim|exact (tdSl_no h (by simp) (by simp)).elim)
 ·rename_i f hf
  split at h
  ·rename_i ha
   injection h with h
   exact ⟨f,hf,h.symm,fun x hx=>Option.isSome_iff_exists.1 ((Bool.and_eq_true _ _).mp (List.all_eq_true.1 ha x hx)).1⟩
  ·cases h
 ·split at h <;> cases h
theorem td_struct1 {fs:List (Nat × Nat)} {f:Array Field} (h:tdOf P t=.struct fs) (hf:P.underlying t=some (.struct f)):∀ x∈f.toList,P.cellsOf x.type=1→isAggOf P x.type=false∧∃ d,P.underlying x.type=some d:=by
 unfold tdOf at h
 rw [hf] at h
 dsimp only at h
 split at h
 ·rename_i ha
  intro x hx h1
  have:=List.all_eq_true.1 ha x hx
  rw [Bool.and_eq_true,Bool.or_eq_true,Bool.and_eq_true,Bool.not_eq_true',Bool.not_eq_true'] at this
  rcases this.2 with h2|⟨h2,h3⟩
  ·rw [h1] at h2;cases h2
  ·exact ⟨h2,Option.isSome_iff_exists.1 h3⟩
 ·cases h
theorem td_arr {n e:Nat} {g:Bool} (h:tdOf P t=.arr n e g):∃ el i,P.underlying t=some (.array n el)∧e=P.cellsOf el∧P.info? el=some i∧g=isAggOf P el∧∃ d,P.underlying el=some d:=by
 unfold tdOf at h
 split at h <;> try (first|(cases h;done)|exact (tdMM_no h (by simp) (by simp) (by simp)).elim|exact (tdSl_no h (by simp) (by simp)).elim)
 ·split at h <;> cases h
 ·rename_i n' el hf
  split at h
  ·rename_i ha
   simp only [Bool.and_eq_true] at ha
   obtain ⟨i,hi⟩:=Option.isSome_iff_exists.1 ha.1
   injection h with h1 h2 h3;subst h1;exact ⟨el,i,hf,h2.symm,hi,h3.symm,Option.isSome_iff_exists.1 ha.2⟩
  ·cases h
theorem td_slice {ty:Ty} {e b:Nat} {zs:List AV} (h:tdOf P t=.slice ty e b zs):∃ el i z c,P.underlying t=some (.slice el)∧P.info? el=some i∧tyOf P 20 el=some ty∧i.size=e∧i.bytes=b∧i.zero=some z∧ofZero z=some c∧zs=c.cells:=by
 unfold tdOf at h
 split at h <;> try (first|(cases h;done)|exact (tdMM_no h (by simp) (by simp) (by simp)).elim)
 ·split at h <;> cases h
 ·split at h <;> cases h
 ·rename_i el hf
  unfold tdSl at h
  split at h
  ·rename_i ty' i h1 h2
   split at h
   ·rename_i c hc _
    injection h with h3 h4 h5 h6
    subst h3
    cases hz:i.zero with
    | none=>rw [hz] at hc;cases hc
    | some z=>rw [hz] at hc;exact ⟨el,i,z,c,hf,h2,h1,h4,h5,hz,hc,h6.symm⟩
   ·cases h
  ·cases h
theorem td_slice_int {k:IntKind} {e b:Nat} {zs:List AV} (h:tdOf P t=.slice (.int k) e b zs):∃ el,P.underlying t=some (.slice el)∧tyOf P 20 el=some (.int k)∧isAggOf P el=false:=by
 unfold tdOf at h
 split at h <;> try (first|(cases h;done)|exact (tdMM_no h (by simp) (by simp) (by simp)).elim)
 ·split at h <;> cases h
 ·split at h <;> cases h
 ·rename_i el hf
  unfold tdSl at h
  split at h <;> try (cases h;done)
  rename_i ty i h1 h2
  split at h <;> try (cases h;done)
  rename_i hno
  cases h
  exact ⟨el,hf,h1,hno⟩
theorem td_bool (h:tdOf P t=.bool):P.underlying t=some .bool:=by
 unfold tdOf at h
 split at h <;> try (first|(cases h;done)|exact (tdMM_no h (by simp) (by simp) (by simp)).elim|exact (tdSl_no h (by simp) (by simp)).elim)
 ·assumption
 all_goals (split at h <;> first|(cases h;done)|(split at h <;> cases h;done))
theorem td_ptr (h:tdOf P t=.ptr):∃ e,P.underlying t=some (.pointer e):=by
 unfold tdOf at h
 split at h <;> try (first|(cases h;done)|exact (tdMM_no h (by simp) (by simp) (by simp)).elim|exact (tdSl_no h (by simp) (by simp)).elim)
 all_goals (try (split at h <;> first|(cases h;done)|(split at h <;> cases h;done)))
 ·rename_i e hf;exact ⟨e,hf⟩
theorem td_int {k:IntKind} (h:tdOf P t=.int k):P.underlying t=some (.int k):=by
 unfold tdOf at h
 split at h <;> try (first|(cases h;done)|exact (tdMM_no h (by simp) (by simp) (by simp)).elim|exact (tdSl_no h (by simp) (by simp)).elim)
 ·injection h with h;subst h;assumption
 all_goals (try (split at h <;> first|(cases h;done)|(split at h <;> cases h;done)))
theorem td_str (h:tdOf P t=.str):P.underlying t=some .string:=by
 unfold tdOf at h
 split at h <;> try (first|(cases h;done)|exact (tdMM_no h (by simp) (by simp) (by simp)).elim|exact (tdSl_no h (by simp) (by simp)).elim)
 ·assumption
 all_goals (split at h <;> first|(cases h;done)|(split at h <;> cases h;done))
theorem td_map {k v:Ty} {z:AV} (h:tdOf P t=.map k v z):∃ kt et i zv c,P.underlying t=some (.map kt et)∧keyTy P kt=some k∧tyOf P 20 et=some v∧P.info? et=some i∧i.zero=some zv∧ofZero zv=some c∧z=c:=by
 unfold tdOf at h
 split at h <;> try (first|(cases h;done)|exact (tdSl_no h (by simp) (by simp)).elim)
 ·split at h <;> cases h
 ·split at h <;> cases h
 ·rename_i kt et hf
  unfold tdMM at h
  split at h
  ·split at h <;> cases h
  unfold tdMap at h
  split at h <;> try (cases h;done)
  rename_i kk v' i h1 h2 h3
  split at h <;> try (cases h;done)
  rename_i c hc
  cases h
  cases hz:i.zero with
  | none=>rw [hz] at hc;cases hc
  | some zv=>rw [hz] at hc;exact ⟨kt,et,i,zv,_,hf,h1,h2,h3,hz,hc,rfl⟩
theorem td_mmap {k a b:Ty} (h:tdOf P t=.mmap k a b):∃ kt et kt2 et2,P.underlying t=some (.map kt et)∧P.underlying et=some (.map kt2 et2)∧keyTy P kt=some k∧keyTy P kt2=some a∧tyOf P 20 et2=some b∧zMap P et=true:=by
 unfold tdOf at h
 split at h <;> try (first|(cases h;done)|exact (tdSl_no h (by simp) (by simp)).elim)
 ·split at h <;> cases h
 ·split at h <;> cases h
 ·rename_i kt et hf
  unfold tdMM at h
  split at h
  ·rename_i kt2 et2 h1
   split at h <;> try (cases h;done)
   rename_i k' a' b' h2 h3 h4 h5
   cases h
   exact ⟨kt,et,kt2,et2,hf,h1,h2,h3,h4,h5⟩
  ·unfold tdMap at h
   split at h <;> first|(cases h;done)|(split at h <;> cases h;done)
theorem run_isAgg {d:TypeDesc} (h:P.underlying t=some d) (w:World):(isAgg t).run P w=.ok (isAggOf P t) w:=by
 unfold isAggOf isAgg
 simp [run_underlying h,h]
 split <;> simp_all
end
theorem run_bind {α β:Type} {row:Nat→Option AObj} (q:RQ α) (f:α→RQ β) (l:List Nat):(q.bind f).run row l=match q.run row l with
 | some (x,l')=>(f x).run row l'
 | none=>none:=by
 induction q generalizing l with
 | ret x=>simp [RQ.bind,RQ.run]
 | fail=>simp [RQ.bind,RQ.run]
 | ask r k ih =>
   simp only [RQ.bind,RQ.run]
   cases h:row r with
   | none=>rfl
   | some o=>exact ih o (r::l)
theorem takeL_spec {α:Type}:∀ {n:Nat} {l r:List α},takeL n l=some r→r=l.take n∧r.length=n
 | 0,l,r,h=>by simp [takeL] at h;subst h;simp
 | n+1,[],r,h=>by simp [takeL] at h
 | n+1,x::l,r,h=>by
   simp only [takeL] at h
   split at h
   ·rename_i r' hr
    cases h
    obtain ⟨h1,h2⟩:=takeL_spec hr
    exact ⟨by simp [h1],by simp [h2]⟩
   ·cases h
theorem dropL_spec {α:Type}:∀ {n:Nat} {l:List α},dropL n l=l.drop n
 | 0,l=>by simp [dropL]
 | n+1,[]=>by simp [dropL]
 | n+1,_::l=>by simp [dropL,dropL_spec]
theorem nth_spec {α:Type}:∀ {l:List α} {n:Nat},nth l n=l[n]?
 | [],n=>by simp [nth]
 | x::l,0=>by simp [nth]
 | x::l,n+1=>by simp [nth,nth_spec]
theorem lenL_spec {α:Type}:∀ {l:List α},lenL l=l.length
 | []=>rfl
 | _::l=>by simp [lenL,lenL_spec]
theorem overL_spec {α:Type}:∀ {xs l r:List α},overL xs l=some r→r=xs++l.drop xs.length∧xs.length≤l.length
 | [],l,r,h=>by simp [overL] at h;subst h;simp
 | x::xs,[],r,h=>by simp [overL] at h
 | x::xs,y::l,r,h=>by
   simp only [overL] at h
   split at h
   ·rename_i r' hr
    cases h
    obtain ⟨h1,h2⟩:=overL_spec hr
    simp [h1];omega
   ·cases h
theorem setL_spec {α:Type}:∀ {n:Nat} {xs l r:List α},setL n xs l=some r→r=l.take n++(xs++l.drop (n+xs.length))∧n+xs.length≤l.length
 | 0,xs,l,r,h=>by
   simp only [setL] at h
   obtain ⟨h1,h2⟩:=overL_spec h
   simp [h1];omega
 | n+1,xs,[],r,h=>by simp [setL] at h
 | n+1,xs,y::l,r,h=>by
   simp only [setL] at h
   split at h
   ·rename_i r' hr
    cases h
    obtain ⟨h1,h2⟩:=setL_spec hr
    simp [h1,Nat.add_right_comm n 1];omega
   ·cases h
section
variable {g:Nat→Gh} {K R:Nat→Prop} {w:World}
theorem RelL_get {cs:List AV} {vs:List Value} (h:RelL g K R w cs vs) {i:Nat} {c:AV} (hc:cs[i]?=some c):∃ v,vs[i]?=some v∧RelV g K R w c v:=by
 induction cs generalizing vs i with
 | nil=>simp at hc
 | cons x r ih =>
   cases h with
   | cons h1 h2 =>
     cases i with
     | zero=>simp at hc;subst hc;exact ⟨_,rfl,h1⟩
     | succ i=>simpa using ih h2 (by simpa using hc)
theorem RelL_drop {cs:List AV} {vs:List Value} (h:RelL g K R w cs vs) (n:Nat):RelL g K R w (cs.drop n) (vs.drop n):=by
 induction n generalizing cs vs with
 | zero=>simpa using h
 | succ n ih=>cases h with
   | nil=>simpa using RelL.nil
   | cons h1 h2=>simpa using ih h2
theorem RelL_take {cs:List AV} {vs:List Value} (h:RelL g K R w cs vs) (n:Nat):RelL g K R w (cs.take n) (vs.take n):=by
 induction n generalizing cs vs with
 | zero=>simpa using RelL.nil
 | succ n ih=>cases h with
   | nil=>simpa using RelL.nil
   | cons h1 h2=>simpa using RelL.cons h1 (ih h2)
theorem cells_of_one {v:Value} (h:v.oneCell'=true):v.cells=#[v]:=by
 cases v <;> first|rfl|simp [Value.oneCell'] at h
theorem cells_rel {c:AV} {v:Value} (h:RelV g K R w c v) (hj:allCell c.cells=true):RelL g K R w c.cells v.cells.toList:=by
 by_cases hc:c.cell=true
 ·have e:c.cells=[c]:=by cases c <;> first|rfl|simp [AV.cell] at hc
  rw [e,cells_of_one (cell_one hc h)]
  exact .cons h .nil
 ·cases h <;> first
  | (simp only [AV.cells,Value.cells];assumption)
  | (simp [AV.cell] at hc;done)
  | (simp [AV.cells,allCell,AV.cell] at hj;done)
  | (rename_i e _;cases e <;> first|(simp [AV.cell] at hc;done)|(simp [AV.cells,allCell,AV.cell] at hj;done))
end
def mkVal (P:Program) (t:TypeId) (vs:List Value):Value:=if isAggOf P t then .agg vs.toArray else vs.getD 0 undef
theorem run_part {P:Program} {t:TypeId} {d:TypeDesc} {i:TypeInfo} (w:World) (hu:P.underlying t=some d) (hi:P.info? t=some i) (cs:List Value) (us:List Value) (rest:List Value) (off:Nat)
 (hc:cs.drop off=us++rest) (hl:us.length=i.size) (h1:isAggOf P t=false→us.length=1):(part t cs.toArray off).run P w=.ok (mkVal P t us) w:=by
 unfold part mkVal
 simp only [Sem.run_bind,run_isAgg hu,Result.andThen_ok]
 cases ha:isAggOf P t
 ·have h2:=h1 ha
  obtain ⟨u,rfl⟩:∃ u,us=[u]:=List.length_eq_one_iff.1 h2
  have:cs[off]?=some u:=by
   have:=congrArg (·[0]?) hc
   simpa using this
  simp [this]
 ·simp only [if_true,Sem.run_bind,run_size w hi,Result.andThen_ok,Sem.run_pure]
  congr 2
  apply Array.ext'
  simp only [List.extract_toArray,List.extract_eq_take_drop,hc]
  rw [show off+i.size - off=us.length by omega]
  simp
section
variable {P:Program} {R:Nat→Prop} {wr:World}
theorem eqOk_facts:∀ {n:Nat} {t:TypeId} {ty:Ty},eqOk P n t=some ty→∃ d,P.underlying t=some d∧(isAggOf P t=false→ty.size=1)
 | 0,_,_,h=>by simp [eqOk] at h
 | n+1,t,ty,h=>by
   unfold eqOk at h
   split at h
   ·rename_i k hu;cases h;exact ⟨_,hu,fun _=>rfl⟩
   ·rename_i hu;cases h;exact ⟨_,hu,fun _=>rfl⟩
   ·rename_i hu;cases h;exact ⟨_,hu,fun _=>rfl⟩
   ·rename_i fs hu;exact ⟨_,hu,fun hf=>by simp [isAggOf,hu] at hf⟩
   ·cases h
theorem info_of_underlying {t:TypeId} {d:TypeDesc} (h:P.underlying t=some d):∃ i,P.info? t=some i:=by
 unfold Program.underlying at h
 cases hi:P.info? t with
 | some i=>exact ⟨i,rfl⟩
 | none=>rw [hi] at h;simp at h
theorem cellsOf_info {t:TypeId} {i:TypeInfo} (h:P.info? t=some i):P.cellsOf t=i.size:=by simp [Program.cellsOf,h]
theorem run_eqFields (w:World) {n d:Nat} (ih:∀ (t:TypeId) (ty:Ty) (x y:ty.El) (us vs:List Value) (e:Bool),eqOk P n t=some ty→RelEl R wr ty x us→RelEl R wr ty y vs→eqTy ty x y=some e →
 (Op.equalIn d t (mkVal P t us) (mkVal P t vs)).run P w=.ok e w) :
 ∀ (l:List Field) (ty:Ty) (x y:ty.El) (off:Nat) (us vs cu cv:List Value) (e:Bool),eqOk.eqFs P (eqOk P n) off l=some ty→RelEl R wr ty x us→RelEl R wr ty y vs →
  eqTy ty x y=some e→cu.drop off=us→cv.drop off=vs→(Op.eqFields d cu.toArray cv.toArray l).run P w=.ok e w
 | [],ty,x,y,off,us,vs,cu,cv,e,h,hx,hy,he,hu,hv=>by
   simp only [eqOk.eqFs,Option.some.injEq] at h
   subst h
   simp only [eqTy,Option.some.injEq] at he
   subst he
   simp [Op.eqFields]
 | [f],ty,x,y,off,us,vs,cu,cv,e,h,hx,hy,he,hu,hv=>by
   simp only [eqOk.eqFs] at h
   split at h <;> try (cases h;done)
   rename_i hn
   split at h <;> try (cases h;done)
   rename_i a ha
   split at h <;> try (cases h;done)
   rename_i hs
   cases h
   obtain ⟨td,htd,h1⟩:=eqOk_facts ha
   obtain ⟨i,hi⟩:=info_of_underlying htd
   rw [cellsOf_info hi] at hs
   have p1:=run_part w htd hi cu us [] f.offset (by rw [hn.2,hu];simp) (by rw [RelEl_len hx,hs]) (fun h=>by rw [RelEl_len hx,h1 h])
   have p2:=run_part w htd hi cv vs [] f.offset (by rw [hn.2,hv];simp) (by rw [RelEl_len hy,hs]) (fun h=>by rw [RelEl_len hy,h1 h])
   simp only [Op.eqFields,hn.1,ne_eq,not_false_eq_true,if_true,Sem.run_bind,p1,p2,Result.andThen_ok,ih f.type _ x y us vs e ha hx hy he]
   cases e <;> simp
 | f::f'::r,ty,x,y,off,us,vs,cu,cv,e,h,hx,hy,he,hu,hv=>by
   simp only [eqOk.eqFs] at h
   split at h <;> try (cases h;done)
   rename_i hn
   split at h <;> try (cases h;done)
   rename_i a b ha hb
   split at h <;> try (cases h;done)
   rename_i hs
   cases h
   obtain ⟨td,htd,h1⟩:=eqOk_facts ha
   obtain ⟨i,hi⟩:=info_of_underlying htd
   have hs':=hs
   rw [cellsOf_info hi] at hs
   obtain ⟨u1,u2,eu,hu1,hu2⟩:=hx
   obtain ⟨v1,v2,ev,hv1,hv2⟩:=hy
   have p1:=run_part w htd hi cu u1 u2 f.offset (by rw [hn.2,hu,eu]) (by rw [RelEl_len hu1,hs]) (fun h=>by rw [RelEl_len hu1,h1 h])
   have p2:=run_part w htd hi cv v1 v2 f.offset (by rw [hn.2,hv,ev]) (by rw [RelEl_len hv1,hs]) (fun h=>by rw [RelEl_len hv1,h1 h])
   simp only [eqTy] at he
   split at he <;> try (cases he;done)
   rename_i e1 e2 he1 he2
   cases he
   have q:=run_eqFields w ih (f'::r) b x.2 y.2 (off+P.cellsOf f.type) u2 v2 cu cv e2 hb hu2 hv2 he2
    (by rw [← List.drop_drop,hu,eu,← hs',← RelEl_len hu1];simp) (by rw [← List.drop_drop,hv,ev,← hs',← RelEl_len hv1];simp)
   simp only [Op.eqFields.eq_2,hn.1,ne_eq,not_false_eq_true,if_true,Sem.run_bind,p1,p2,Result.andThen_ok,ih f.type _ x.1 y.1 u1 v1 e1 ha hu1 hv1 he1]
   cases e1
   ·simp
   ·simp only [Bool.not_true,Bool.false_eq_true,if_false,Bool.true_and]
    exact q
theorem run_eqIn (w:World):∀ (n k:Nat) (t:TypeId) (ty:Ty) (x y:ty.El) (us vs:List Value) (e:Bool),eqOk P n t=some ty→RelEl R wr ty x us→RelEl R wr ty y vs→eqTy ty x y=some e →
 (Op.equalIn (n+k) t (mkVal P t us) (mkVal P t vs)).run P w=.ok e w
 | 0,_,_,_,_,_,_,_,_,h,_,_,_=>by simp [eqOk] at h
 | n+1,k,t,ty,x,y,us,vs,e,h,hx,hy,he=>by
   rw [show n+1+k=(n+k)+1 by omega]
   unfold eqOk at h
   split at h
   ·rename_i kd hu
    cases h
    have ha:isAggOf P t=false:=by simp [isAggOf,hu]
    obtain ⟨rfl,_⟩:=hx
    obtain ⟨rfl,_⟩:=hy
    simp only [eqTy,Option.some.injEq] at he
    subst he
    simp only [mkVal,ha,Bool.false_eq_true,if_false,List.getD_cons_zero]
    rw [run_equalIn_int w _ t _ _ _ _ hu]
    rfl
   ·rename_i hu
    cases h
    have ha:isAggOf P t=false:=by simp [isAggOf,hu]
    rw [show us=_ from hx,show vs=_ from hy]
    simp only [eqTy,Option.some.injEq] at he
    subst he
    simp only [mkVal,ha,Bool.false_eq_true,if_false,List.getD_cons_zero]
    rw [run_equalIn_bool' w _ t _ _ hu]
   ·rename_i hu
    cases h
    have ha:isAggOf P t=false:=by simp [isAggOf,hu]
    obtain ⟨rfl,_⟩:=hx
    obtain ⟨rfl,_⟩:=hy
    simp only [eqTy,Option.some.injEq] at he
    subst he
    simp only [mkVal,ha,Bool.false_eq_true,if_false,List.getD_cons_zero]
    have hb:∀ x y:ByteArray,(x.toList == y.toList)=decide (x=y):=fun x y=>by
     rw [ByteArray.toList_eq,ByteArray.toList_eq,Bool.eq_iff_iff,beq_iff_eq,decide_eq_true_eq]
     exact ⟨fun h=>Go.WideShapes.bytes_inj h,fun h=>by rw [h]⟩
    rw [run_equalIn_string w _ t _ _ hu,hb x y]
   ·rename_i fs hu
    split at h
    ·cases h
    ·rename_i hst
     have ha:isAggOf P t=true:=by simp [isAggOf,hu]
     have hfs:P.fieldsOf t=fs:=by simp [Program.fieldsOf,hu]
     simp only [mkVal,ha,if_true]
     rw [run_equalIn_struct w _ t _ _ (by rw [hfs];exact hu) (by simpa using hst),hfs]
     exact run_eqFields w (fun t ty x y us vs e=>run_eqIn w n k t ty x y us vs e) fs.toList ty x y 0 us vs us vs e h hx hy he (by simp) (by simp)
   ·cases h
end
theorem b2_run {row:Nat→Option AObj} {cs:List Prop} {x:AV} {l:List Nat} {res:Res} {rd:List Nat} (h:(b2 cs x).run row l=some (res,rd)):res=⟨cs,x,[],[]⟩:=by
 simp [b2,RQ.run] at h;exact h.1.symm
theorem fX {α:Type} {row:Nat→Option AObj} {l:List Nat} {y:α × List Nat} (h:(RQ.fail:RQ α).run row l=some y):False:=by simp [RQ.run] at h
theorem wrap_wrap (k:IntKind) (n:Int):k.wrap (k.wrap n)=k.wrap n:=by
 cases k <;> simp only [IntKind.wrap,IntKind.signed,IntKind.bits] <;> simp <;> omega
theorem wrap_range {k:IntKind} {n:Int} (h:k.wrap n=n):k.min≤n∧n≤k.max:=by
 cases k <;> simp only [IntKind.wrap,IntKind.signed,IntKind.bits,IntKind.min,IntKind.max] at * <;> simp at * <;> omega
theorem wrap_of_range {k:IntKind} {n:Int} (h:k.min≤n∧n≤k.max):k.wrap n=n:=by
 cases k <;> simp only [IntKind.wrap,IntKind.signed,IntKind.bits,IntKind.min,IntKind.max] at * <;> simp at * <;> omega
theorem min_zero (k:IntKind):k.min≤0∧0≤k.max:=by
 cases k <;> simp [IntKind.min,IntKind.max,IntKind.signed,IntKind.bits]
theorem wrap_between {k:IntKind} {n m:Int} (h:k.wrap n=n) (hm:(0≤m∧m≤n)∨(n≤m∧m≤0)):k.wrap m=m:=by
 have h1:=wrap_range h
 have h2:=min_zero k
 exact wrap_of_range (by omega)
section
variable {P:Program} {g:Nat→Gh} {K R:Nat→Prop} {w:World}
def Pure (P:Program) (g:Nat→Gh) (K R:Nat→Prop) (w:World) (s:Sem Value) (res:Res):Prop :=
 res.upd=[]∧res.new=[]∧∃ v,s.run P w=.ok v w∧RelV g K R w res.av v
theorem fdiv_range {k:IntKind} {n m:Int} (h:k.wrap n=n) (hm:0 < m):k.wrap (n.fdiv m)=n.fdiv m:=by
 refine wrap_between h ?_
 rcases Int.le_total 0 n with h0|h0
 ·refine .inl ⟨Int.fdiv_nonneg h0 (by omega),?_⟩
  rw [Int.fdiv_eq_ediv_of_nonneg _ (by omega)]
  exact Int.ediv_le_self _ h0
 ·refine .inr ⟨?_,?_⟩
  ·rw [Int.fdiv_eq_ediv_of_nonneg _ (by omega)]
   have:=Int.mul_ediv_self_le (x:=n) (k:=m) (by omega)
   have h2:n / m≤0:=by
    have:=Int.ediv_le_ediv (a:=n) (b:=0) hm h0
    simpa using this
   have h3:m * (n / m)≤n:=this
   have h4:(m - 1) * (n / m)≤0:=Int.mul_nonpos_of_nonneg_of_nonpos (by omega) h2
   have h5:=Int.lt_mul_ediv_self_add (x:=n) (k:=m) hm
   rw [Int.sub_mul,Int.one_mul] at h4
   by_cases hm1:m=1
   ·subst hm1;simp
   ·rcases Int.lt_or_le (n / m) n with h6|h6
    ·exfalso
     have h7:m * (n / m+1)≤m * n:=Int.mul_le_mul_of_nonneg_left (by omega) (by omega)
     rw [Int.mul_add,Int.mul_one] at h7
     have h8:(m - 1) * n≤0:=Int.mul_nonpos_of_nonneg_of_nonpos (by omega) h0
     rw [Int.sub_mul,Int.one_mul] at h8
     have h9:n < m * n:=by omega
     omega
    ·exact h6
  ·rw [Int.fdiv_eq_ediv_of_nonneg _ (by omega)]
   have:=Int.ediv_le_ediv (a:=n) (b:=0) hm h0
   simpa using this
theorem tmod_range {k:IntKind} {n m:Int} (h:k.wrap n=n):k.wrap (n.tmod m)=n.tmod m:=by
 refine wrap_between h ?_
 have h1:(n.tmod m).natAbs≤n.natAbs:=by rw [Int.natAbs_tmod];exact Nat.mod_le _ _
 rcases Int.le_total 0 n with h0|h0
 ·have:=Int.tmod_nonneg m h0
  exact .inl (by omega)
 ·have:=Int.tmod_nonneg (a:=-n) m (by omega)
  rw [Int.neg_tmod] at this
  exact .inr (by omega)
theorem wrap_in64 {n:Int} (h:In64 n):IntKind.wrap .i64 n=n:=by
 simp [IntKind.wrap,IntKind.signed,IntKind.bits];omega
theorem tdiv_range {k:IntKind} {x y:Int} (hx:k.wrap x=x) (hy:0 < y):k.wrap (x.tdiv y)=x.tdiv y:=by
 refine wrap_between hx ?_
 have h1:(x.tdiv y).natAbs≤x.natAbs:=by rw [Int.natAbs_tdiv];exact Nat.div_le_self _ _
 rcases Int.le_total 0 x with h0|h0
 ·have:=Int.tdiv_nonneg h0 (Int.le_of_lt hy)
  exact .inl (by omega)
 ·have:=Int.tdiv_nonneg (a:=-x) (b:=y) (by omega) (Int.le_of_lt hy)
  rw [Int.neg_tdiv] at this
  exact .inr (by omega)
theorem evBinInt_sound {strict:Bool} {op:BinOp} {k l:IntKind} {x y:Int} {t:TypeId} {row:Nat→Option AObj} {li:List Nat} {res:Res} {rd:List Nat} (h:(evBinInt strict op k l x y).run row li=some (res,rd))
 (hc:∀ p∈res.conds,p) (hx:k.wrap x=x):Pure P g K R w (binOp op t (.int k x) (.int l y)) res:=by
 have bo:∀ {e:Bool} {res:Res},res=⟨[],.bool e,[],[]⟩→(binOp op t (.int k x) (.int l y)).run P w=.ok (.bool e) w→Pure P g K R w (binOp op t (.int k x) (.int l y)) res:=fun hr hv=>by
  subst hr;exact ⟨rfl,rfl,_,hv,.bool⟩
 unfold evBinInt at h
 split at h
 ·rw [b2_run h] at hc ⊢
  have h0:¬ y < 0:=by have:=hc _ (List.mem_singleton.2 rfl);omega
  exact ⟨rfl,rfl,_,by simp only [binOp,Op.shift,h0,if_false];rfl,.int (wrap_wrap _ _)⟩
 ·rw [b2_run h] at hc ⊢
  have h0:¬ y < 0:=by have:=hc _ (List.mem_singleton.2 rfl);omega
  exact ⟨rfl,rfl,_,by simp only [binOp,Op.shift,h0,if_false];rfl,.int (fdiv_range hx (by exact Int.pow_pos (by omega)))⟩
 iterate 3
  ·split at h
   ·rename_i hk
    obtain rfl:=kindEq_eq hk
    unfold arith at h
    split at h
    ·rw [b2_run h] at hc ⊢
     have hi:=wrap_in64 (hc _ (List.mem_singleton.2 rfl))
     exact ⟨rfl,rfl,_,by simp [binOp,Op.intArith,hi],.int hi⟩
    ·rw [b2_run h]
     exact ⟨rfl,rfl,_,by simp [binOp,Op.intArith],.int (wrap_wrap _ _)⟩
   ·exact (fX h).elim
 ·split at h
  ·rename_i hk
   obtain rfl:=kindEq_eq hk
   unfold quoI at h
   split at h
   ·rw [b2_run h] at hc ⊢
    have h0:0 < y:=hc _ (List.mem_singleton.2 rfl)
    have hi:=tdiv_range hx h0
    exact ⟨rfl,rfl,_,by simp [binOp,Op.intDiv,(show y≠0 by omega),hi],.int hi⟩
   ·rw [b2_run h] at hc ⊢
    exact ⟨rfl,rfl,_,by simp [binOp,Op.intDiv,(show y≠0 from hc _ (List.mem_singleton.2 rfl))],.int (wrap_wrap _ _)⟩
  ·exact (fX h).elim
 ·split at h
  ·rename_i hk
   obtain rfl:=kindEq_eq hk
   rw [b2_run h] at hc ⊢
   exact ⟨rfl,rfl,_,by simp [binOp,Op.intDiv,(show y≠0 from hc _ (List.mem_singleton.2 rfl))],.int (tmod_range hx)⟩
  ·exact (fX h).elim
 iterate 6
  ·split at h
   ·rename_i hk
    obtain rfl:=kindEq_eq hk
    refine bo (b2_run h) ?_
    simp [binOp,Op.intCmp,bne]
    try rfl
   ·exact (fX h).elim
 ·split at h
  ·rename_i hk hl
   obtain rfl:=kindEq_eq hk
   obtain rfl:=kindEq_eq hl
   by_cases h7:y=127
   ·rw [show decide (y=127)=true from decide_eq_true h7,cond_true] at h
    rw [b2_run h] at hc ⊢
    have h0:0≤x:=hc _ (by simp)
    subst h7
    have hr:=wrap_range hx
    have e0:(2:Int) ^ IntKind.u64.bits=18446744073709551616:=by decide
    have hm:IntKind.u64.max=18446744073709551615:=by decide
    have hmod:IntKind.u64.wrap (x % 128)=x % 128:=wrap_between hx (.inl ⟨by omega,by omega⟩)
    have hand:IntKind.u64.wrap (((x % 2 ^ IntKind.u64.bits).toNat &&& 127 % 2 ^ IntKind.u64.bits:Nat):Int)=x % 128:=by
     have e1:(127:Nat) % 2 ^ IntKind.u64.bits=127:=by decide
     have e2:(x % 2 ^ IntKind.u64.bits).toNat=x.toNat:=by rw [e0];omega
     rw [e1,e2,show (x.toNat &&& 127:Nat)=x.toNat % 128 from Nat.and_two_pow_sub_one_eq_mod x.toNat 7,show ((x.toNat % 128:Nat):Int)=x % 128 by omega]
     exact hmod
    exact ⟨rfl,rfl,_,by simp [binOp,Op.intArith,Op.intBits,hand],.int hmod⟩
   rw [show decide (y=127)=false from decide_eq_false h7,cond_false] at h
   rw [b2_run h] at hc ⊢
   have h0:0≤x:=hc _ (by simp)
   have h1:x < 4294967296:=hc _ (by simp)
   have h2:y=4294967295:=hc _ (by simp)
   subst h2
   have hand:IntKind.u64.wrap (((x % 2 ^ IntKind.u64.bits).toNat &&& 4294967295 % 2 ^ IntKind.u64.bits:Nat):Int)=x:=by
    have e0:(2:Int) ^ IntKind.u64.bits=18446744073709551616:=by decide
    have e1:(4294967295:Nat) % 2 ^ IntKind.u64.bits=4294967295:=by decide
    have e2:(x % 2 ^ IntKind.u64.bits).toNat=x.toNat:=by rw [e0];omega
    rw [e1,e2,show (x.toNat &&& 4294967295:Nat)=x.toNat % 4294967296 from Nat.and_two_pow_sub_one_eq_mod x.toNat 32,Nat.mod_eq_of_lt (by omega),show ((x.toNat:Nat):Int)=x by omega]
    exact hx
   exact ⟨rfl,rfl,_,by simp [binOp,Op.intArith,Op.intBits,hand],.int hx⟩
  ·exact (fX h).elim
 ·split at h
  ·rename_i hk hl
   obtain rfl:=kindEq_eq hk
   obtain rfl:=kindEq_eq hl
   rw [b2_run h] at hc ⊢
   have h0:0≤x:=hc _ (by simp)
   have h1:x < 128:=hc _ (by simp)
   have h2:y=128:=hc _ (by simp)
   subst h2
   have hw : IntKind.u8.wrap (x + 128) = x + 128 := wrap_of_range ⟨by have:IntKind.u8.min=0:=by decide
                                                                      omega, by have:IntKind.u8.max=255:=by decide
                                                                                omega⟩
   have hor:IntKind.u8.wrap (((x % 2 ^ IntKind.u8.bits).toNat ||| 128 % 2 ^ IntKind.u8.bits:Nat):Int)=x+128:=by
    have e0:(2:Int) ^ IntKind.u8.bits=256:=by decide
    have e1:(128:Nat) % 2 ^ IntKind.u8.bits=128:=by decide
    have e2:(x % 2 ^ IntKind.u8.bits).toNat=x.toNat:=by rw [e0];omega
    have e3:(x.toNat ||| 128:Nat)=x.toNat+128:=by
     have:128=1 * 2 ^ 7:=by decide
     rw [Nat.or_comm,show (128:Nat)=2 ^ 7 * 1 from rfl,← Nat.two_pow_add_eq_or_of_lt (by omega) 1]
     omega
    rw [e1,e2,e3,show ((x.toNat+128:Nat):Int)=x+128 by omega]
    exact hw
   exact ⟨rfl,rfl,_,by simp [binOp,Op.intArith,Op.intBits,hor],.int hw⟩
  ·exact (fX h).elim
 ·split at h
  ·rename_i hk hl
   obtain rfl:=kindEq_eq hk
   obtain rfl:=kindEq_eq hl
   rw [b2_run h] at hc ⊢
   have h2:y=0:=hc _ (by simp)
   subst h2
   have hr:=wrap_range hx
   have e0:(2:Int) ^ IntKind.u64.bits=18446744073709551616:=by decide
   have hm:IntKind.u64.max=18446744073709551615:=by decide
   have hm0:IntKind.u64.min=0:=by decide
   have hxor:IntKind.u64.wrap (max (x % 2 ^ IntKind.u64.bits) 0)=x:=by
    rw [show max (x % 2 ^ IntKind.u64.bits) 0=x by rw [e0];omega]
    exact hx
   exact ⟨rfl,rfl,_,by simp [binOp,Op.intArith,Op.intBits,hxor],.int hx⟩
  ·exact (fX h).elim
 ·exact (fX h).elim
theorem binOp_gen (op:BinOp) (t:TypeId) (x y:Value) (e:Bool) (hn:(∀ k n,x≠.int k n)∧(∀ k n,x≠.float k n)∧(∀ k n m,x≠.complex k n m)∧(∀ s,x≠.string s)) (he:(Op.equal t x y).run P w=.ok e w) :
 (op=.eql→(binOp op t x y).run P w=.ok (.bool e) w)∧(op=.neq→(binOp op t x y).run P w=.ok (.bool (!e)) w):=by
 obtain ⟨h1,h2,h3,h4⟩:=hn
 refine ⟨fun h=>?_,fun h=>?_⟩
 ·subst h
  cases x <;> first
   | exact absurd rfl (h1 _ _)
   | exact absurd rfl (h2 _ _)
   | exact absurd rfl (h3 _ _ _)
   | exact absurd rfl (h4 _)
   | (simp [binOp,he];done)
   | (cases y <;> simp [binOp,he];done)
 ·subst h
  cases x <;> first
   | exact absurd rfl (h1 _ _)
   | exact absurd rfl (h2 _ _)
   | exact absurd rfl (h3 _ _ _)
   | exact absurd rfl (h4 _)
   | (simp [binOp,he];done)
   | (cases y <;> simp [binOp,he];done)
theorem run_equalIn_nils (d:Nat) {t e:TypeId} (h:P.underlying t=some (.pointer e)):(Op.equalIn (d+1) t (.pointer none) (.pointer none)).run P w=.ok true w:=by
 simp [Op.equalIn,run_underlying h]
theorem run_equalIn_ptrnil (d:Nat) {t e:TypeId} (h:P.underlying t=some (.pointer e)) (a:Addr):(Op.equalIn (d+1) t (.pointer (some a)) (.pointer none)).run P w=.ok false w:=by
 simp [Op.equalIn,run_underlying h]
theorem run_equalIn_nilnil (d:Nat) {t e:TypeId} (h:P.underlying t=some (.pointer e)):(Op.equalIn (d+1) t (.pointer none) (.pointer none)).run P w=.ok true w:=by
 simp [Op.equalIn,run_underlying h]
theorem evBin_sound {tt:TT} {strict:Bool} (hT:TTok P tt) {op:BinOp} {t:TypeId} {x y:AV} {u v:Value} {xo yo:Operand} {row:Nat→Option AObj} {li:List Nat} {res:Res} {rd:List Nat}
 (h:(evBin strict (look tt.1 t) op x y).run row li=some (res,rd)) (hc:∀ p∈res.conds,p) (hx:RelV g K R w x u) (hy:RelV g K R w y v) :
 Pure P g K R w (do eqGuard op t xo yo u v;binOp op t u v) res:=by
 have cmp:∀ {e:Bool},(evCmp op e).run row li=some (res,rd)→(eqGuard op t xo yo u v).run P w=.ok () w→((∀ k n,u≠.int k n)∧(∀ k n,u≠.float k n)∧(∀ k n m,u≠.complex k n m)∧(∀ s,u≠.string s)) →
  (Op.equal t u v).run P w=.ok e w→Pure P g K R w (do eqGuard op t xo yo u v;binOp op t u v) res:=by
  intro e h hgd hn he
  obtain ⟨g1,g2⟩:=binOp_gen (P:=P) (w:=w) op t u v e hn he
  unfold evCmp at h
  split at h
  ·rw [b2_run h];exact ⟨rfl,rfl,_,by simp only [Sem.run_bind,hgd,Result.andThen_ok];exact g1 rfl,.bool⟩
  ·rw [b2_run h];exact ⟨rfl,rfl,_,by simp only [Sem.run_bind,hgd,Result.andThen_ok];exact g2 rfl,.bool⟩
  ·exact (fX h).elim
 have strc:∀ (sa sb:ByteArray),(evCmp op (decide (sa=sb))).run row li=some (res,rd)→Pure P g K R w (do eqGuard op t xo yo (.string sa) (.string sb);binOp op t (.string sa) (.string sb)) res:=fun sa sb h=>by
  have hg:(eqGuard op t xo yo (.string sa) (.string sb)).run P w=.ok () w:=by unfold eqGuard;simp
  have hb:(sa.toList == sb.toList)=decide (sa=sb):=by
   rw [ByteArray.toList_eq,ByteArray.toList_eq,Bool.eq_iff_iff,beq_iff_eq,decide_eq_true_eq]
   exact ⟨fun h=>Go.WideShapes.bytes_inj h,fun h=>by rw [h]⟩
  unfold evCmp at h
  split at h
  ·rw [b2_run h];exact ⟨rfl,rfl,_,by simp only [Sem.run_bind,hg,Result.andThen_ok];simp only [binOp,Op.stringOp,hb,Sem.run_pure],.bool⟩
  ·rw [b2_run h];exact ⟨rfl,rfl,_,by simp only [Sem.run_bind,hg,Result.andThen_ok];simp only [binOp,Op.stringOp,hb,Sem.run_pure],.bool⟩
  ·exact (fX h).elim
 unfold evBin at h
 split at h
 ·cases hx with
  | int hw =>
    cases hy with
    | int _ =>
      obtain ⟨h1,h2,v,h3,h4⟩:=evBinInt_sound (P:=P) (w:=w) (g:=g) (K:=K) (R:=R) (t:=t) h hc hw
      exact ⟨h1,h2,v,by simp only [Sem.run_bind];rw [show (eqGuard op t xo yo (.int _ _) (.int _ _)).run P w=.ok () w by unfold eqGuard;simp];exact h3,h4⟩
 ·cases hx
  cases hy
  split at h
  ·rename_i hl
   obtain ⟨_,_,_,_,_,_,_,hd,_⟩:=hT.info hl
   have hu:=td_bool hd
   refine cmp h (by unfold eqGuard;simp) (by simp) ?_
   unfold Op.equal Op.maxDepth
   exact run_equalIn_bool' w 9999 t _ _ hu
  ·exact (fX h).elim
 ·cases hx with
  | str _ =>
  cases hy with
  | str _ =>
  split at h
  ·exact strc _ _ h
  ·exact (fX h).elim
 ·cases hx with
  | agg hx =>
    cases hy with
    | agg hy =>
      split at h
      ·rename_i hl
       obtain ⟨_,_,_,_,_,_,hag,_,hq,_⟩:=hT.info hl
       split at hq
       ·cases hq
       ·rename_i hgt
        split at h
        ·rename_i h1 h2
         obtain ⟨u1,u2,eu,hu1,hu2⟩:=dec_rel h1 hx
         obtain ⟨v1,v2,ev,hv1,hv2⟩:=dec_rel h2 hy
         cases hu2
         cases hv2
         simp only [List.append_nil] at eu ev
         subst eu ev
         split at h
         ·rename_i e he
          refine cmp h (by unfold eqGuard;simp [hgt]) (by simp) ?_
          have:=run_eqIn (P:=P) (R:=R) (wr:=w) w 20 9980 t _ _ _ _ _ e hq hu1 hv1 he
          simp only [mkVal,hag,if_true] at this
          exact this
         ·exact (fX h).elim
        ·exact (fX h).elim
      ·exact (fX h).elim
 ·cases hx
  cases hy
  split at h
  ·rename_i hl
   obtain ⟨_,_,_,_,_,_,_,hd,_⟩:=hT.info hl
   obtain ⟨e,hu⟩:=td_ptr hd
   refine cmp h (by unfold eqGuard;simp) (by simp) ?_
   exact run_equalIn_nils 9999 hu
  ·exact (fX h).elim
 ·cases hx with
  | ptr hk =>
    cases hy
    split at h
    ·rename_i hl
     obtain ⟨_,_,_,_,_,_,_,hd,_⟩:=hT.info hl
     obtain ⟨e,hu⟩:=td_ptr hd
     refine cmp h (by unfold eqGuard;simp) (by simp) ?_
     exact run_equalIn_ptrnil 9999 hu _
    ·exact (fX h).elim
 ·exact (fX h).elim
theorem isTrue_spec {a:Act} {x:Operand} (h:isTrue x=true):a.eval x=.bool true:=by
 unfold isTrue at h;split at h <;> simp_all [Act.eval]
theorem isFalse_spec {a:Act} {x:Operand} (h:isFalse x=true):a.eval x=.bool false:=by
 unfold isFalse at h;split at h <;> simp_all [Act.eval]
theorem evPick_sound {a:Act} {xo yo:Operand} {c:Bool} {x y:AV} {row:Nat→Option AObj} {li:List Nat} {res:Res} {rd:List Nat} (h:(evPick xo yo c x y).run row li=some (res,rd))
 (hc:∀ p∈res.conds,p) (hx:c=true→RelV g K R w x (a.eval xo)) (hy:c=false→RelV g K R w y (a.eval yo)) :
 res.upd=[]∧res.new=[]∧RelV g K R w res.av (if c then a.eval xo else a.eval yo):=by
 unfold evPick at h
 split at h
 ·cases h1:isTrue xo
  ·cases h2:isFalse yo
   ·simp only [h1,h2] at h
    rw [b2_run h]
    refine ⟨rfl,rfl,?_⟩
    cases c
    ·simpa using hy rfl
    ·simpa using hx rfl
   ·simp only [h1,h2] at h
    rw [b2_run h]
    refine ⟨rfl,rfl,?_⟩
    cases c
    ·have:=isFalse_spec (a:=a) h2
     simp [this];exact .bool
    ·simpa using hx rfl
  ·simp only [h1] at h
   rw [b2_run h]
   refine ⟨rfl,rfl,?_⟩
   cases c
   ·simpa using hy rfl
   ·have:=isTrue_spec (a:=a) h1
    simp [this];exact .bool
 ·split at h
  ·rename_i hk
   obtain rfl:=kindEq_eq hk
   rw [b2_run h]
   refine ⟨rfl,rfl,?_⟩
   cases c
   ·simpa using hy rfl
   ·simpa using hx rfl
  ·exact (fX h).elim
 ·rw [b2_run h] at hc ⊢
  have h0:c=false:=hc _ (by simp)
  subst h0
  exact ⟨rfl,rfl,by simpa using hy rfl⟩
 ·rw [b2_run h] at hc ⊢
  have h0:c=true:=hc _ (by simp)
  subst h0
  exact ⟨rfl,rfl,by simpa using hx rfl⟩
 ·exact (fX h).elim
end
end Go.AM
end
