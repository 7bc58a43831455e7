/- AmFn, AmOpen, AmLaw, CaTypes. -/
import Derived.Test.YtbepaplaahcnkaaGreatPc14
import Derived.Deep.Slices
import Derived.OpenShut
import Derived.Below
import Derived.Test.YtbepaplaahcnkaaGreatChecked
import Derived.KernelRfl

set_option linter.all false
section
namespace Go.AM
def endOf (tt:TT) (rv:List ResultVar) (m:Nat) (out:Out):AExit→St→Prop
 | .exit _,_=>False
 | _,st=>∃ news vs,Fin tt rv m out st news vs
section
variable {g:Nat→Gh} {K R R2:Nat→Prop} {w:World}
theorem ext_na {e:Ext} {v:Value} (hp:naV (.ext e)=true) (h:RelX R w e v):RelX R2 w e v:=by
 cases e with
 | any=>exact h
 | _=>simp [naV] at hp
mutual
theorem RelV_na:∀ {c:AV} {v:Value},naV c=true→RelV g K R w c v→RelV g K R2 w c v
 | _,_,_,.int h=>.int h
 | _,_,_,.bool=>.bool
 | _,_,_,.str h=>.str h
 | _,_,hp,.sl h=>by simp [naV] at hp
 | _,_,hp,.el hi h=>by simp [naV] at hp
 | _,_,_,.own hk h1=>.own hk h1
 | _,_,_,.oel hk h1=>.oel hk h1
 | _,_,_,.part hk h1 h2=>.part hk h1 h2
 | _,_,_,.head hk h1 h2=>.head hk h1 h2
 | _,_,_,.ptr hk=>.ptr hk
 | _,_,hp,.agg hc=>.agg (RelL_na (by simpa only [naV] using hp) hc)
 | _,_,hp,.tup hc=>.tup (RelL_na (by simpa only [naV] using hp) hc)
 | _,_,hp,.fn hc hd=>by simp [naV] at hp
 | _,_,_,.nilsl=>.nilsl
 | _,_,_,.nilptr=>.nilptr
 | _,_,_,.nilfn=>.nilfn
 | _,_,hp,.ext h=>.ext (ext_na hp h)
 | _,_,_,.junk=>.junk
theorem RelL_na:∀ {cs:List AV} {vs:List Value},naL cs=true→RelL g K R w cs vs→RelL g K R2 w cs vs
 | _,_,_,.nil=>.nil
 | _,_,hp,.cons h1 h2=>by
   simp only [naL] at hp
   split at hp
   ·rename_i h3;exact .cons (RelV_na h3 h1) (RelL_na hp h2)
   ·cases hp
end
theorem RelEl_flat:∀ {t:Ty} {x:t.El} {vs:List Value},t.flat=true→RelEl R w t x vs→RelEl R2 w t x vs
 | .int _,_,_,_,h=>h
 | .bool,_,_,_,h=>h
 | .str,_,_,_,h=>h
 | .unit,_,_,_,h=>h
 | .pair a b,x,vs,hf,h=>by
   simp only [Ty.flat] at hf
   split at hf <;> try (cases hf;done)
   rename_i ha
   obtain ⟨us,ws,h1,h2,h3⟩:=h
   exact ⟨us,ws,h1,RelEl_flat ha h2,RelEl_flat hf h3⟩
 | .slice t,_,_,hf,_=>by simp [Ty.flat] at hf
 | .fn1 _ _,_,_,hf,_=>by simp [Ty.flat] at hf
 | .fn2 _ _,_,_,hf,_=>by simp [Ty.flat] at hf
 | .opt _,_,_,hf,_=>by simp [Ty.flat] at hf
 | .code,_,_,_,h=>h
theorem naRows_get:∀ {l:List AObj} {i:Nat} {o:AObj},naRows l=true→l[i]?=some o→RowH g K R w i o→RowH g K R2 w i o:=by
 intro l i o h ho hr
 have:naRows [o]=true:=by
  clear hr
  induction l generalizing i with
  | nil=>simp at ho
  | cons x l ih =>
    cases i with
    | zero =>
      simp at ho;subst ho
      cases x with
      | box cs=>simp [naRows] at h
      | seq t xs =>
        simp only [naRows] at h ⊢
        split at h
        ·rename_i h1;simp [h1]
        ·cases h
      | arr t xss hl =>
        simp only [naRows] at h ⊢
        split at h
        ·rename_i h1;simp [h1]
        ·cases h
      | map a b l=>simp [naRows] at h
      | yp k=>simp [naRows] at h
      | yld t two Y p=>simp [naRows] at h
      | mit m k v kvs cur G=>simp [naRows] at h
      | mit0=>simp [naRows] at h
      | bld T e u l=>simp [naRows] at h
      | bag t xs=>simp [naRows] at h
      | pend m k v kvs j=>simp [naRows] at h
      | mmap k a b kvss h0=>simp [naRows] at h
      | dead=>rfl
    | succ i =>
      refine ih (i:=i) ?_ (by simpa using ho)
      cases x with
      | box cs=>simp [naRows] at h
      | seq t xs =>
        simp only [naRows] at h
        split at h
        ·exact h
        ·cases h
      | arr t xss hl =>
        simp only [naRows] at h
        split at h
        ·exact h
        ·cases h
      | map a b l=>simp [naRows] at h
      | yp k=>simp [naRows] at h
      | yld t two Y p=>simp [naRows] at h
      | mit m k v kvs cur G=>simp [naRows] at h
      | mit0=>simp [naRows] at h
      | bld T e u l=>simp [naRows] at h
      | bag t xs=>simp [naRows] at h
      | pend m k v kvs j=>simp [naRows] at h
      | mmap k a b kvss h0=>simp [naRows] at h
      | dead=>simpa only [naRows] using h
 cases o with
 | box cs=>simp [naRows] at this
 | map a b l=>simp [naRows] at this
 | yp k=>simp [naRows] at this
 | yld t two Y p=>simp [naRows] at this
 | mit m k v kvs cur G=>simp [naRows] at this
 | mit0=>simp [naRows] at this
 | bld T e u l=>simp [naRows] at this
 | bag t xs=>simp [naRows] at this
 | pend m k v kvs j=>simp [naRows] at this
 | mmap k a b kvss h0=>simp [naRows] at this
 | seq t xs =>
   have hf:t.flat=true:=by
    simp only [naRows] at this
    split at this
    ·assumption
    ·cases this
   obtain ⟨e,vs,h1,h2,h3⟩:=hr
   exact ⟨e,vs,h1,lay_mono (fun _ _=>RelEl_flat hf) h2,h3⟩
 | arr t xss hl =>
   have hf:t.flat=true:=by
    simp only [naRows] at this
    split at this
    ·assumption
    ·cases this
   obtain ⟨vs,ty,hh,ha⟩:=hr
   refine ⟨vs,ty,hh,⟨ha.len,ha.one,fun i v xs h1 h2 h3=>?_,ha.off,ha.sep⟩⟩
   obtain ⟨e,us,h4,h5,h6⟩:=ha.el i v xs h1 h2 h3
   exact ⟨e,us,h4,lay_mono (fun _ _=>RelEl_flat hf) h5,h6⟩
 | dead=>trivial
end
theorem expRows_get {st:St} {src:Nat→Option (Option Nat)}:∀ {l:List AObj} {j i:Nat} {o:AObj},expRows st src j l→l[i]?=some o→expRow st src (j+i) o
 | [],_,_,_,_,h=>by simp at h
 | x::l,j,0,o,h,ho=>by simp at ho;subst ho;exact h.1
 | x::l,j,i+1,o,h,ho=>by
   have:=expRows_get h.2 (by simpa using ho)
   rwa [show j+1+i=j+(i+1) by omega] at this
section
variable {P:Program} {tt:TT} {S:Nat→Option Spec}
theorem spec_of_wps (hT:TTok P tt) {f:Nat} {fn:Func} {c:Code} {s:Spec} (hf:P.funcs[f]?=some fn) (hb:fn.body=some c)
 (h:∀ args rows out,s.f args rows=some out→out.pre→(s.raw=false→rows=[])→args.length≤fn.ntmps ∧
  ∀ (C:Ctx) (g:Nat→Gh) (R:Nat→Prop) (a:Act) (w:World) (Q:Exit→Act→World→Prop),Rel C g R (St.init fn.ntmps args rows) a w →
   (∀ C' e s g' R' a' w',Later C C'→endOf tt fn.results.toList rows.length out e s→Rel C' g' R' s a' w'→Q (toExit e) a' w')→c.wpIn (FR none) 0 P Q a w):SpecSound P f s:=by
 intro args rows out hout hpre hraw w0 g0 R0 vals hR hrow hown hsep hargs
 obtain ⟨hlen,hwp⟩:=h args rows out hout hpre hraw
 refine callsIn_wide (n:=0).1 (callsIn_of_wp_marks hf hb trivial ?_)
 refine hwp _ _ _ _ _ _ (init_rel hlen hR hrow hown hsep hargs) ?_
 intro C' e st g' R' a1 w1 hlater hz hrel1
 have hfin:∃ news vs,Fin tt fn.results.toList rows.length out st news vs:=by
  cases e with
  | exit _=>exact hz.elim
  | normal=>exact hz
  | ret=>exact hz
 obtain ⟨news,vs,fin⟩:=hfin
 obtain ⟨w',hrel,hclose⟩:=close_marks (P:=P) (F:=Fence.wide) (n:=0) hrel1 hlater rfl
 obtain ⟨a',ha'⟩:∃ a':Act,a'=⟨a1.tmps,[]⟩:=⟨_,rfl⟩
 rw [← ha'] at hrel
 have hat:a1.tmps=a'.tmps:=by rw [ha']
 rw [hat] at hclose
 obtain ⟨u,hrun,hv⟩:=results_sound hT hrel fin.res
 have hpost:∀ x,toExit e=x→bodyPostM Fence.wide 0 P fn (fun e w'=>∃ v g' R',e=.returned v∧HeapR ⟨w0,pasOf g0 w0 rows,R0,g',[]⟩ g' R' (locK out.rows) (locRow out.rows) w' ∧
  (∀ i,i < rows.length→g' i=g0 i)∧rows.length≤out.rows.length∧RelV g' (locK out.rows) R' w' out.ret v ∧
  (out.al=false→RelV g' (locK out.rows) (freshR w0 R') w' out.ret v∧∀ i o,out.rows[i]?=some o→RowH g' (locK out.rows) (freshR w0 R') w' i o)) x a1 w1:=by
  have hmain:∃ v,(results fn a'.tmps).run P w'=.ok v w'∧(∃ v' g' R',Ending.returned v=.returned v'∧HeapR ⟨w0,pasOf g0 w0 rows,R0,g',[]⟩ g' R' (locK out.rows) (locRow out.rows) w' ∧
   (∀ i,i < rows.length→g' i=g0 i)∧rows.length≤out.rows.length∧RelV g' (locK out.rows) R' w' out.ret v' ∧
   (out.al=false→RelV g' (locK out.rows) (freshR w0 R') w' out.ret v'∧∀ i o,out.rows[i]?=some o→RowH g' (locK out.rows) (freshR w0 R') w' i o)):=by
   refine ⟨u,hrun,?_⟩
   have hh:=hrel.heap
   have hol:out.rows.length=rows.length+news.length:=by have:=fin.len;rwa [lenL_spec,lenL_spec] at this
   obtain ⟨src,hsrc⟩:∃ src,src=srcOf rows.length news:=⟨_,rfl⟩
   obtain ⟨gL,hgL⟩:∃ gL:Nat→Gh,gL=fun i=>match src i with|some (some k)=>g' k|_=>⟨0,.slice none 0 0⟩:=⟨_,rfl⟩
   have hsp:∀ i,i < rows.length→src i=some (some (100000+i)):=fun i hi=>by
    rw [hsrc];unfold srcOf
    rw [show Nat.blt i rows.length=true by simpa using hi]
   have hsn:∀ i,¬ i < rows.length→src i=news[i - rows.length]?:=fun i hi=>by
    rw [hsrc];unfold srcOf
    rw [show Nat.blt i rows.length=false by cases hb:Nat.blt i rows.length with|false=>rfl|true=>exact absurd (by simpa using hb) hi]
    exact nth_spec
   have hok:SrcOk src (locK out.rows) g' gL:=by
    refine ⟨fun i x h=>?_,fun i k h=>by rw [hgL];simp [h],fun i h=>by rw [hgL];simp [h]⟩
    show i < out.rows.length
    by_cases hi:i < rows.length
    ·omega
    ·rw [hsn i hi] at h
     have:=(List.getElem?_eq_some_iff.1 h).1
     omega
   obtain ⟨hnd,hnk⟩:nodupK (someK news)=true∧∀ k∈someK news,k < 100000∧mem st.ks k=true:=by
    have:=fin.news
    unfold newsOk at this
    split at this
    ·rename_i h1
     refine ⟨h1,fun k hk=>?_⟩
     have h2:=List.all_eq_true.1 this k hk
     simp only [Bool.and_eq_true] at h2
     exact ⟨by simpa using h2.1,h2.2⟩
    ·cases this
   have hinj:∀ i j k,src i=some (some k)→src j=some (some k)→i=j:=fun i j k h1 h2=>by
    by_cases hi:i < rows.length
    ·rw [hsp i hi] at h1
     cases h1
     by_cases hj:j < rows.length
     ·rw [hsp j hj] at h2
      simp at h2;omega
     ·rw [hsn j hj] at h2
      have:=(hnk _ (nth_someK h2)).1
      omega
    ·rw [hsn i hi] at h1
     by_cases hj:j < rows.length
     ·rw [hsp j hj] at h2
      cases h2
      have:=(hnk _ (nth_someK h1)).1
      omega
     ·rw [hsn j hj] at h2
      have:=someK_inj hnd h1 h2
      omega
   have hrows:∀ i o,out.rows[i]?=some o→expRow st src i o:=fun i o ho=>by
    have:=expRows_get fin.rows ho
    rw [hsrc];simpa using this
   have hheld:∀ i o,out.rows[i]?=some o→RowH gL (locK out.rows) R' w' i o∧∀ b,Own gL w' i o b→∃ k o',src i=some (some k)∧look st.rows k=some o'∧Own g' w' k o' b:=fun i o ho=>by
    have h1:=hrows i o ho
    unfold expRow at h1
    split at h1
    ·rename_i k hk
     split at h1
     ·rename_i o' ho'
      obtain ⟨h2,h3⟩:=expO_rel hok (hok.key i k hk) h1 (hh.held k o' ho')
      exact ⟨h2,fun b hb=>⟨k,o',hk,ho',h3 b hb⟩⟩
     ·split at h1
      ·exact ⟨trivial,fun b hb=>by simp [Own] at hb⟩
      ·exact h1.elim
    ·rename_i hk
     split at h1
     ·rename_i t xs
      subst h1
      have e:(gL i).v=.slice none 0 0:=by rw [hok.nil i hk]
      refine ⟨⟨0,[],?_,rfl,by simp⟩,fun b hb=>?_⟩
      ·rw [e];exact ownsSeq_nil w' 0 t.size none
      ·simp [Own,e,blkOf] at hb
     ·exact ⟨trivial,fun b hb=>by simp [Own] at hb⟩
     ·exact h1.elim
    ·exact h1.elim
   have hret:RelV gL (locK out.rows) R' w' out.ret u:=expV_rel hok (by rw [hsrc];exact fin.ret) hv
   refine ⟨u,gL,R',rfl,⟨hh.hsize,hh.os,hh.tape,hh.output,hh.frame,hh.rsub,hh.rlt,hh.rnew,fun _ _ _=>rfl,fun i o ho=>(List.getElem?_eq_some_iff.1 ho).1,fun i o ho=>(hheld i o ho).1,fun i o b ho hb=>?_,fun i j o o' b ho ho' hb hb'=>?_⟩,fun i hi=>?_,by omega,hret,fun hal=>?_⟩
   ·obtain ⟨k,o',h1,h2,h3⟩:=(hheld i o ho).2 b hb
    exact hh.own k o' b h2 h3
   ·obtain ⟨k,x,h1,h2,h3⟩:=(hheld i o ho).2 b hb
    obtain ⟨k',x',h4,h5,h6⟩:=(hheld j o' ho').2 b hb'
    have:=hh.sep k k' x x' b h2 h5 h3 h6
    subst this
    exact hinj i j k h1 h4
   ·rw [hok.key i _ (hsp i hi)]
    have hk:mem st.ks (100000+i)=true:=List.all_eq_true.1 fin.pas (100000+i) (by rw [← mem_iff,mem_upTo];omega)
    rw [hh.gfix (100000+i) (by omega) hk]
    simp
   ·obtain ⟨_,h1,h2⟩:=fin.na hal
    exact ⟨RelV_na h1 hret,fun i o ho=>naRows_get h2 ho (hheld i o ho).1⟩
  intro x hx
  subst hx
  cases e with
  | exit _=>exact hz.elim
  | normal =>
    show LeavesInM Fence.wide 0 P fn a1.tmps _ a1.defers .returning w1
    rw [hat]
    exact hclose fn _ hmain
  | ret =>
    show LeavesInM Fence.wide 0 P fn a1.tmps _ a1.defers .returning w1
    rw [hat]
    exact hclose fn _ hmain
 exact hpost _ rfl
theorem spec_of_body (hT:TTok P tt) (hS:SigOk P S) (hm:P.follows .mixedOrders=true) {f:Nat} {fn:Func} {c:Code} {s:Spec} (hf:P.funcs[f]?=some fn) (hb:fn.body=some c) (hc:codeOk c=true)
 (h:∀ args rows out,s.f args rows=some out→out.pre→(s.raw=false→rows=[])→args.length≤fn.ntmps∧wp tt S c (St.init fn.ntmps args rows) (endOf tt fn.results.toList rows.length out)):SpecSound P f s :=
 spec_of_wps hT hf hb fun args rows out h1 h2 h3=>by
  obtain ⟨h4,h5⟩:=h args rows out h1 h2 h3
  exact ⟨h4,fun C g R a w Q hrel hq=>wp_sound (ro:=none) hT hS hm hc h5 hrel fun e s g' R' a' w' hz hr=>hq C e s g' R' a' w' (Later.refl C) hz hr⟩
end
end Go.AM
end

section
namespace Go.AM
section
variable {H:Type} {enc0:TypeId × Value→H} {P:Program} {W:World} {base:Nat} {sp:Nat→Bool} {held:Bool}
def partsOk (P:Program) (f:TypeId→Ty→Bool):Nat→List (Nat × TypeId)→Ty→Bool
 | _,[],.unit=>true
 | off,[(o,t)],ty=>Nat.beq o off&&f t ty&&Nat.beq (P.cellsOf t) ty.size
 | off,(o,t)::r,.pair a b=>Nat.beq o off&&f t a&&Nat.beq (P.cellsOf t) a.size&&partsOk P f (off+a.size) r b
 | _,_,_=>false
def dataOk (P:Program):Nat→TypeId→Ty→Bool
 | 0,_,_=>false
 | n+1,t,ty=>match P.underlying t with
   | some (.int k)=>match ty with
     | .int l=>kindEq k l
     | _=>false
   | some .bool=>match ty with
     | .bool=>true
     | _=>false
   | some .string=>match ty with
     | .str=>true
     | _=>false
   | some (.slice e)=>match ty with
     | .slice u=>dataOk P n e u&&Nat.beq (P.cellsOf e) u.size&&Nat.blt 0 u.size
     | _=>false
   | some (.struct fs)=>partsOk P (dataOk P n) 0 (fs.toList.map fun f=>(f.offset,f.type)) ty&&Nat.beq (P.cellsOf t) ty.size
   | some (.array len e)=>partsOk P (dataOk P n) 0 ((List.range len).map fun i=>(i * P.cellsOf e,e)) ty&&Nat.beq (P.cellsOf t) ty.size
   | _=>false
theorem wf_wrap_eq {k:IntKind} {n:Int} (h:(Lit.int k n).wf=true):k.wrap n=n:=by
 simp only [Lit.wf,Bool.and_eq_true,decide_eq_true_eq] at h
 cases k <;> simp [IntKind.wrap,IntKind.min,IntKind.max,IntKind.signed,IntKind.bits] at h ⊢ <;> (try split) <;> omega
theorem Addr.add_add' (a:Addr) (i j:Nat):(a.add i).add j=a.add (i+j):=by
 unfold Addr.add
 by_cases hi:i=0
 ·subst hi;simp
 ·by_cases hj:j=0
  ·subst hj;simp [hi]
  ·simp [hi,hj,Nat.add_assoc]
theorem parts_rel {R:Nat→Prop} {f:TypeId→Ty→Bool} {Q:TypeId→List Value→Prop} (hf:∀ t ty cs,f t ty=true→Q t cs→∃ e:ty.El,RelEl R W ty e cs) {cs:List Value} :
 ∀ {l:List (Nat × TypeId)} {ty:Ty} {off:Nat},partsOk P f off l ty=true→off+ty.size=cs.length→(∀ o t,(o,t)∈l→Q t ((cs.drop o).take (P.cellsOf t)))→∃ e:ty.El,RelEl R W ty e (cs.drop off)
 | [],ty,off,h,hl,hq=>by
   cases ty with
   | unit =>
     simp only [Ty.size] at hl
     exact ⟨(),by simp [RelEl];omega⟩
   | _=>simp [partsOk] at h
 | [(o,t)],ty,off,h,hl,hq=>by
   simp only [partsOk,Bool.and_eq_true] at h
   obtain ⟨⟨h1,h2⟩,h3⟩:=h
   obtain rfl:=beq_eq h1
   have hq1:=hq o t (by simp)
   rw [beq_eq h3,List.take_of_length_le (by simp;omega)] at hq1
   exact hf t ty _ h2 hq1
 | (o,t)::y::r,ty,off,h,hl,hq=>by
   cases ty with
   | pair a b =>
     simp only [partsOk,Bool.and_eq_true] at h
     obtain ⟨⟨⟨h1,h2⟩,h3⟩,h4⟩:=h
     obtain rfl:=beq_eq h1
     simp only [Ty.size] at hl
     have hq1:=hq o t (by simp)
     rw [beq_eq h3] at hq1
     obtain ⟨x,hx⟩:=hf t a _ h2 hq1
     obtain ⟨z,hz⟩:=parts_rel hf h4 (by omega) (fun o' t' hm=>hq o' t' (List.mem_cons_of_mem _ hm))
     exact ⟨(x,z),_,_,by rw [← List.drop_drop,List.take_append_drop],hx,hz⟩
   | _=>simp [partsOk] at h
theorem rows_rel {α:Type} {p:α→List Value→Prop} {a:Addr} {c len:Nat} (h:∀ i,i < len→∃ (e:α) (cs:List Value),p e cs∧cs.length=c∧∀ j,j < c→W.cell? ((a.add (i * c)).add j)=cs[j]?) :
 ∀ k,k≤len→∃ (xs:List α) (vs:List Value),xs.length=k∧vs.length=k * c∧lay p xs vs∧∀ j u,vs[j]?=some u→W.cell? (a.add j)=some u
 | 0,_=>⟨[],[],rfl,by simp,rfl,by simp⟩
 | k+1,hk=>by
   obtain ⟨xs,vs,h1,h2,h3,h4⟩:=rows_rel h k (by omega)
   obtain ⟨e,cs,h5,h6,h7⟩:=h k (by omega)
   refine ⟨xs++[e],vs++cs,by simp [h1],by simp [h2,h6,Nat.succ_mul],lay_append h3 ⟨cs,[],by simp,h5,rfl⟩,fun j u hu=>?_⟩
   by_cases hj:j < vs.length
   ·rw [List.getElem?_append_left hj] at hu;exact h4 j u hu
   ·rw [List.getElem?_append_right (by omega)] at hu
    have hlt:=(List.getElem?_eq_some_iff.1 hu).1
    have:=h7 (j - vs.length) (by omega)
    rw [Addr.add_add',hu] at this
    rwa [show k * c+(j - vs.length)=j by omega] at this
theorem open_data:∀ (n:Nat) (t:TypeId) (ty:Ty) (cs:List Value) (fuel:Nat) (x:DataW H × List MemPlace),dataOk P n t ty=true→DataW.trod enc0 P W base sp held fuel t cs=some x→∃ e:ty.El,RelEl (fun b=>b < W.heap.size) W ty e cs
 | 0,_,_,_,_,_,h,_=>by simp [dataOk] at h
 | n+1,t,ty,cs,fuel,x,h,hx=>by
   have ih:=open_data n
   simp only [dataOk] at h
   split at h
   ·rename_i k hu
    split at h <;> try (cases h;done)
    obtain rfl:=kindEq_eq h
    obtain ⟨m,rfl,_,hw⟩:=DataW.trod_int hu hx
    exact ⟨m,rfl,wf_wrap_eq hw⟩
   ·rename_i hu
    split at h <;> try (cases h;done)
    obtain ⟨b,rfl,_⟩:=DataW.trod_bool hu hx
    exact ⟨b,rfl⟩
   ·rename_i hu
    split at h <;> try (cases h;done)
    obtain ⟨s,rfl,_,hs⟩:=DataW.trod_string hu hx
    exact ⟨s,rfl,hs⟩
   ·rename_i e hu
    split at h <;> try (cases h;done)
    rename_i u
    simp only [Bool.and_eq_true] at h
    obtain ⟨⟨h1,h2⟩,h3⟩:=h
    rcases Deep.open_slice hu hx with ⟨rfl,_⟩|⟨a,len,cap,m,k,D,Pl,rfl,_,hlc,hcm,hm,_,hel⟩
    ·exact ⟨[],_,rfl,Reads_nil _ _⟩
    ·have hml:len≤m:=by rw [hm];split <;> omega
     have hpos:0 < u.size:=by simpa using h3
     have hsz:=beq_eq h2
     obtain ⟨xs,vs,hxs,hvs,hlay,hcell⟩:=rows_rel (W:=W) (a:=a) (c:=P.cellsOf e) (len:=len) (p:=RelEl (fun b=>b < W.heap.size) W u) (fun i hi=>by
      obtain ⟨cs',hc,ht⟩:=hel i (by omega)
      obtain ⟨_,hc2,hc3⟩:=World.cells?_some hc
      obtain ⟨e',he'⟩:=ih e u cs' k _ h1 ht
      exact ⟨e',cs',he',hc2,hc3⟩) len (Nat.le_refl _)
     refine ⟨xs,_,rfl,some a,cap,by rw [hxs],by rw [hxs];exact hlc,hcm,by rw [hxs];omega,fun hl=>?_⟩
     have h0:∃ v,vs[0]?=some v:=by
      have:0 < vs.length:=by rw [hvs,hsz,← hxs];exact Nat.mul_pos hl hpos
      exact ⟨vs[0],List.getElem?_eq_getElem this⟩
     obtain ⟨v,hv⟩:=h0
     have hc0:=hcell 0 v hv
     have ha0:a.add 0=a:=by simp [Addr.add]
     rw [ha0] at hc0
     refine ⟨a,vs,rfl,?_,?_,hlay,hcell⟩
     ·unfold World.cell? at hc0
      split at hc0
      ·split at hc0
       ·cases hc0
       ·rename_i hs
        cases hsp:a.spot with
        | none=>rfl
        | some _=>rw [hsp] at hs;simp at hs
      ·cases hc0
     ·unfold World.cell? at hc0
      split at hc0
      ·rename_i hb;exact (Array.getElem?_eq_some_iff.1 hb).1
      ·cases hc0
   ·rename_i fs hu
    simp only [Bool.and_eq_true] at h
    obtain ⟨xs,m,rfl,_,hl,hxl,hf⟩:=DataW.trod_struct hu hx
    have:=parts_rel (P:=P) (W:=W) (R:=fun b=>b < W.heap.size) (f:=dataOk P n) (Q:=fun t cs=>∃ y,DataW.trod enc0 P W base sp held m t cs=some y) (fun t ty cs h1 ⟨y,hy⟩=>ih t ty cs m y h1 hy) (cs:=cs) h.1
     (by rw [hl,beq_eq h.2];simp) (fun o t ho=>by
      obtain ⟨fld,hfm,he⟩:=List.mem_map.1 ho
      cases he
      obtain ⟨i,hi,hie⟩:=List.getElem_of_mem hfm
      have hfi:fs[i]?=some fld:=by
       simp at hi
       rw [Array.getElem?_eq_getElem hi];simpa using hie
      have h2:=hf i fld hfi
      have hlt:i < xs.length:=by rw [hxl];simpa using hi
      rw [List.getElem?_eq_getElem hlt] at h2
      exact ⟨_,h2⟩)
    simpa using this
   ·rename_i len e hu
    simp only [Bool.and_eq_true] at h
    obtain ⟨xs,m,rfl,_,hl,hxl,hf⟩:=DataW.trod_array hu hx
    have:=parts_rel (P:=P) (W:=W) (R:=fun b=>b < W.heap.size) (f:=dataOk P n) (Q:=fun t cs=>∃ y,DataW.trod enc0 P W base sp held m t cs=some y) (fun t ty cs h1 ⟨y,hy⟩=>ih t ty cs m y h1 hy) (cs:=cs) h.1
     (by rw [hl,beq_eq h.2];simp) (fun o t ho=>by
      obtain ⟨i,hi,he⟩:=List.mem_map.1 ho
      cases he
      have hi':i < len:=by simpa using hi
      have h2:=hf i hi'
      rw [List.getElem?_eq_getElem (by omega)] at h2
      exact ⟨_,h2⟩)
    simpa using this
   ·cases h
def argOf (agg:Bool) (ty:Ty) (e:ty.El):AV:=match agg,enc ty e with
 | true,cs=>.agg cs
 | false,[c]=>c
 | _,_=>.junk
theorem arg_rel {g:Nat→Gh} {K:Nat→Prop} {r:Reach} {b0:Nat} {t:TypeId} {ty:Ty} {v:Value} {d:DataW H} {ps:List MemPlace} {agg:Bool} (hok:Value.okWide P W r b0 t v) (h:DataW.Trod enc0 P W base sp held t v d ps) (hd:dataOk P 20 t ty=true) (ha:isAggOf P t=agg) :
 ∃ e:ty.El,RelV g K (fun b=>b < W.heap.size) W (argOf agg ty e) v:=by
 obtain ⟨fuel,h⟩:=h
 obtain ⟨e,he⟩:=open_data 20 t ty v.cells.toList fuel _ hd h
 refine ⟨e,?_⟩
 have hl:=RelEl_enc (g:=g) (K:=K) he
 unfold argOf
 split
 ·rename_i cs
  have:∃ vs,v=.agg vs:=by
   unfold isAggOf at ha
   unfold Value.okWide at hok
   split at ha
   ·rename_i fs hu;rw [hu] at hok;obtain ⟨vs,h1,_⟩:=hok;exact ⟨vs,h1⟩
   ·rename_i len el hu;rw [hu] at hok;obtain ⟨vs,h1,_⟩:=hok;exact ⟨vs,h1⟩
   ·cases ha
  obtain ⟨vs,rfl⟩:=this
  simp only [Value.cells] at hl
  have:=RelV.agg hl
  simpa using this
 ·rename_i c hc
  rw [hc] at hl
  cases hv:v.cells.toList with
  | nil=>rw [hv] at hl;cases hl
  | cons u us =>
    rw [hv] at hl
    cases hl with
    | cons h1 h2 =>
      cases h2
      have:v=u:=by
       have hna:∀ vs,v≠.agg vs:=fun vs hvs=>by
        subst hvs
        unfold isAggOf at ha
        unfold Value.okWide at hok
        split at ha
        ·cases ha
        ·cases ha
        ·split at hok
         ·simp_all
         ·simp_all
         ·unfold Cell.okWide at hok
          split at hok <;> simp_all [Cell.ok]
       cases v <;> simp_all [Value.cells]
      subst this
      exact h1
 ·exact .junk
end
end Go.AM
end

section
namespace Go.AM
open Go.RowKit
theorem law_walk {P:Program} {f:Nat} {s:Spec} (hs:SpecSound P f s) {args:List AV} {vals:List Value} {W:World} {out:Out} (hf:s.f args []=some out) (hpre:out.pre) (hret:out.ret=.bool true)
 (hargs:RelL (fun _=>⟨0,.slice none 0 0⟩) (locK []) (fun b=>b < W.heap.size) W args vals):Calls P f vals.toArray W fun e w'=>e=.returned (.bool true)∧Below W.heap.size W w':=by
 refine (hs args [] out hf hpre (fun _=>rfl) W (fun _=>⟨0,.slice none 0 0⟩) (fun b=>b < W.heap.size) vals (fun _ h=>h) (fun i o h=>by simp at h) (fun i o b h=>by simp at h) (fun i j o o' b h=>by simp at h) hargs).mono ?_
 rintro e w' ⟨v,g',R',rfl,hh,_,_,hv,_⟩
 rw [hret] at hv
 cases hv
 exact ⟨rfl,hh.os,hh.tape,hh.output,hh.hsize,fun k hk=>hh.frame k hk (fun ⟨i,o,h,_⟩=>by simp at h)⟩
end Go.AM
end

section
namespace Go.AM.YtbepaplaahcnkaaGreat
open Go.Proofs
def ttL:List (Nat × TI):=[
 (4,⟨1,false,.bool false,.bool,some .bool⟩),
 (25,⟨1,false,.nilsl,(.slice (.int .i64) 1 8 [.int .i64 0]),none⟩),
 (23,⟨1,false,.nilsl,(.slice (.pair (.int .i64) (.pair (.int .i64) (.int .i64))) 3 24 [.int .i64 0,.int .i64 0,.int .i64 0]),none⟩),
 (105,⟨1,false,.int .i64 0,(.int .i64),some (.int .i64)⟩),
 (68,⟨3,true,.agg [.int .i64 0,.int .i64 0,.int .i64 0],(.arr 3 1 false),none⟩),
 (24,⟨4,true,.agg [.int .i64 0,.int .i64 0,.int .i64 0,.int .i64 0],(.arr 4 1 false),none⟩),
 (124,⟨1,false,.int .u64 0,(.int .u64),some (.int .u64)⟩),
 (22,⟨1,false,.nilsl,(.slice (.pair (.int .i64) (.pair (.int .i64) (.pair (.int .i64) (.pair (.int .i64) (.pair (.int .i64) (.int .i64)))))) 6 48 [.int .i64 0,.int .i64 0,.int .i64 0,.int .i64 0,.int .i64 0,.int .i64 0]),none⟩),
 (64,⟨1,false,.nilsl,(.slice (.pair (.int .i64) (.pair (.int .i64) (.pair (.pair (.int .i64) (.int .i64)) (.pair (.int .i64) (.int .i64))))) 6 48 [.int .i64 0,.int .i64 0,.int .i64 0,.int .i64 0,.int .i64 0,.int .i64 0]),none⟩),
 (47,⟨1,false,.nilsl,(.slice (.pair (.int .i64) (.pair (.int .i64) (.int .i64))) 3 24 [.int .i64 0,.int .i64 0,.int .i64 0]),none⟩),
 (66,⟨5,true,.agg [.int .i64 0,.int .i64 0,.int .i64 0,.nilsl,.nilsl],(.struct [(0,1),(1,1),(2,1),(3,1),(4,1)]),none⟩),
 (61,⟨5,true,.agg [.nilsl,.nilsl,.int .i64 0,.int .i64 0,.int .i64 0],(.struct [(0,1),(1,1),(2,1),(3,1),(4,1)]),none⟩),
 (102,⟨1,false,.nilsl,(.slice (.pair (.int .i64) (.pair (.int .i64) (.pair (.int .i64) (.int .i64)))) 4 32 [.int .i64 0,.int .i64 0,.int .i64 0,.int .i64 0]),none⟩),
 (104,⟨2,true,.agg [.int .i64 0,.int .i64 0],(.struct [(0,1),(1,1)]),some (.pair (.int .i64) (.int .i64))⟩),
 (172,⟨4,true,.agg [.int .i64 0,.int .i64 0,.int .i64 0,.int .i64 0],(.struct [(0,1),(1,1),(2,1),(3,1)]),some (.pair (.int .i64) (.pair (.int .i64) (.pair (.int .i64) (.int .i64))))⟩),
 (57,⟨2,true,.agg [.int .i64 0,.int .i64 0],(.struct [(0,1),(1,1)]),some (.pair (.int .i64) (.int .i64))⟩),
 (59,⟨6,true,.agg [.int .i64 0,.int .i64 0,.int .i64 0,.int .i64 0,.int .i64 0,.int .i64 0],(.struct [(0,1),(1,1),(2,2),(4,2)]),some (.pair (.int .i64) (.pair (.int .i64) (.pair (.pair (.int .i64) (.int .i64)) (.pair (.int .i64) (.int .i64)))))⟩),
 (46,⟨3,true,.agg [.int .i64 0,.int .i64 0,.int .i64 0],(.struct [(0,1),(1,1),(2,1)]),some (.pair (.int .i64) (.pair (.int .i64) (.int .i64)))⟩),
 (67,⟨6,true,.agg [.int .i64 0,.int .i64 0,.int .i64 0,.int .i64 0,.int .i64 0,.int .i64 0],(.arr 6 1 false),none⟩),
 (144,⟨2,true,.agg [.int .i64 0,.int .i64 0],(.arr 2 1 false),none⟩),
 (222,⟨2,true,.agg [.int .i64 0,.int .i64 0],(.struct [(0,1),(1,1)]),some (.pair (.int .i64) (.int .i64))⟩),
 (161,⟨1,false,.nilfn,.fn,none⟩),
 (79,⟨1,false,.ext .nilm,(.map (.int .i64) .bool (.bool false)),none⟩),
 (159,⟨1,false,.nilsl,(.slice (.int .i64) 1 8 [.int .i64 0]),none⟩),
 (112,⟨1,false,.ext .nilm,(.map (.int .i64) (.int .i64) (.int .i64 0)),none⟩),
 (111,⟨1,false,.nilfn,.fn,none⟩),
 (252,⟨1,false,.nilptr,.ptr,none⟩),
 (48,⟨1,false,.nilsl,(.slice (.pair (.int .i64) (.pair (.slice (.int .i64)) (.pair (.int .i64) (.pair (.int .i64) (.pair (.slice (.int .i64)) (.pair (.int .i64) (.int .i64))))))) 7 88 [.int .i64 0,.nilsl,.int .i64 0,.int .i64 0,.nilsl,.int .i64 0,.int .i64 0]),none⟩),
 (50,⟨4,true,.agg [.int .i64 0,.int .i64 0,.nilsl,.nilsl],(.struct [(0,1),(1,1),(2,1),(3,1)]),none⟩),
 (52,⟨7,true,.agg [.int .i64 0,.nilsl,.int .i64 0,.int .i64 0,.nilsl,.int .i64 0,.int .i64 0],(.struct [(0,1),(1,1),(2,1),(3,1),(4,1),(5,1),(6,1)]),none⟩),
 (151,⟨1,false,.nilfn,.fn,none⟩),
 (209,⟨1,false,.nilsl,(.slice (.opt (.pair (.int .i64) (.slice (.int .i64)))) 1 8 [.nilptr]),none⟩),
 (208,⟨1,false,.nilptr,.ptr,none⟩),
 (213,⟨2,true,.agg [.int .i64 0,.nilsl],(.struct [(0,1),(1,1)]),none⟩),
 (247,⟨1,false,.nilsl,(.slice .bool 1 1 [.bool false]),none⟩),
 (248,⟨1,false,.nilfn,.fn,none⟩),
 (120,⟨1,false,.nilfn,.fn,none⟩),
 (214,⟨1,false,.nilsl,(.slice (.slice (.int .i64)) 1 24 [.nilsl]),none⟩),
 (54,⟨2,true,.agg [.int .i64 0,.nilsl],(.struct [(0,1),(1,1)]),none⟩),
 (5,⟨1,false,.int .u8 0,(.int .u8),some (.int .u8)⟩),
 (9,⟨1,false,.str ByteArray.empty,.str,some .str⟩),
 (27,⟨1,false,.nilsl,(.slice (.pair (.int .i64) (.pair (.int .i64) (.pair (.int .i64) (.pair (.int .i64) (.pair .bool (.pair (.int .i64) (.pair (.int .i64) (.pair (.int .i64) (.pair (.int .i64) (.pair (.int .i64) (.pair (.int .i64) (.pair (.int .i64) (.pair (.int .i64) (.pair (.int .i64) (.pair (.int .i64) (.pair (.int .i64) (.pair (.int .i64) (.pair (.int .i64) .str)))))))))))))))))) 19 160 [.int .i64 0,.int .i64 0,.int .i64 0,.int .i64 0,.bool false,.int .i64 0,.int .i64 0,.int .i64 0,.int .i64 0,.int .i64 0,.int .i64 0,.int .i64 0,.int .i64 0,.int .i64 0,.int .i64 0,.int .i64 0,.int .i64 0,.int .i64 0,.str ByteArray.empty]),none⟩),
 (31,⟨19,true,.agg [.int .i64 0,.int .i64 0,.int .i64 0,.int .i64 0,.bool false,.int .i64 0,.int .i64 0,.int .i64 0,.int .i64 0,.int .i64 0,.int .i64 0,.int .i64 0,.int .i64 0,.int .i64 0,.int .i64 0,.int .i64 0,.int .i64 0,.int .i64 0,.str ByteArray.empty],(.struct [(0,1),(1,1),(2,1),(3,1),(4,1),(5,1),(6,1),(7,1),(8,1),(9,1),(10,1),(11,1),(12,1),(13,1),(14,1),(15,1),(16,1),(17,1),(18,1)]),some (.pair (.int .i64) (.pair (.int .i64) (.pair (.int .i64) (.pair (.int .i64) (.pair .bool (.pair (.int .i64) (.pair (.int .i64) (.pair (.int .i64) (.pair (.int .i64) (.pair (.int .i64) (.pair (.int .i64) (.pair (.int .i64) (.pair (.int .i64) (.pair (.int .i64) (.pair (.int .i64) (.pair (.int .i64) (.pair (.int .i64) (.pair (.int .i64) .str))))))))))))))))))⟩),
 (34,⟨5,true,.agg [.int .i64 0,.int .i64 0,.int .i64 0,.int .i64 0,.int .i64 0],(.struct [(0,1),(1,1),(2,1),(3,1),(4,1)]),some (.pair (.int .i64) (.pair (.int .i64) (.pair (.int .i64) (.pair (.int .i64) (.int .i64)))))⟩),
 (36,⟨1,false,.nilsl,(.slice (.pair (.int .i64) (.pair (.int .i64) (.slice (.int .i64)))) 3 40 [.int .i64 0,.int .i64 0,.nilsl]),none⟩),
 (39,⟨11,true,.agg [.nilsl,.nilsl,.nilsl,.nilsl,.nilsl,.nilsl,.nilsl,.nilsl,.nilsl,.nilsl,.nilsl],(.struct [(0,1),(1,1),(2,1),(3,1),(4,1),(5,1),(6,1),(7,1),(8,1),(9,1),(10,1)]),none⟩),
 (42,⟨3,true,.agg [.int .i64 0,.int .i64 0,.nilsl],(.struct [(0,1),(1,1),(2,1)]),none⟩),
 (71,⟨2,true,.agg [.int .i64 0,.int .i64 0],(.struct [(0,1),(1,1)]),some (.pair (.int .i64) (.int .i64))⟩),
 (72,⟨1,false,.nilfn,.fn,none⟩),
 (73,⟨1,false,.nilfn,.fn,none⟩),
 (75,⟨1,false,.nilsl,(.slice (.fn1 (.pair (.int .i64) (.pair (.int .i64) (.pair (.int .i64) (.pair (.int .i64) (.pair .bool (.pair (.int .i64) (.pair (.int .i64) (.pair (.int .i64) (.pair (.int .i64) (.pair (.int .i64) (.pair (.int .i64) (.pair (.int .i64) (.pair (.int .i64) (.pair (.int .i64) (.pair (.int .i64) (.pair (.int .i64) (.pair (.int .i64) (.pair (.int .i64) .str)))))))))))))))))) .bool) 1 8 [.nilfn]),none⟩),
 (77,⟨1,false,.ext .nilm,(.mmap (.int .i64) (.int .i64) .bool),none⟩),
 (82,⟨1,false,.ext .nilm,(.map .str (.pair (.int .i64) (.pair (.int .i64) (.pair (.int .i64) (.pair (.int .i64) (.pair .bool (.pair (.int .i64) (.pair (.int .i64) (.pair (.int .i64) (.pair (.int .i64) (.pair (.int .i64) (.pair (.int .i64) (.pair (.int .i64) (.pair (.int .i64) (.pair (.int .i64) (.pair (.int .i64) (.pair (.int .i64) (.pair (.int .i64) (.pair (.int .i64) .str)))))))))))))))))) (.agg [.int .i64 0,.int .i64 0,.int .i64 0,.int .i64 0,.bool false,.int .i64 0,.int .i64 0,.int .i64 0,.int .i64 0,.int .i64 0,.int .i64 0,.int .i64 0,.int .i64 0,.int .i64 0,.int .i64 0,.int .i64 0,.int .i64 0,.int .i64 0,.str ByteArray.empty])),none⟩),
 (86,⟨1,false,.ext .nilm,(.map (.int .i64) (.pair .code .code) (.agg [.nilfn,.nilfn])),none⟩),
 (88,⟨1,false,.nilptr,.ptr,none⟩),
 (89,⟨1,false,.nilfn,.fn,none⟩),
 (90,⟨1,false,.nilfn,.fn,none⟩),
 (92,⟨2,true,.agg [.nilfn,.nilfn],(.struct [(0,1),(1,1)]),none⟩),
 (93,⟨1,false,.nilptr,.ptr,none⟩),
 (113,⟨1,false,.ext .nilm,(.map (.int .i64) (.int .i64) (.int .i64 0)),none⟩),
 (117,⟨1,false,.nilfn,.fn,none⟩),
 (125,⟨1,false,.nilptr,.ptr,none⟩),
 (126,⟨1,false,.nilptr,.ptr,none⟩),
 (127,⟨1,false,.nilsl,(.slice (.int .u8) 1 1 [.int .u8 0]),none⟩),
 (129,⟨2,true,.agg [.nilptr,.nilsl],(.struct [(0,1),(1,1)]),none⟩),
 (131,⟨2,true,.agg [.nilptr,.nilsl],(.struct [(0,2)]),none⟩),
 (135,⟨1,false,.nilsl,(.slice (.pair .code (.pair (.int .i64) (.int .i64))) 3 24 [.nilfn,.int .i64 0,.int .i64 0]),none⟩),
 (137,⟨4,true,.agg [.nilsl,.nilsl,.nilfn,.bool false],(.struct [(0,1),(1,1),(2,1),(3,1)]),none⟩),
 (138,⟨1,false,.ext .nilm,(.map (.int .i64) (.pair (.slice (.pair .code (.pair (.int .i64) (.int .i64)))) (.pair (.slice (.pair .code (.pair (.int .i64) (.int .i64)))) (.pair (.fn1 (.pair (.int .i64) (.pair (.int .i64) (.pair (.int .i64) (.pair (.int .i64) (.pair .bool (.pair (.int .i64) (.pair (.int .i64) (.pair (.int .i64) (.pair (.int .i64) (.pair (.int .i64) (.pair (.int .i64) (.pair (.int .i64) (.pair (.int .i64) (.pair (.int .i64) (.pair (.int .i64) (.pair (.int .i64) (.pair (.int .i64) (.pair (.int .i64) .str)))))))))))))))))) .bool) .bool))) (.agg [.nilsl,.nilsl,.nilfn,.bool false])),none⟩),
 (147,⟨1,false,.nilfn,.fn,none⟩),
 (188,⟨1,false,.nilfn,.fn,none⟩),
 (190,⟨3,true,.agg [.nilfn,.int .i64 0,.int .i64 0],(.struct [(0,1),(1,1),(2,1)]),none⟩),
 (191,⟨1,false,.nilptr,.ptr,none⟩),
 (192,⟨1,false,.nilptr,.ptr,none⟩),
 (224,⟨1,false,.nilsl,(.slice (.pair (.int .i64) (.pair (.int .i64) (.pair (.int .i64) (.pair (.int .i64) (.pair .bool (.pair (.int .i64) (.pair (.int .i64) (.pair (.int .i64) (.pair (.int .i64) (.pair (.int .i64) (.pair (.int .i64) (.pair (.int .i64) (.pair (.int .i64) (.pair (.int .i64) (.pair (.int .i64) (.pair (.int .i64) (.pair (.int .i64) (.pair (.int .i64) .str)))))))))))))))))) 19 160 [.int .i64 0,.int .i64 0,.int .i64 0,.int .i64 0,.bool false,.int .i64 0,.int .i64 0,.int .i64 0,.int .i64 0,.int .i64 0,.int .i64 0,.int .i64 0,.int .i64 0,.int .i64 0,.int .i64 0,.int .i64 0,.int .i64 0,.int .i64 0,.str ByteArray.empty]),none⟩),
 (226,⟨19,true,.agg [.int .i64 0,.int .i64 0,.int .i64 0,.int .i64 0,.bool false,.int .i64 0,.int .i64 0,.int .i64 0,.int .i64 0,.int .i64 0,.int .i64 0,.int .i64 0,.int .i64 0,.int .i64 0,.int .i64 0,.int .i64 0,.int .i64 0,.int .i64 0,.str ByteArray.empty],(.struct [(0,1),(1,1),(2,1),(3,1),(4,1),(5,1),(6,1),(7,1),(8,1),(9,1),(10,1),(11,1),(12,1),(13,1),(14,1),(15,1),(16,1),(17,1),(18,1)]),some (.pair (.int .i64) (.pair (.int .i64) (.pair (.int .i64) (.pair (.int .i64) (.pair .bool (.pair (.int .i64) (.pair (.int .i64) (.pair (.int .i64) (.pair (.int .i64) (.pair (.int .i64) (.pair (.int .i64) (.pair (.int .i64) (.pair (.int .i64) (.pair (.int .i64) (.pair (.int .i64) (.pair (.int .i64) (.pair (.int .i64) (.pair (.int .i64) .str))))))))))))))))))⟩),
 (227,⟨1,false,.nilfn,.fn,none⟩),
 (233,⟨1,false,.nilfn,.fn,none⟩),
 (232,⟨1,false,.nilfn,.fn,none⟩),
 (186,⟨1,false,.int .u64 0,(.int .u64),some (.int .u64)⟩),
 (243,⟨1,false,.nilsl,(.slice (.slice (.pair .code (.pair (.int .i64) (.int .i64)))) 1 24 [.nilsl]),none⟩),
 (229,⟨1,false,.nilfn,.fn,none⟩),
 (110,⟨1,false,.nilfn,.fn,none⟩),
 (241,⟨1,false,.nilfn,.fn,none⟩),
 (184,⟨1,false,.int .u32 0,(.int .u32),some (.int .u32)⟩),
 (174,⟨1,false,.nilfn,.fn,none⟩),
 (177,⟨1,false,.int .i64 0,(.int .i64),some (.int .i64)⟩),
 (3,⟨1,false,.int .i64 0,(.int .i64),some (.int .i64)⟩)]
def tt:TT:=(ttL,false,[])
def ts:TT:=(ttL,true,[])
theorem ttLOk:ttAll Tryz.prog ttL:=⟨
 by kernel_rfl,
 by kernel_rfl,
 by kernel_rfl,
 by kernel_rfl,
 by kernel_rfl,
 by kernel_rfl,
 by kernel_rfl,
 by kernel_rfl,
 by kernel_rfl,
 by kernel_rfl,
 by kernel_rfl,
 by kernel_rfl,
 by kernel_rfl,
 by kernel_rfl,
 by kernel_rfl,
 by kernel_rfl,
 by kernel_rfl,
 by kernel_rfl,
 by kernel_rfl,
 by kernel_rfl,
 by kernel_rfl,
 by kernel_rfl,
 by kernel_rfl,
 by kernel_rfl,
 by kernel_rfl,
 by kernel_rfl,
 by kernel_rfl,
 by kernel_rfl,
 by kernel_rfl,
 by kernel_rfl,
 by kernel_rfl,
 by kernel_rfl,
 by kernel_rfl,
 by kernel_rfl,
 by kernel_rfl,
 by kernel_rfl,
 by kernel_rfl,
 by kernel_rfl,
 by kernel_rfl,
 by kernel_rfl,
 by kernel_rfl,
 by kernel_rfl,
 by kernel_rfl,
 by kernel_rfl,
 by kernel_rfl,
 by kernel_rfl,
 by kernel_rfl,
 by kernel_rfl,
 by kernel_rfl,
 by kernel_rfl,
 by kernel_rfl,
 by kernel_rfl,
 by kernel_rfl,
 by kernel_rfl,
 by kernel_rfl,
 by kernel_rfl,
 by kernel_rfl,
 by kernel_rfl,
 by kernel_rfl,
 by kernel_rfl,
 by kernel_rfl,
 by kernel_rfl,
 by kernel_rfl,
 by kernel_rfl,
 by kernel_rfl,
 by kernel_rfl,
 by kernel_rfl,
 by kernel_rfl,
 by kernel_rfl,
 by kernel_rfl,
 by kernel_rfl,
 by kernel_rfl,
 by kernel_rfl,
 by kernel_rfl,
 by kernel_rfl,
 by kernel_rfl,
 by kernel_rfl,
 by kernel_rfl,
 by kernel_rfl,
 by kernel_rfl,
 by kernel_rfl,
 by kernel_rfl,
 by kernel_rfl,
 by kernel_rfl,
 by kernel_rfl,
 by kernel_rfl,
 by kernel_rfl,
 by kernel_rfl,
 trivial⟩
theorem ttOk:TTok Tryz.prog tt:=TTok.of_all ttLOk
theorem tsOk:TTok Tryz.prog ts:=TTok.of_all ttLOk
theorem mixed:Tryz.prog.follows .mixedOrders=true:=by kernel_rfl
end Go.AM.YtbepaplaahcnkaaGreat
end
