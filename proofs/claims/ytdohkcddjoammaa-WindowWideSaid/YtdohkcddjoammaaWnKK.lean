/- Package graph: what can be reached. -/
import Derived.Test.YtdohkcddjoammaaWnIK
set_option linter.all false
namespace Go.AM.Ytdohkcddjoammaa.Fl
open Go.Proofs
set_option maxRecDepth 100000
set_option maxHeartbeats 4000000
def stepK (f:List Bool→Int→List Bool) (D:List Bool) (m:Int):List Bool:=bif getI D false m.toNat then D else f D m
def visK (ss:List StepT):Nat→List Bool→Int→List Bool
  | 0,D,_=>D
  | k+1,D,n=>(afterL (stp ss n.toNat)).foldl (stepK (visK ss k)) (D.set n.toNat true)
def SubB (D E:List Bool):Prop:=D.length=E.length∧∀ i,getI D false i=true→getI E false i=true
theorem sub_refl {D:List Bool}:SubB D D:=⟨rfl,fun _ h=>h⟩
theorem sub_trans {D E G:List Bool} (h:SubB D E) (h2:SubB E G):SubB D G:=⟨h.1.trans h2.1,fun i hi=>h2.2 i (h.2 i hi)⟩
theorem sub_set {D:List Bool} {n:Nat}:SubB D (D.set n true):=by
  refine ⟨by rw [List.length_set],fun i hi=>?_⟩
  by_cases hn:n < D.length
  · rw [getI_set hn]
    split
    · rfl
    · exact hi
  · rw [List.set_eq_of_length_le (by omega)];exact hi
theorem sub_count:∀ {D E:List Bool},SubB D E→E.count false≤D.count false
  | [],E,h=>by
    have:E=[]:=List.eq_nil_of_length_eq_zero (by rw [← h.1];rfl)
    rw [this];exact Nat.le_refl _
  | d::D,[],h=>by have:=h.1;simp at this
  | d::D,e::E,h=>by
    have h1:SubB D E:=⟨by have:=h.1;simpa using this,fun i hi=>h.2 (i+1) hi⟩
    have ih:=sub_count h1
    have h0:=h.2 0
    cases d <;> cases e
    · simp;omega
    · simp;omega
    · have h0:true=true→false=true:=h0
      exact absurd (h0 rfl) (by decide)
    · simp;omega
theorem fold_sub {f:List Bool→Int→List Bool} (hf:∀ D m,SubB D (f D m)):∀ {l:List Int} {D:List Bool},SubB D (l.foldl (stepK f) D)
  | [],D=>sub_refl
  | m::l,D=>by
    refine sub_trans ?_ (fold_sub hf (l:=l) (D:=stepK f D m))
    unfold stepK
    cases getI D false m.toNat
    · exact hf D m
    · exact sub_refl
theorem vis_sub {ss:List StepT}:∀ {k:Nat} {D:List Bool} {n:Int},SubB D (visK ss k D n)
  | 0,D,n=>sub_refl
  | k+1,D,n=>sub_trans sub_set (fold_sub (fun D m=>vis_sub (k:=k) (D:=D) (n:=m)))
theorem count_unset {D:List Bool} {n:Nat} (hn:n < D.length) (h:getI D false n=false):(D.set n true).count false+1=D.count false:=by
  have e:D[n]=false:=by
    have:getI D false n=D[n]:=by simp [getI,List.getD,List.getElem?_eq_getElem hn]
    rw [← this];exact h
  have hp:0 < D.count false:=List.count_pos_iff.2 (by rw [← e];exact List.getElem_mem hn)
  rw [List.count_set hn,e]
  simp
  omega
inductive Rch (ss:List StepT) (a:Nat):Nat→Prop
  | refl:Rch ss a a
  | step {u v:Nat} (h:Rch ss a u) (h2:(v:Int)∈afterL (stp ss u)):Rch ss a v
theorem rch_trans {ss:List StepT} {a b c:Nat} (h:Rch ss a b) (h2:Rch ss b c):Rch ss a c:=by
  induction h2 with
  | refl=>exact h
  | step _ h4 ih=>exact .step ih h4
theorem vis_rch {mn mx:Int} {ss:List StepT} {ws:List WinT} (F:FlowSm mn mx ss ws):∀ {k:Nat} {D:List Bool} {n:Nat} {v:Nat},n < ss.length→D.length=ss.length→getI (visK ss k D (n:Int)) false v=true→getI D false v=true∨Rch ss n v
  | 0,D,n,v,_,_,h=>.inl h
  | k+1,D,n,v,hn,hl,h=>by
    have e:((n:Int)).toNat=n:=by omega
    have hst:=F.st _ (fl_mem (d:=tStep.dflt) hn)
    have key:∀ (l:List Int) (D:List Bool),(∀ m∈l,m∈afterL (stp ss n))→D.length=ss.length→getI (l.foldl (stepK (visK ss k)) D) false v=true→getI D false v=true∨Rch ss n v:=by
      intro l
      induction l with
      | nil=>exact fun D _ _ h=>.inl h
      | cons m l ih =>
        intro D hm hD h
        have hmm:=hm m (by simp)
        have hin:=after_in hst m hmm
        have hsl:(stepK (visK ss k) D m).length=ss.length:=by
          unfold stepK
          cases getI D false m.toNat
          · show (visK ss k D m).length=_
            rw [← vis_sub.1];exact hD
          · exact hD
        rcases ih (stepK (visK ss k) D m) (fun x hx=>hm x (by simp [hx])) hsl h with h1|h1
        · unfold stepK at h1
          cases hc:getI D false m.toNat
          · rw [hc] at h1
            obtain ⟨y,rfl⟩:∃ y:Nat,m=(y:Int):=⟨m.toNat,by omega⟩
            rcases vis_rch F (k:=k) (by omega) hD (show getI (visK ss k D (y:Int)) false v=true from h1) with h2|h2
            · exact .inl h2
            · exact .inr (rch_trans (.step .refl hmm) h2)
          · rw [hc] at h1
            exact .inl h1
        · exact .inr h1
    have h:getI ((afterL (stp ss ((n:Int)).toNat)).foldl (stepK (visK ss k)) (D.set ((n:Int)).toNat true)) false v=true:=h
    rw [e] at h
    rcases key _ _ (fun m hm=>hm) (by rw [List.length_set];exact hl) h with h1|h1
    · rw [getI_set (by omega)] at h1
      by_cases hnv:n=v
      · rw [hnv];exact .inr .refl
      · rw [if_neg hnv] at h1;exact .inl h1
    · exact .inr h1
theorem rch_walk {mn:Int} {ss:List StepT} {fr a b:Nat} (h0:(a:Int)∈afterL (stp ss fr)) (h:Rch ss a b):∃ t,Walk mn ss fr t b:=by
  induction h with
  | refl=>exact ⟨mn,.start h0⟩
  | step _ h4 ih =>
    obtain ⟨t,ht⟩:=ih
    exact ⟨_,.step ht h4⟩
def ttL2:List (Nat × TI):=(124,⟨1,false,.nilfn,.fn,none⟩)::ttL
def ts2:TT:=(ttL2,true,[])
theorem ttL2Ok:ttAll Try.prog ttL2:=⟨by kernel_rfl,ttLOk⟩
theorem ts2Ok:TTok Try.prog ts2:=TTok.of_all ttL2Ok
def envOf2 {S:Nat→Option Spec} (h:SigOk Try.prog S):Env Try.prog ts2 S:=⟨ts2Ok,h,mixed,none⟩
theorem soundP2 {S:Nat→Option Spec} (E:Env Try.prog ts2 S) {K:List Nat} {f:Nat} {fn:Func} {c:Code} {F:List AV→Option Out} (hf:Try.prog.funcs[f]?=some fn) (hb:fn.body=some c) (hc:codeOk c=true) (hk:forceL (keepOf fn c) some=some K)
    (h:∀ args out,F args=some out→out.pre→args.length≤fn.ntmps∧WP E K c (St.init fn.ntmps args []) (endOf ts2 fn.results.toList 0 out)) (hro:E.ro=none:=by rfl):SpecSound Try.prog f (plain F) :=
  spec_of_WP E K hf hb hc (fun args rows out hout hpre hr=>by
    have:=hr rfl
    subst this
    exact h args out hout hpre) hro
theorem soundR2 {S:Nat→Option Spec} (E:Env Try.prog ts2 S) {K:List Nat} {f:Nat} {fn:Func} {c:Code} {F:List AV→List AObj→Option Out} (hf:Try.prog.funcs[f]?=some fn) (hb:fn.body=some c) (hc:codeOk c=true) (hk:forceL (keepOf fn c) some=some K)
    (h:∀ args rows out,F args rows=some out→out.pre→args.length≤fn.ntmps∧WP E K c (St.init fn.ntmps args rows) (endOf ts2 fn.results.toList rows.length out)) (hro:E.ro=none:=by rfl):SpecSound Try.prog f ⟨true,F⟩ :=
  spec_of_WP E K hf hb hc (fun args rows out hout hpre hr=>h args rows out hout hpre) hro
def visKS (k:Nat):Spec:=⟨true,fun args rows=>match args,rows with
  | [.int .i64 n,.ptr 0 0,.ptr 1 0,.ptr 2 0],[.box [.own 3],.box [.int .i64 mn,.int .i64 mx,.sl (.pair (.int .i64) (.pair (.slice (.int .i64)) (.pair (.int .i64) (.pair (.int .i64) (.pair (.slice (.int .i64)) (.pair (.int .i64) (.int .i64))))))) ss,.sl (.pair (.int .i64) (.pair (.int .i64) (.int .i64))) ws],
      .box [.fn 62 [] [.ptr 0 0,.ptr 1 0,.ptr 2 0]],.seq .bool D] =>
    some ⟨((validF mn mx ss ws=true∧0≤n∧n < (ss.length:Int))∧D.length=ss.length∧getI D false n.toNat=false)∧D.count false≤k,.tup [],
      [.box [.own 3],.box [.int .i64 mn,.int .i64 mx,.sl tStep ss,.sl tWin ws],.box [.fn 62 [] [.ptr 0 0,.ptr 1 0,.ptr 2 0]],.seq .bool (visK ss k D n)],true⟩
  | _,_=>none⟩
def sigVk (k:Nat):List (Nat × Spec):=[(38,aftS),(61,aft1S),(62,visKS k)]
theorem visKOk:∀ k:Nat,SpecSound Try.prog 62 (visKS k)
  | 0=>by
    intro args rows out hf hpre
    unfold visKS at hf
    dsimp only at hf
    split at hf <;> try (cases hf;done)
    rename_i n mn mx ss ws D
    cases hf
    obtain ⟨⟨⟨hv,h0,h1⟩,hl,hd⟩,hc⟩:=hpre
    have:=count_unset (D:=D) (n:=n.toNat) (by omega) hd
    omega
  | k+1=>by
    have hsig:SigOk Try.prog (look (sigVk k)):=sigCons (sigCons (sigCons sigNil
      Try.func62 (by kernel_rfl) (c:=body Try.f62) rfl (visKOk k))
      Try.func61 (by kernel_rfl) (c:=body Try.f61) rfl aft1Ok)
      Try.func38 (by kernel_rfl) (c:=body Try.f38) rfl aftOk
    refine soundR2 (envOf2 hsig) Try.func62 (c:=body Try.f62) rfl (by kernel_rfl) rfl ?_
    intro args rows out hf hpre
    split at hf <;> try (cases hf;done)
    rename_i n mn mx ss ws D
    cases hf
    refine ⟨Nat.le_of_ble_eq_true rfl,initI (args:=[.int .i64 n,.ptr 0 0,.ptr 1 0,.ptr 2 0]) (rows:=[.box [.own 3],.box [.int .i64 mn,.int .i64 mx,.sl tStep ss,.sl tWin ws],.box [.fn 62 [] [.ptr 0 0,.ptr 1 0,.ptr 2 0]],.seq .bool D]) rfl ?_⟩
    obtain ⟨⟨⟨hv,h0,h1⟩,hl,hd⟩,hc⟩:=hpre
    have F:=flow_sm hv
    have hst:=F.st _ (fl_mem (d:=tStep.dflt) (show n.toNat < ss.length by omega))
    have haft:∀ m∈aftL (getI ss tStep.dflt n.toNat).2.2.2.2.2.1 (getI ss tStep.dflt n.toNat).2.2.2.2.1,0≤m∧m < (ss.length:Int):=after_in hst
    have hcu:=count_unset (D:=D) (n:=n.toNat) (by omega) hd
    have hsl:=sub_set (D:=D) (n:=n.toNat)
    have hend:visK ss (k+1) D n=(aftL (getI ss tStep.dflt n.toNat).2.2.2.2.2.1 (getI ss tStep.dflt n.toNat).2.2.2.2.1).foldl (stepK (visK ss k)) (D.set n.toNat true):=rfl
    rw [hend]
    clear hend
    repeat' (first|with_reducible (first|apply pN|apply cN|apply bN|apply cE|apply cR|apply bR|apply lE|apply lR|apply jE|apply jR)|refine zE ?_|refine zP ?_|refine pD ?_|refine zS ?_|refine zR ?_|refine zO ?_|refine zB ?_|refine zX ?_|refine zT ?_|refine skipI rfl ?_)
    generalize D.set n.toNat true=D1 at *
    refine rangeI (tInt) false (fun q=>[(100003,.seq .bool (q.foldl (stepK (visK ss k)) D1))]) (fun _=>none) (aftL (getI ss tStep.dflt n.toNat).2.2.2.2.2.1 (getI ss tStep.dflt n.toNat).2.2.2.2.1) 14 rfl rfl rfl rfl rfl rfl rfl rfl rfl (fun _=>rfl) (fun _=>rfl) (fun _=>rfl) rfl rfl rfl ?_ ?_ ?_ ?_ ?_ ?_
    · exact ⟨rfl,rfl,rfl,by repeat' (first|exact trivial|exact rfl|refine And.intro ?_ ?_),by repeat' (first|exact trivial|exact rfl|refine And.intro ?_ ?_),rfl,rfl,rfl⟩
    · repeat' (first|exact trivial|exact rfl|refine ⟨rfl,?_⟩|refine And.intro ?_ ?_)
    · rfl
    · intro J
      exact ⟨_,_,rfl,fun h=>h,rfl,rfl⟩
    · intro l q x hq hjq hok
      refine ⟨_,rfl,?_⟩
      have hx:=haft x (hq.subset (by simp))
      have hsb:=sub_trans hsl (fold_sub (fun D m=>vis_sub (ss:=ss) (k:=k) (D:=D) (n:=m)) (l:=q) (D:=D1))
      have hs2:=fold_sub (fun D m=>vis_sub (ss:=ss) (k:=k) (D:=D) (n:=m)) (l:=q) (D:=D1)
      have hcc:=sub_count hs2
      rw [List.foldl_append]
      generalize q.foldl (stepK (visK ss k)) D1=D2 at *
      have hD2:D2.length=ss.length:=by rw [← hsb.1];exact hl
      show WP _ _ _ _ _
      repeat' (first|with_reducible (first|apply pN|apply cN|apply bN|apply cE|apply cR|apply bR|apply lE|apply lR|apply jE|apply jR)|refine zE ?_|refine zP ?_|refine pD ?_|refine zS ?_|refine zR ?_|refine zO ?_|refine zB ?_|refine zX ?_|refine zT ?_|refine skipI rfl ?_)
      refine asN ?_
      repeat' (first|with_reducible (first|apply pN|apply cN|apply bN|apply cE|apply cR|apply bR|apply lE|apply lR|apply jE|apply jR)|refine zE ?_|refine zP ?_|refine pD ?_|refine pC (by first|omega|(intros;omega)) ?_|refine zS ?_|refine zR ?_|refine zO ?_|refine zB ?_|refine zX ?_|refine zT ?_|refine skipI rfl ?_)
      refine condI rfl (fun c3=>?_) (fun c3=>?_)
      · have c3:getI D2 false x.toNat=false:=(Bool.not_eq_true' _).mp c3
        repeat' (first|with_reducible (first|apply pN|apply cN|apply bN|apply cE|apply cR|apply bR|apply lE|apply lR|apply jE|apply jR)|refine zE ?_|refine zP ?_|refine pD ?_|refine pC (by exact ⟨⟨⟨hv,hx.1,hx.2⟩,hD2,c3⟩,by omega⟩) ?_|refine zS ?_|refine zR ?_|refine zO ?_|refine zB ?_|refine zX ?_|refine zT ?_|refine skipI rfl ?_)
        refine yN rfl rfl ?_
        repeat' (first|exact trivial|exact rfl|refine ⟨rfl,?_⟩|refine And.intro ?_ ?_)
        show stepK (visK ss k) D2 x=_
        unfold stepK
        rw [c3]
        rfl
      · have c3:getI D2 false x.toNat=true:=(Bool.not_eq_false' _).mp c3
        repeat' (first|with_reducible (first|apply pN|apply cN|apply bN|apply cE|apply cR|apply bR|apply lE|apply lR|apply jE|apply jR)|refine zE ?_|refine zP ?_|refine pD ?_|refine zS ?_|refine zR ?_|refine zO ?_|refine zB ?_|refine zX ?_|refine zT ?_|refine skipI rfl ?_)
        refine yN rfl rfl ?_
        repeat' (first|exact trivial|exact rfl|refine ⟨rfl,?_⟩|refine And.intro ?_ ?_)
        show stepK (visK ss k) D2 x=_
        unfold stepK
        rw [c3]
        rfl
    · rw [cut_none]
      repeat' (first|with_reducible (first|apply pN|apply cN|apply bN|apply cE|apply cR|apply bR|apply lE|apply lR|apply jE|apply jR)|refine zE ?_|refine zP ?_|refine pD ?_|refine zS ?_|refine zR ?_|refine zO ?_|refine zB ?_|refine zX ?_|refine zT ?_|refine skipI rfl ?_)
      refine endN rfl ?_
      repeat' (first|exact trivial|with_reducible exact rfl|refine And.intro ?_ ?_)
def reachedS:Spec:=plain fun
  | [.agg [.int .i64 mn,.int .i64 mx,.sl (.pair (.int .i64) (.pair (.slice (.int .i64)) (.pair (.int .i64) (.pair (.int .i64) (.pair (.slice (.int .i64)) (.pair (.int .i64) (.int .i64))))))) ss,.sl (.pair (.int .i64) (.pair (.int .i64) (.int .i64))) ws],.int .i64 n] =>
    some ⟨validF mn mx ss ws=true∧0≤n∧n < (ss.length:Int),.own 0,[.seq .bool (visK ss 40 (List.replicate ss.length false) n)],false⟩
  | _=>none
def sigRd:List (Nat × Spec):=[(62,visKS 40)]
theorem sigRdOk:SigOk Try.prog (look sigRd):=sigCons sigNil Try.func62 (by kernel_rfl) (c:=body Try.f62) rfl (visKOk 40)
theorem reachedOk:SpecSound Try.prog 39 reachedS:=by
  refine soundP2 (envOf2 sigRdOk) Try.func39 (c:=body Try.f39) rfl (by kernel_rfl) rfl ?_
  intro args out hf hpre
  split at hf <;> try (cases hf;done)
  rename_i mn mx ss ws n
  cases hf
  refine ⟨Nat.le_of_ble_eq_true rfl,initI (args:=[.agg [.int .i64 mn,.int .i64 mx,.sl tStep ss,.sl tWin ws],.int .i64 n]) rfl ?_⟩
  obtain ⟨hv,h0,h1⟩:=hpre
  have hn2:=(flow_sm hv).n2
  have hc:(List.replicate ss.length false).count false≤40:=by rw [List.count_replicate];split <;> omega
  repeat' (first|with_reducible (first|apply pN|apply cN|apply bN|apply cE|apply cR|apply bR|apply lE|apply lR|apply jE|apply jR)|refine zE ?_|refine zP ?_|refine pD ?_|refine pC (by first|omega|exact ⟨⟨⟨hv,h0,h1⟩,List.length_replicate,repl_get⟩,hc⟩) ?_|refine zS ?_|refine zR ?_|refine zO ?_|refine zB ?_|refine zX ?_|refine zT ?_|refine skipI rfl ?_)
  refine endR rfl ?_
  repeat' (first|exact trivial|exact rfl|refine ⟨rfl,?_⟩|refine And.intro ?_ ?_)
def reachF (mn mx:Int) (ss:List StepT) (ws:List WinT) (n:Int):List Int:=bif givF mn mx ss ws [n] then ((List.range ss.length).filter fun v=>getI (visK ss 40 (List.replicate ss.length false) n) false v).map (fun v:Nat=>(v:Int)) else []
def reachS:Spec:=plain fun
  | [.agg [.int .i64 mn,.int .i64 mx,.sl (.pair (.int .i64) (.pair (.slice (.int .i64)) (.pair (.int .i64) (.pair (.int .i64) (.pair (.slice (.int .i64)) (.pair (.int .i64) (.int .i64))))))) ss,.sl (.pair (.int .i64) (.pair (.int .i64) (.int .i64))) ws],.int .i64 n] =>
    some ⟨True,.own 0,[.seq tInt (reachF mn mx ss ws n)],false⟩
  | _=>none
def sigRh:List (Nat × Spec):=[(36,givS),(39,reachedS)]
theorem sigRhOk:SigOk Try.prog (look sigRh):=sigCons (sigCons sigNil
  Try.func39 (by kernel_rfl) (c:=body Try.f39) rfl reachedOk)
  Try.func36 (by kernel_rfl) (c:=body Try.f36) rfl givOk
theorem reachOk:SpecSound Try.prog 24 reachS:=by
  refine soundP (envOf sigRhOk) Try.func24 (c:=body Try.f24) rfl (by kernel_rfl) rfl ?_
  intro args out hf hpre
  split at hf <;> try (cases hf;done)
  rename_i mn mx ss ws n
  cases hf
  refine ⟨Nat.le_of_ble_eq_true rfl,initI (args:=[.agg [.int .i64 mn,.int .i64 mx,.sl tStep ss,.sl tWin ws],.int .i64 n]) rfl ?_⟩
  obtain ⟨r,hr⟩:∃ r,r=reachF mn mx ss ws n:=⟨_,rfl⟩
  rw [← hr]
  unfold reachF at hr
  repeat' (first|with_reducible (first|apply pN|apply cN|apply bN|apply cE|apply cR|apply bR|apply lE|apply lR|apply jE|apply jR)|refine zE ?_|refine zP ?_|refine pD ?_|refine zS ?_|refine zR ?_|refine zO ?_|refine zB ?_|refine zX ?_|refine zT ?_|refine skipI rfl ?_)
  refine condI rfl (fun c1=>?_) (fun c1=>?_)
  · have c1:givF mn mx ss ws [n]=false:=by simpa using c1
    rw [c1] at hr
    rw [show r=[] from hr]
    repeat' (first|with_reducible (first|apply pN|apply cN|apply bN|apply cE|apply cR|apply bR|apply lE|apply lR|apply jE|apply jR)|refine zE ?_|refine zP ?_|refine pD ?_|refine zS ?_|refine zR ?_|refine zO ?_|refine zB ?_|refine zX ?_|refine zT ?_|refine skipI rfl ?_)
    refine endR rfl ?_
    repeat' (first|exact trivial|exact rfl|refine ⟨rfl,?_⟩|refine And.intro ?_ ?_)
  · have c1:givF mn mx ss ws [n]=true:=by simpa using c1
    rw [c1] at hr
    obtain ⟨hv,h0,h1⟩:=giv1_facts c1
    have hn2:=(flow_sm hv).n2
    repeat' (first|with_reducible (first|apply pN|apply cN|apply bN|apply cE|apply cR|apply bR|apply lE|apply lR|apply jE|apply jR)|refine zE ?_|refine zP ?_|refine zS ?_|refine zO ?_|refine zB ?_|refine zX ?_|refine zT ?_|refine skipI rfl ?_)
    refine zR ?_
    repeat' (first|with_reducible refine pN ?_|refine pD ?_|refine pC (by exact ⟨hv,h0,h1⟩) ?_)
    repeat with_reducible refine cN ?_
    have hDl:(visK ss 40 (List.replicate ss.length false) n).length=ss.length:=by rw [← vis_sub.1,List.length_replicate]
    generalize visK ss 40 (List.replicate ss.length false) n=D at *
    have hr:r=((List.range ss.length).filter fun v=>getI D false v).map (fun v:Nat=>(v:Int)):=hr
    repeat' (first|with_reducible (first|apply pN|apply cN|apply bN|apply cE|apply cR|apply bR|apply lE|apply lR|apply jE|apply jR)|refine zE ?_|refine zP ?_|refine pD ?_|refine zS ?_|refine zR ?_|refine zO ?_|refine zB ?_|refine zX ?_|refine zT ?_|refine skipI rfl ?_)
    refine loopI (σ:=Nat) (fun i=>[(4,.own 3000),(16,.int .i64 i)]) (fun i=>[(3000,.seq tInt (((List.range i).filter fun v=>getI D false v).map (fun v:Nat=>(v:Int))))]) (fun i=>i≤D.length) (fun i=>D.length - i) 0 rfl (fun _=>rfl) rfl ?_ ?_ ?_
    · exact Nat.zero_le _
    · repeat' (first|exact trivial|with_reducible exact rfl|refine And.intro ?_ ?_)
      all_goals rfl
    intro i hi
    have hfl:(((List.range i).filter fun v=>getI D false v).map (fun v:Nat=>(v:Int))).length≤i:=by
      rw [List.length_map]
      refine Nat.le_trans (List.length_filter_le _ _) ?_
      rw [List.length_range]
      exact Nat.le_refl _
    repeat' (first|with_reducible (first|apply pN|apply cN|apply bN|apply cE|apply cR|apply bR|apply lE|apply lR|apply jE|apply jR)|refine zE ?_|refine zP ?_|refine pD ?_|refine zS ?_|refine zR ?_|refine zO ?_|refine zB ?_|refine zX ?_|refine zT ?_|refine skipI rfl ?_)
    refine condI rfl (fun c2=>?_) (fun c2=>?_)
    · simp only [decide_eq_true_eq] at c2
      have hil:i < D.length:=by omega
      have hii:((i:Int)).toNat=i:=by omega
      have hsucc:((List.range (i+1)).filter fun v=>getI D false v).map (fun v:Nat=>(v:Int))=((List.range i).filter fun v=>getI D false v).map (fun v:Nat=>(v:Int))++(([i].filter fun v=>getI D false v).map (fun v:Nat=>(v:Int))):=by rw [List.range_succ,List.filter_append,List.map_append]
      repeat' (first|with_reducible (first|apply pN|apply cN|apply bN|apply cE|apply cR|apply bR|apply lE|apply lR|apply jE|apply jR)|refine zE ?_|refine zP ?_|refine pD ?_|refine pC (by first|omega|(simp only [List.length_cons,List.length_nil];omega)) ?_|refine zS ?_|refine zR ?_|refine zO ?_|refine zB ?_|refine zX ?_|refine zT ?_|refine skipI rfl ?_)
      simp only [hii]
      refine condI rfl (fun c3=>?_) (fun c3=>?_)
      · have c3:getI D false i=true:=c3
        rw [show ([i].filter fun v=>getI D false v)=[i] by simp [c3]] at hsucc
        repeat' (first|with_reducible (first|apply pN|apply cN|apply bN|apply cE|apply cR|apply bR|apply lE|apply lR|apply jE|apply jR)|refine zE ?_|refine zP ?_|refine pD ?_|refine pC (by first|omega|(simp only [List.length_cons,List.length_nil];omega)) ?_|refine zS ?_|refine zR ?_|refine zO ?_|refine zB ?_|refine zX ?_|refine zT ?_|refine skipI rfl ?_)
        refine roundI (i+1) rfl ?_ ?_ ?_
        · show i+1≤D.length
          omega
        · show D.length - (i+1) < D.length - i
          omega
        · repeat' (first|exact trivial|with_reducible exact rfl|refine And.intro ?_ ?_)
          all_goals (first|rfl|exact hsucc)
      · have c3:getI D false i=false:=c3
        rw [show ([i].filter fun v=>getI D false v)=[] by simp [c3],List.map_nil,List.append_nil] at hsucc
        repeat' (first|with_reducible (first|apply pN|apply cN|apply bN|apply cE|apply cR|apply bR|apply lE|apply lR|apply jE|apply jR)|refine zE ?_|refine zP ?_|refine pD ?_|refine zS ?_|refine zR ?_|refine zO ?_|refine zB ?_|refine zX ?_|refine zT ?_|refine skipI rfl ?_)
        refine roundI (i+1) rfl ?_ ?_ ?_
        · show i+1≤D.length
          omega
        · show D.length - (i+1) < D.length - i
          omega
        · repeat' (first|exact trivial|with_reducible exact rfl|refine And.intro ?_ ?_)
          all_goals (first|rfl|exact hsucc)
    · simp only [decide_eq_false_iff_not] at c2
      have e:i=ss.length:=by omega
      rw [hr,← e]
      repeat' (first|with_reducible (first|apply pN|apply cN|apply bN|apply cE|apply cR|apply bR|apply lE|apply lR|apply jE|apply jR)|refine zE ?_|refine zP ?_|refine pD ?_|refine zS ?_|refine zR ?_|refine zO ?_|refine zB ?_|refine zX ?_|refine zT ?_|refine skipI rfl ?_)
      refine endR rfl ?_
      repeat' (first|exact trivial|exact rfl|refine ⟨rfl,?_⟩|refine And.intro ?_ ?_)
end Go.AM.Ytdohkcddjoammaa.Fl
