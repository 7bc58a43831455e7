/- WnR, AmFld, WnH. -/
import Derived.Test.YtdohkcddjoammaaPw31
import Derived.Test.YtdohkcddjoammaaPw26
import Derived.Test.YtdohkcddjoammaaPw30

section
set_option linter.all false
namespace Go.AM.Ytdohkcddjoammaa.Fl
open Go.Proofs
set_option maxRecDepth 100000
set_option maxHeartbeats 4000000
theorem winAt_mem {m:LkM} {f:Int} {i j:Nat} {e:WinT}:e∈winAt m f i j↔∃ l,findK m (f+(i:Int),f+(j:Int))=some l∧e=((i:Int),(j:Int),l):=by
  unfold winAt
  cases h:findK m (f+(i:Int),f+(j:Int)) with
  | none=>simp
  | some l=>simp
theorem winRow_mem {m:LkM} {f:Int} {i:Nat} {e:WinT}:∀ {k:Nat},e∈winRow m f i k↔∃ j,j < k∧e∈winAt m f i j
  | 0=>by
    constructor
    · intro h;cases h
    · rintro ⟨j,hj,_⟩;omega
  | k+1=>by
    show e∈winRow m f i k++winAt m f i k↔_
    rw [List.mem_append,winRow_mem (k:=k)]
    constructor
    · rintro (⟨j,h1,h2⟩|h)
      · exact ⟨j,by omega,h2⟩
      · exact ⟨k,by omega,h⟩
    · rintro ⟨j,h1,h2⟩
      by_cases hj:j=k
      · subst hj;exact .inr h2
      · exact .inl ⟨j,by omega,h2⟩
theorem winAll_mem {m:LkM} {f:Int} {n:Nat} {e:WinT}:∀ {k:Nat},e∈winAll m f n k↔∃ i,i < k∧∃ j,j < n∧e∈winAt m f i j
  | 0=>by
    constructor
    · intro h;cases h
    · rintro ⟨j,hj,_⟩;omega
  | k+1=>by
    show e∈winAll m f n k++winRow m f k n↔_
    rw [List.mem_append,winAll_mem (k:=k),winRow_mem]
    constructor
    · rintro (⟨j,h1,h2⟩|h)
      · exact ⟨j,by omega,h2⟩
      · exact ⟨k,by omega,h⟩
    · rintro ⟨j,h1,h2⟩
      by_cases hj:j=k
      · subst hj;exact .inr h2
      · exact .inl ⟨j,by omega,h2⟩
theorem count_or {p q:Nat→Bool}:∀ {l:List Nat},(l.filter fun j=>p j||q j).length≤(l.filter p).length+(l.filter q).length
  | []=>by simp
  | x::l=>by
    have ih:=count_or (p:=p) (q:=q) (l:=l)
    rw [List.filter_cons,List.filter_cons,List.filter_cons]
    cases hp:p x <;> cases hq:q x <;> simp <;> omega
theorem count_one {p:Nat→Bool} (h:∀ a b,a < b→p a=true→p b=false):∀ {k:Nat},((List.range k).filter p).length≤1∧(((List.range k).filter p).length=1→∃ a,a < k∧p a=true)
  | 0=>by simp
  | k+1=>by
    obtain ⟨h1,h2⟩:=count_one h (k:=k)
    rw [List.range_succ,List.filter_append,List.length_append]
    cases hp:p k
    · rw [show ([k].filter p)=[] by simp [hp]]
      exact ⟨h1,fun h3=>by obtain ⟨a,h4,h5⟩:=h2 h3;exact ⟨a,by omega,h5⟩⟩
    · rw [show ([k].filter p)=[k] by simp [hp]]
      have h3:((List.range k).filter p).length=0:=by
        by_cases h4:((List.range k).filter p).length=1
        · obtain ⟨a,h5,h6⟩:=h2 h4
          rw [h a k h5 h6] at hp
          cases hp
        · omega
      rw [h3]
      exact ⟨Nat.le_refl _,fun _=>⟨k,by omega,hp⟩⟩
def lkB (rt:List Int) (f:Int) (i:Nat) (w:WinT) (j:Nat):Bool:=decide ((f+(i:Int),f+(j:Int))∈lkW rt w)
theorem count_ws {rt:List Int} {f:Int} {i k:Nat}:∀ {ws:List WinT},(∀ w∈ws,w.1≠w.2.1)→((List.range k).filter fun j=>ws.any fun w=>lkB rt f i w j).length≤ws.length
  | [],_=>by simp
  | w::ws,hw=>by
    have ih:=count_ws (rt:=rt) (f:=f) (i:=i) (k:=k) (ws:=ws) (fun u hu=>hw u (by simp [hu]))
    have h1:((List.range k).filter (lkB rt f i w)).length≤1:=(count_one (p:=lkB rt f i w) (fun a b hab ha=>by
      unfold lkB at ha ⊢
      rw [decide_eq_true_eq,lkW_lnk (hw w (by simp))] at ha
      rw [decide_eq_false_iff_not,lkW_lnk (hw w (by simp))]
      obtain ⟨a1,b1,h1,h2,h3⟩:=ha
      rintro ⟨a2,b2,h4,h5,h6⟩
      obtain ⟨⟨h7,h8,h9⟩,h10⟩:=lnkB_iff.1 h3
      obtain ⟨⟨k7,k8,k9⟩,k10⟩:=lnkB_iff.1 h6
      have e1:f+(i:Int)=a1:=congrArg Prod.fst h1
      have e2:f+(i:Int)=a2:=congrArg Prod.fst h4
      have e3:f+(a:Int)=b1:=congrArg Prod.snd h1
      have e4:f+(b:Int)=b2:=congrArg Prod.snd h4
      exact (k9 b1 (by omega) (by omega)).2 h10) (k:=k)).1
    have h2:=count_or (p:=lkB rt f i w) (q:=fun j=>ws.any fun w=>lkB rt f i w j) (l:=List.range k)
    show ((List.range k).filter fun j=>lkB rt f i w j||ws.any fun w=>lkB rt f i w j).length≤ws.length+1
    omega
theorem winRow_ws {rt:List Int} {ws:List WinT} {f:Int} {i:Nat}:∀ {k:Nat},(winRow (linksF rt ws) f i k).length≤((List.range k).filter fun j=>ws.any fun w=>lkB rt f i w j).length
  | 0=>by show (0:Nat)≤_;omega
  | k+1=>by
    have ih:=winRow_ws (rt:=rt) (ws:=ws) (f:=f) (i:=i) (k:=k)
    show (winRow (linksF rt ws) f i k++winAt (linksF rt ws) f i k).length≤_
    rw [List.length_append,List.range_succ,List.filter_append,List.length_append]
    have h:(winAt (linksF rt ws) f i k).length≤([k].filter fun j=>ws.any fun w=>lkB rt f i w j).length:=by
      unfold winAt
      cases hf:findK (linksF rt ws) (f+(i:Int),f+(k:Int)) with
      | none=>exact Nat.zero_le _
      | some l =>
        obtain ⟨w,hw,hk,_⟩:=(links_ok (rt:=rt) (ws:=ws)).b _ _ hf
        have:(ws.any fun w=>lkB rt f i w k)=true:=List.any_eq_true.2 ⟨w,hw,by unfold lkB;exact decide_eq_true hk⟩
        rw [show ([k].filter fun j=>ws.any fun w=>lkB rt f i w j)=[k] by simp [this]]
        exact Nat.le_refl _
    omega
theorem winAll_ws {rt:List Int} {ws:List WinT} (hw:∀ w∈ws,w.1≠w.2.1) {f:Int} {n:Nat}:∀ {k:Nat},(winAll (linksF rt ws) f n k).length≤k * ws.length
  | 0=>by show (0:Nat)≤_;omega
  | k+1=>by
    have ih:=winAll_ws hw (rt:=rt) (f:=f) (n:=n) (k:=k)
    have h1:=winRow_ws (rt:=rt) (ws:=ws) (f:=f) (i:=k) (k:=n)
    have h2:=count_ws (rt:=rt) (f:=f) (i:=k) (k:=n) hw
    show (winAll (linksF rt ws) f n k++winRow (linksF rt ws) f k n).length≤_
    rw [List.length_append,Nat.succ_mul]
    omega
theorem req_err {mn mx:Int} {ss:List StepT} {ws:List WinT} {rt:List Int} (hv:validF mn mx ss ws=true) (hl:lineB mn mx ss ws rt=true) {f t:Int} (ha:argB rt f t 5=true) (hr:reqB mn mx ss ws rt f t 5=false):(ws.length:Int) > 2:=by
  obtain ⟨h1,h2,h3,h4⟩:=argB_facts ha
  unfold reqB at hr
  rw [hl,ha,Bool.true_and,Bool.true_and,decide_eq_false_iff_not] at hr
  unfold reqW at hr
  have h5:=winAll_ws (fun w hw=>win_ne (flow_sm hv) hw) (rt:=rt) (f:=f) (n:=(t - f+1).toNat) (k:=(t - f+1).toNat)
  have h6:(t - f+1).toNat≤8:=by omega
  have h7:(t - f+1).toNat * ws.length≤8 * ws.length:=Nat.mul_le_mul_right _ h6
  omega
theorem sub_get {α:Type} {d:α} {l:List α} {f t k:Nat} (h:f+k≤t):getI ((l.take (t+1)).drop f) d k=getI l d (f+k):=by
  unfold getI List.getD
  rw [List.getElem?_drop,List.getElem?_take,if_pos (by omega)]
theorem Opn_sub {w:WinT} {rt:List Int} {f t a b:Nat} (h:f+b≤t):Opn w ((rt.take (t+1)).drop f) a b↔Opn w rt (f+a) (f+b):=by
  unfold Opn
  constructor
  · rintro ⟨h1,h2,h3⟩
    rw [sub_get (by omega)] at h2
    refine ⟨by omega,h2,fun k h4 h5=>?_⟩
    have:=h3 (k - f) (by omega) (by omega)
    rw [sub_get (by omega),show f+(k - f)=k by omega] at this
    exact this
  · rintro ⟨h1,h2,h3⟩
    refine ⟨by omega,by rw [sub_get (by omega)];exact h2,fun k h4 h5=>?_⟩
    rw [sub_get (by omega)]
    exact h3 (f+k) (by omega) (by omega)
theorem bad_iff {w:WinT} (hw:w.1≠w.2.1) {rt:List Int} {l:List VisT} {f t b:Nat} (hs:l.map Prod.fst=(rt.take (t+1)).drop f) (hb:f+b≤t):BadAt w l b↔∃ a:Nat,lnkB w rt (f+a) (f+b)=true∧(getI l tVis.dflt b).2.2.1 - (getI l tVis.dflt a).2.2.2 > w.2.2:=by
  unfold BadAt
  rw [hs,sub_get hb]
  constructor
  · rintro ⟨h1,h2,h3⟩
    obtain ⟨a,ha⟩:∃ a:Nat,opn w ((rt.take (t+1)).drop f) b=(a:Int):=⟨_,(Int.toNat_of_nonneg h2).symm⟩
    rw [ha] at h3
    exact ⟨a,lnkB_iff.2 ⟨(Opn_sub hb).1 ((opn_iff hw).1 ha),h1⟩,h3⟩
  · rintro ⟨a,h1,h2⟩
    obtain ⟨h3,h4⟩:=lnkB_iff.1 h1
    have h5:=(opn_iff hw).2 ((Opn_sub (t:=t) hb).2 h3)
    exact ⟨h4,by rw [h5];omega,by rw [h5];exact h2⟩
def over (l:List VisT) (e:WinT):Bool:=decide ((getI l tVis.dflt e.2.1.toNat).2.2.1 - (getI l tVis.dflt e.1.toNat).2.2.2 > e.2.2)
theorem req_late {mn mx:Int} {ss:List StepT} {ws:List WinT} (hv:validF mn mx ss ws=true) {rt:List Int} {l:List VisT} {f t:Nat} (hs:l.map Prod.fst=(rt.take (t+1)).drop f) (hft:f≤t) (ht:t < rt.length) (hl:l.length=t+1 - f) (htm:TimeOk l) :
    (winAll (linksF rt ws) (f:Int) (t+1 - f) (t+1 - f)).any (over l)=decide (((lateQ (watL l 0 ws)).length:Int) > 0):=by
  have F:=flow_sm hv
  rw [Bool.eq_iff_iff,List.any_eq_true,decide_eq_true_eq]
  have hpos:((lateQ (watL l 0 ws)).length:Int) > 0↔∃ k,k∈lateQ (watL l 0 ws):=by
    constructor
    · intro h
      exact ⟨_,fl_mem (d:=(0:Int)) (i:=0) (by omega)⟩
    · rintro ⟨k,hk⟩
      have:=List.length_pos_of_mem hk
      omega
  rw [hpos]
  have hall:∀ {w:WinT},w∈ws→((watF w l).2.2.2=true↔∃ b,b < l.length∧BadAt w l b):=fun {w} hw=>by
    have h:=(wat_at (win_ne F hw) htm (j:=l.length) (Nat.le_refl _)).l
    rw [List.take_length] at h
    exact h
  constructor
  · rintro ⟨e,he,ho⟩
    obtain ⟨i,hi,j,hj,he⟩:=winAll_mem.1 he
    obtain ⟨lim,h1,rfl⟩:=winAt_mem.1 he
    obtain ⟨w,hw,h2,h3⟩:=(links_ok (rt:=rt) (ws:=ws)).b _ _ h1
    obtain ⟨a,b,h4,h5,h6⟩:=(lkW_lnk (win_ne F hw)).1 h2
    have e1:(f:Int)+(i:Int)=a:=congrArg Prod.fst h4
    have e2:(f:Int)+(j:Int)=b:=congrArg Prod.snd h4
    obtain rfl:a=f+i:=by omega
    obtain rfl:b=f+j:=by omega
    unfold over at ho
    have ho:=of_decide_eq_true ho
    rw [show ((i:Int),(j:Int),lim).2.1.toNat=j by show ((j:Int)).toNat=j;omega,show ((i:Int),(j:Int),lim).1.toNat=i by show ((i:Int)).toNat=i;omega] at ho
    have hbad:BadAt w l j:=(bad_iff (win_ne F hw) hs (by omega)).2 ⟨i,h6,by rw [h3];exact ho⟩
    obtain ⟨k,hk,hke⟩:=mem_getI (d:=tWin.dflt) hw
    have hkq:ws[k]?=some w:=by
      rw [List.getElem?_eq_getElem hk]
      simp [getI,List.getD,List.getElem?_eq_getElem hk] at hke
      rw [hke]
    exact ⟨(k:Int),late_iff.2 ⟨k,w,hkq,by rw [Nat.zero_add],(hall hw).2 ⟨j,by omega,hbad⟩⟩⟩
  · rintro ⟨k,hk⟩
    obtain ⟨q,w,h1,_,h3⟩:=late_iff.1 hk
    have hw:w∈ws:=List.mem_of_getElem? h1
    obtain ⟨b,hb,hbad⟩:=(hall hw).1 h3
    obtain ⟨a,h4,h5⟩:=(bad_iff (win_ne F hw) hs (by omega)).1 hbad
    obtain ⟨lim,h6,h7⟩:=(links_ok (rt:=rt) (ws:=ws)).c w hw ((f:Int)+(a:Int),(f:Int)+(b:Int)) ((lkW_lnk (win_ne F hw)).2 ⟨f+a,f+b,by rw [Int.natCast_add,Int.natCast_add],by omega,h4⟩)
    have hab:f+a < f+b:=(lnkB_iff.1 h4).1.1
    refine ⟨((a:Int),(b:Int),lim),winAll_mem.2 ⟨a,by omega,b,by omega,winAt_mem.2 ⟨lim,h6,rfl⟩⟩,?_⟩
    unfold over
    refine decide_eq_true ?_
    show (getI l tVis.dflt ((b:Int)).toNat).2.2.1 - (getI l tVis.dflt ((a:Int)).toNat).2.2.2 > lim
    rw [show ((b:Int)).toNat=b by omega,show ((a:Int)).toNat=a by omega]
    omega
theorem vis_stp {n:Int} {v:List Int3} {f t:Nat} (ht:t < (stpF n v).length):(((visF n v).take (t+1)).drop f).map Prod.fst=((stpF n v).take (t+1)).drop f:=by
  have hlen:(stpF n v).length=min v.length 12:=by unfold stpF;rw [List.length_map,List.length_range]
  rw [List.map_drop,List.map_take]
  congr 1
  unfold visF stpF
  rw [List.map_map,← List.map_take,← List.map_take,List.take_range,List.take_range,show min (t+1) (min v.length 20)=t+1 by omega,show min (t+1) (min v.length 12)=t+1 by omega]
  rfl
theorem vis_time {n:Int} {v:List Int3}:TimeOk (visF n v):=by
  intro u hu
  obtain ⟨⟨h1,h2⟩,h3,h4⟩:=visF_in (b:=0) (Int.le_refl _) (by omega) u hu
  exact ⟨time_in h1 (by omega),time_in h3 (by omega)⟩
end Go.AM.Ytdohkcddjoammaa.Fl
end

section
set_option linter.all false
set_option maxRecDepth 10000
namespace Go.AM
def fieldB (P:Program) (T n off:Nat):Bool:=match P.underlying T with
  | some (.struct fs)=>match fs[n]? with
    | some fd=>match P.underlying fd.type,P.info? fd.type with
      | some _,some i=>Nat.beq fd.offset off&&(!isAggOf P fd.type&&Nat.beq i.size 1)
      | _,_=>false
    | none=>false
  | _=>false
theorem run_field {P:Program} {g:Nat→Gh} {K R:Nat→Prop} {w:World} {T n off:Nat} (h:fieldB P T n off=true) {cs:List AV} {vs:List Value} {v:AV} (hr:RelL g K R w cs vs) (hv:nth cs off=some v) :
    ∃ u,(Instr.field T (.agg vs.toArray) n).run P w=.ok u w∧RelV g K R w v u:=by
  unfold fieldB at h
  split at h <;> try (cases h;done)
  rename_i fs hfs
  split at h <;> try (cases h;done)
  rename_i fd hfd
  split at h <;> try (cases h;done)
  rename_i dd i hdd hi
  rw [Bool.and_eq_true,Bool.and_eq_true,Bool.not_eq_true'] at h
  obtain ⟨h1,h2,h3⟩:=h
  have h1:=beq_eq h1
  have h3:=beq_eq h3
  rw [nth_spec] at hv
  obtain ⟨u,hu1,hu2⟩:=RelL_get hr hv
  have hlt:=(List.getElem?_eq_some_iff.1 hu1).1
  have hu3:=(List.getElem?_eq_some_iff.1 hu1).2
  have hp:=run_part (P:=P) w hdd hi vs [u] (vs.drop (off+1)) off (by rw [List.drop_eq_getElem_cons hlt,hu3];rfl) (by simp;omega) (fun _=>rfl)
  refine ⟨u,?_,hu2⟩
  simp only [Instr.field,Sem.run_bind,run_underlying hfs,Result.andThen_ok,hfd,asAgg,Sem.run_pure,h1]
  rw [hp]
  simp [mkVal,h2]
def fldSt (off d x:Nat) (st:St):Option St:=match st with
  | ⟨n,slots,gt,ks,rows⟩=>match look slots x,gt,Nat.blt d n with
    | some ⟨[],.agg cs⟩,[],true=>match nth cs off with
      | some v=>some ⟨n,(d,⟨[],v⟩)::slots,[],ks,rows⟩
      | none=>none
    | _,_,_=>none
def fldOp (T n:Nat):List Oper→Option (Nat × Nat × List Oper)
  | ⟨some d,.field T' (.tmp x) n',_,_,_,none⟩::rest=>match Nat.beq T' T,Nat.beq n' n with
    | true,true=>some (d,x,rest)
    | _,_=>none
  | _=>none
theorem fldOp_spec {T n d x:Nat} {l rest:List Oper} (h:fldOp T n l=some (d,x,rest)):∃ y p e,l=⟨some d,.field T (.tmp x) n,y,p,e,none⟩::rest:=by
  unfold fldOp at h
  split at h <;> try (cases h;done)
  split at h <;> try (cases h;done)
  rename_i h1 h2
  have h1:=beq_eq h1
  have h2:=beq_eq h2
  cases h
  subst h1 h2
  exact ⟨_,_,_,rfl⟩
def regFldRun (tt:TT) (S:Nat→Option Spec) (K:List Nat) (k T n off:Nat) (c:Code) (st:St):Option (List Prop × St):=match c with
  | .region _ ops false=>runO tt S ops.toList (ops.toList.take k) st [] [] fun cs1 s1 _=>match fldOp T n (ops.toList.drop k) with
    | some (d,x,rest)=>match fldSt off d x s1 with
      | some s2=>runO tt S ops.toList rest s2 [] [] fun cs2 s3 _=>tidy K s3 fun s4=>some (appP cs1 cs2,s4)
      | none=>none
    | none=>none
  | _=>none
section
variable {tt:TT} {S:Nat→Option Spec} {E:Env PG tt S} {K:List Nat} {c:Code} {st:St} {Q:AExit→St→Prop}
theorem regFld0 (k T n off:Nat) (hB:fieldB PG T n off=true) {cs:List Prop} {st':St} (h:regFldRun tt S K k T n off c st=some (cs,st')) (x:allP cs (Q .normal st')):WP E K c st Q:=by
  unfold regFldRun at h
  split at h
  · rename_i id ops
    intro hc C g R a w Z hrel hq
    obtain ⟨c1,s1,t1,hl1,h⟩:=runO_spec h
    try dsimp only at h
    split at h <;> try (cases h;done)
    rename_i d y rest hfo
    split at h <;> try (cases h;done)
    rename_i s2 hfs
    obtain ⟨ty,ps,es,hdrop⟩:=fldOp_spec hfo
    obtain ⟨c2,s3,t2,hl2,h⟩:=runO_spec h
    try dsimp only at h
    rw [tidy_eq] at h
    simp only [List.nil_append,Option.some.injEq,Prod.mk.injEq] at h
    obtain ⟨hcs,hst⟩:=h
    rw [appP_eq] at hcs
    subst hcs
    obtain ⟨x1,x2⟩:=allP_spec x
    have hok:∀ o∈ops.toList,operOk o∧notDefer o.op=true:=fun o ho=>by
      simp only [codeOk,List.all_eq_true] at hc
      have:=hc o ho
      rw [Bool.and_eq_true,List.all_eq_true] at this
      exact ⟨fun y hy=>operandB_spec (this.2 y (by simpa using hy)),this.1⟩
    refine wpIn_region ?_
    have hkl:k < ops.toList.length:=by
      have h9:=congrArg List.length hdrop
      rw [List.length_drop,List.length_cons] at h9
      omega
    have hsz:ops.size=ops.toList.length:=(Array.length_toList ..).symm
    have hrl:ops.toList.length=k+1+rest.length:=by
      have h9:=congrArg List.length hdrop
      rw [List.length_drop,List.length_cons] at h9
      omega
    have hop:ops.toList[k]?=some ⟨some d,.field T (.tmp y) n,ty,ps,es,none⟩:=by
      have h9:=congrArg (·[0]?) hdrop
      simpa using h9
    have hrest:∀ j o,rest[j]?=some o→ops.toList[k+1+j]?=some o:=fun j o hj=>by
      have h9:=congrArg (·[j+1]?) hdrop
      simp only [List.getElem?_drop,List.getElem?_cons_succ] at h9
      rw [show k+1+j=k+(j+1) by omega,h9]
      exact hj
    have e:List.range ops.size=List.range' 0 (ops.toList.take k).length++(k::List.range' (k+1) rest.length):=by
      rw [List.range_eq_range',List.length_take,hsz,Nat.min_eq_left (by omega),hrl]
      rw [show k::List.range' (k+1) rest.length=List.range' (0+1 * k) (rest.length+1) by simp [List.range'_succ],List.range'_append]
      congr 1
      omega
    rw [e]
    have hops:ops.toList.toArray=ops:=by simp
    have h1:=runs_pre (C:=C) (ro:=E.ro) (P:=PG) (Q:=Z) E.hT E.hS hok 0 hl1 (fun j o hj=>by
      rw [Nat.zero_add]
      rw [List.getElem?_take] at hj
      split at hj
      · exact hj
      · cases hj) (fun p hp=>x1 p (List.mem_append_left _ hp)) (rest:=k::List.range' (k+1) rest.length) hrel
      (fun g' R' a' w' hr=>by
        obtain ⟨sn,ssl,sgt,sks,srs⟩:=s1
        unfold fldSt at hfs
        dsimp only at hfs
        split at hfs <;> try (cases hfs;done)
        rename_i fcs hlk hdn
        split at hfs <;> try (cases hfs;done)
        rename_i v hv
        have hs2:=Option.some.inj hfs
        obtain ⟨xv,hxv,hxr⟩:=(hr.slots y _ (show look ssl y=_ from hlk)).1 (fun t x h=>by cases h)
        have hev:a'.eval (.tmp y)=xv:=getD_of hxv
        generalize hxw:xv=xv' at hxr
        cases hxr with
        | agg hcs =>
          obtain ⟨u,hu,hru⟩:=run_field (P:=PG) hB hcs hv
          have hr2:=hr.put d ⟨[],v⟩ u [] (by simpa [Nat.blt_eq] using hdn) rfl (fun _ h=>h) (fun u x h=>by cases h) ⟨fun _=>hru,fun h=>absurd (fun t x h=>by cases h) h⟩
          rw [show (⟨sn,(d,⟨[],v⟩)::ssl,[],sks,srs⟩:St)=s2 from hs2] at hr2
          have h2:=runs_pre (C:=C) (ro:=E.ro) (P:=PG) (Q:=Z) E.hT E.hS hok (k+1) hl2 hrest (fun p hp=>x1 p (List.mem_append_right _ hp)) (rest:=[]) hr2
            (fun g3 R3 a3 w3 hr3=>by
              simp only [wpOpsIn]
              exact hq C .normal st' g3 R3 a3 w3 (Later.refl C) x2 (hst ▸ tidy_sound hr3))
          rw [List.append_nil] at h2
          simp only [wpOpsIn,List.getElem?_toArray,hop]
          rw [if_pos (by unfold Region.wanted;rfl)]
          exact opFR (wp_value (v:=u) (w':=w') (by simp [execOp,hev,hxw,hu]) h2) rfl)
    rwa [hops] at h1
  · cases h
theorem regFld (hs:List (Nat × Bool)) (k T n off:Nat) (hB:fieldB PG T n off=true) {cs:List Prop} {st':St} (h:regFldRun (tt.1,tt.2.1,hs) S K k T n off c st=some (cs,st')) (x:allP cs (Q .normal st')):WP E K c st Q :=
  regFld0 (E:=(⟨E.hT,E.hS,E.hm,E.ro⟩:Env PG (tt.1,tt.2.1,hs) S)) k T n off hB h x
end
end Go.AM
end

section
set_option linter.all false
namespace Go.AM.Ytdohkcddjoammaa.Fl
open Go.Proofs
set_option maxRecDepth 100000
set_option maxHeartbeats 4000000
def exNx (i:Nat):List Int:=bif decide ((i:Int) < 3) then [(i:Int)+1] else []
def exStep (i:Nat):StepT:=(1,[(i:Int)],10,20,exNx i,-1,0)
def exL (n:Nat):List StepT:=(List.range n).map exStep
def exW (l:Int):List WinT:=[(0,2,l),(1,3,100)]
def examS:Spec:=⟨true,fun args rows=>match args,rows with
  | [.int .i64 l],[]=>some ⟨True,.agg [.int .i64 2,.int .i64 5,.sl tStep (exL 4),.sl tWin (exW l)],[],true⟩
  | _,_=>none⟩
theorem examOk:SpecSound Try.prog 26 examS:=by
  refine soundR (envOf sigNil) Try.func26 (c:=body Try.f26) rfl (by kernel_rfl) rfl ?_
  intro args rows out hf hpre
  split at hf <;> try (cases hf;done)
  rename_i l
  cases hf
  refine ⟨Nat.le_of_ble_eq_true rfl,initI (args:=[.int .i64 l]) (rows:=[]) rfl ?_⟩
  repeat' (first|with_reducible (first|apply pN|apply cN|apply bN|apply cE|apply cR|apply bR|apply lE|apply lR|apply jE|apply jR)|refine zE ?_|refine zP ?_|refine pD ?_|refine zS ?_|refine zR ?_|refine zO ?_|refine zB ?_|refine zX ?_|refine zT ?_|refine skipI rfl ?_)
  refine loopI (σ:=Nat) (fun i=>[(4,.int .i64 i)]) (fun i=>[(3,.box [.int .i64 2,.int .i64 5,.own 3000,.own 9]),(3000,.seq tStep (exL i)),(9,.seq tWin (exW l))]) (fun i=>i≤4) (fun i=>4 - i) 0 rfl (fun _=>rfl) rfl ?_ ?_ ?_
  · exact Nat.zero_le _
  · repeat' (first|exact trivial|with_reducible exact rfl|refine And.intro ?_ ?_)
    all_goals rfl
  intro i hi
  repeat' (first|with_reducible (first|apply pN|apply cN|apply bN|apply cE|apply cR|apply bR|apply lE|apply lR|apply jE|apply jR)|refine zE ?_|refine zP ?_|refine pD ?_|refine zS ?_|refine zR ?_|refine zO ?_|refine zB ?_|refine zX ?_|refine zT ?_|refine skipI rfl ?_)
  refine condI rfl (fun c1=>?_) (fun c1=>?_)
  · simp only [decide_eq_true_eq] at c1
    have hi3:i < 4:=by omega
    repeat' (first|with_reducible (first|apply pN|apply cN|apply bN|apply cE|apply cR|apply bR|apply lE|apply lR|apply jE|apply jR)|refine zE ?_|refine zP ?_|refine zS ?_|refine zO ?_|refine zB ?_|refine zX ?_|refine zT ?_|refine skipI rfl ?_)
    refine zR ?_
    repeat' (first|with_reducible refine pN ?_|refine pD ?_|fail)
    repeat with_reducible refine cN ?_
    refine freezeI 16 rfl ?_
    repeat' (first|with_reducible (first|apply pN|apply cN|apply bN|apply cE|apply cR|apply bR|apply lE|apply lR|apply jE|apply jR)|refine zE ?_|refine zP ?_|refine zS ?_|refine zO ?_|refine zB ?_|refine zX ?_|refine zT ?_|refine skipI rfl ?_)
    refine zR ?_
    repeat' (first|with_reducible refine pN ?_|refine pD ?_|fail)
    repeat with_reducible refine cN ?_
    repeat' (first|with_reducible refine cN ?_|refine zS ?_|refine skipI rfl ?_)
    refine joinC (fun _:Unit=>[]) (fun _=>[(5,.box [.int .i64 1,.sl tInt [(i:Int)],.int .i64 10,.int .i64 20,.own 3100,.int .i64 (-1),.int .i64 0]),(3100,.seq tInt (exNx i))]) (fun _=>True) (fun _=>rfl) ?_ (fun _ _=>?_)
    · refine condI rfl (fun c2=>?_) (fun c2=>?_)
      · have c2:decide ((i:Int) < 3)=true:=c2
        repeat' (first|with_reducible (first|apply pN|apply cN|apply bN|apply cE|apply cR|apply bR|apply lE|apply lR|apply jE|apply jR)|refine zE ?_|refine zP ?_|refine pD ?_|refine pC (by (unfold In64;omega)) ?_|refine zS ?_|refine zR ?_|refine zO ?_|refine zB ?_|refine zX ?_|refine zT ?_|refine skipI rfl ?_)
        refine meetI () rfl trivial ?_
        repeat' (first|exact trivial|exact rfl|refine ⟨rfl,?_⟩|refine And.intro ?_ ?_)
        unfold exNx
        rw [c2]
        rfl
      · have c2:decide ((i:Int) < 3)=false:=c2
        repeat' (first|with_reducible (first|apply pN|apply cN|apply bN|apply cE|apply cR|apply bR|apply lE|apply lR|apply jE|apply jR)|refine zE ?_|refine zP ?_|refine pD ?_|refine zS ?_|refine zR ?_|refine zO ?_|refine zB ?_|refine zX ?_|refine zT ?_|refine skipI rfl ?_)
        refine meetI () rfl trivial ?_
        repeat' (first|exact trivial|exact rfl|refine ⟨rfl,?_⟩|refine And.intro ?_ ?_)
        unfold exNx
        rw [c2]
        rfl
    have hel:(exL i).length=i:=by unfold exL;rw [List.length_map,List.length_range]
    repeat' (first|with_reducible (first|apply pN|apply cN|apply bN|apply cE|apply cR|apply bR|apply lE|apply lR|apply jE|apply jR)|refine zE ?_|refine zP ?_|refine pD ?_|refine pC (by first|(rw [hel];omega)|(simp only [hel,List.length_cons,List.length_nil];omega)|(unfold In64;omega)) ?_|refine zS ?_|refine zR ?_|refine zO ?_|refine zB ?_|refine zX ?_|refine zT ?_|refine skipI rfl ?_)
    refine roundI (i+1) rfl ?_ ?_ ?_
    · show i+1≤4
      omega
    · show 4 - (i+1) < 4 - i
      omega
    · repeat' (first|exact trivial|with_reducible exact rfl|refine And.intro ?_ ?_)
      all_goals first|rfl|(unfold exL;rw [List.range_succ,List.map_append];rfl)
  · simp only [decide_eq_false_iff_not] at c1
    obtain rfl:i=4:=by omega
    repeat' (first|with_reducible refine cN ?_|refine zS ?_|refine skipI rfl ?_)
    refine freezeI 3000 rfl ?_
    refine freezeI 9 rfl ?_
    repeat' (first|with_reducible (first|apply pN|apply cN|apply bN|apply cE|apply cR|apply bR|apply lE|apply lR|apply jE|apply jR)|refine zE ?_|refine zP ?_|refine pD ?_|refine zS ?_|refine zR ?_|refine zO ?_|refine zB ?_|refine zX ?_|refine zT ?_|refine skipI rfl ?_)
    refine endR rfl ?_
    repeat' (first|exact trivial|exact rfl|refine ⟨rfl,?_⟩|refine And.intro ?_ ?_)
def exV:List VisT:=[(0,0,0,10),(1,0,12,22),(2,0,25,35)]
theorem ex_chk14:checkF 2 5 (exL 4) (exW 14)=(0,[]):=by decide +kernel
theorem ex_chk13:checkF 2 5 (exL 4) (exW 13)=(3,[0,1,2]):=by decide +kernel
theorem ex_rqB:reqB 2 5 (exL 4) (exW 14) [0,1,2,3] 0 2 7=true:=by decide +kernel
theorem ex_rqW:reqW [0,1,2,3] (exW 14) 0 2=[(0,2,14)]:=by decide +kernel
theorem ex_req:reqF 2 5 (exL 4) (exW 14) [0,1,2,3] 0 2 7=(7,2,5,needsF (exL 4) [0,1,2,3] 0 3,[(0,2,14)]):=by
  unfold reqF
  rw [ex_rqB,ex_rqW]
  rfl
theorem ex_rqE:reqE 2 5 (exL 4) (exW 14) [0,1,2,3] 0 2 7=0:=by
  unfold reqE
  rw [ex_rqB]
  rfl
theorem ex_rqN:(needsF (exL 4) [0,1,2,3] 0 3).length=3:=rfl
theorem ex_late:lateQ (watA 2 5 (exL 4) (exW 14) exV)=[0]:=by decide +kernel
theorem ex_open:openQ (watA 2 5 (exL 4) (exW 14) (exV.take 2))=[(0,24),(1,122)]:=by decide +kernel
theorem ex_lnk:linksF [0,1,2,3] (exW 14)=[((0,2),14),((1,3),100)]:=by decide +kernel
theorem ex_line:lineB 2 5 (exL 4) (exW 14) [0,1,2,3]=true:=by decide +kernel
theorem ex_seg {s e:Int} (h0:hasB [0,1,2,3] s=true) (h:IsSeg [((0,2),14),((1,3),100)] s e):segF 2 5 (exL 4) (exW 14) [0,1,2,3] s=e:=by
  unfold segF
  rw [ex_line,h0,ex_lnk]
  exact segE_eq h
theorem ex_cl {s e:Int}:Closed [((0,2),14),((1,3),100)] s e↔(s≤0→0≤e→2≤e)∧(s≤1→1≤e→3≤e):=by
  unfold Closed
  simp
theorem ex_seg0:segF 2 5 (exL 4) (exW 14) [0,1,2,3] 0=3:=ex_seg rfl ⟨by omega,ex_cl.2 ⟨by omega,by omega⟩,fun e' h1 h2=>by have:=ex_cl.1 h2;omega⟩
theorem ex_seg2:segF 2 5 (exL 4) (exW 14) [0,1,2,3] 2=2:=ex_seg rfl ⟨by omega,ex_cl.2 ⟨by omega,by omega⟩,fun e' h1 h2=>h1⟩
theorem ex_seg4:segF 2 5 (exL 4) (exW 14) [0,1,2,3] 4=-1:=by
  unfold segF
  rw [show hasB [0,1,2,3] 4=false from rfl,Bool.and_false]
  rfl
def saneWS:Spec:=plain fun
  | []=>outV True (.bool true)
  | _=>none
noncomputable def sigSn:List (Nat × Spec):=[(26,examS),(21,wcheckS),(20,reqS),(13,lateS),(14,openS),(18,segS),(15,sameIS),(27,sameDS)]
theorem sigSnOk:SigOk Try.prog (look sigSn):=sigCons (sigCons (sigCons (sigCons (sigCons (sigCons (sigCons (sigCons sigNil
  Try.func27 (by kernel_rfl) (c:=body Try.f27) rfl sameDOk)
  Try.func15 (by kernel_rfl) (c:=body Try.f15) rfl sameIOk)
  Try.func18 (by kernel_rfl) (c:=body Try.f18) rfl segOk)
  Try.func14 (by kernel_rfl) (c:=body Try.f14) rfl openOk)
  Try.func13 (by kernel_rfl) (c:=body Try.f13) rfl lateOk)
  Try.func20 (by kernel_rfl) (c:=body Try.f20) rfl reqOk)
  Try.func21 (by kernel_rfl) (c:=body Try.f21) rfl wcheckOk)
  Try.func26 (by kernel_rfl) (c:=body Try.f26) rfl examOk
theorem saneWOk:SpecSound Try.prog 9 saneWS:=by
  refine soundP (envOf sigSnOk) Try.func9 (c:=body Try.f9) rfl (by kernel_rfl) rfl ?_
  intro args out hf hpre
  split at hf <;> try (cases hf;done)
  cases hf
  refine ⟨Nat.le_of_ble_eq_true rfl,initI rfl ?_⟩
  repeat' (first|with_reducible (first|apply pN|apply cN|apply bN|apply cE|apply cR|apply bR|apply lE|apply lR|apply jE|apply jR)|refine zE ?_|refine zP ?_|refine zS ?_|refine zO ?_|refine zB ?_|refine zX ?_|refine zT ?_|refine skipI rfl ?_)
  refine zR ?_
  repeat' (first|with_reducible refine pN ?_|refine pD ?_|fail)
  repeat with_reducible refine cN ?_
  repeat' (first|with_reducible (first|apply pN|apply cN|apply bN|apply cE|apply cR|apply bR|apply lE|apply lR|apply jE|apply jR)|refine zE ?_|refine zP ?_|refine zS ?_|refine zO ?_|refine zB ?_|refine zX ?_|refine zT ?_|refine skipI rfl ?_)
  refine zR ?_
  repeat' (first|with_reducible refine pN ?_|refine pD ?_|fail)
  repeat with_reducible refine cN ?_
  repeat' (first|with_reducible (first|apply pN|apply cN|apply bN|apply cE|apply cR|apply bR|apply lE|apply lR|apply jE|apply jR)|refine zE ?_|refine zP ?_|refine zS ?_|refine zO ?_|refine zB ?_|refine zX ?_|refine zT ?_|refine skipI rfl ?_)
  refine zR ?_
  repeat' (first|with_reducible refine pN ?_|refine pD ?_|fail)
  repeat with_reducible refine cN ?_
  repeat' (first|with_reducible (first|apply pN|apply cN|apply bN|apply cE|apply cR|apply bR|apply lE|apply lR|apply jE|apply jR)|refine zE ?_|refine zP ?_|refine zS ?_|refine zO ?_|refine zB ?_|refine zX ?_|refine zT ?_|refine skipI rfl ?_)
  refine zR ?_
  repeat' (first|with_reducible refine pN ?_|refine pD ?_|fail)
  repeat with_reducible refine cN ?_
  refine zS ?_
  refine regF 2 18 rfl ?_
  repeat' (first|with_reducible refine pN ?_|refine pC (by first|exact True.intro|rfl) ?_)
  rw [ex_req,ex_rqE,ex_chk13]
  repeat' (first|with_reducible (first|apply pN|apply cN|apply bN|apply cE|apply cR|apply bR|apply lE|apply lR|apply jE|apply jR)|refine zE ?_|refine zP ?_|refine zS ?_|refine zO ?_|refine zB ?_|refine zX ?_|refine zT ?_|refine skipI rfl ?_)
  refine zR ?_
  repeat' (first|with_reducible refine pN ?_|refine pD ?_|fail)
  repeat with_reducible refine cN ?_
  refine condF rfl ?_
  repeat' (first|with_reducible refine cN ?_|refine zS ?_|refine skipI rfl ?_)
  refine regFld [(40,true),(45,true)] 2 65 0 0 (by kernel_rfl) rfl ?_
  rw [ex_chk14]
  repeat' (first|with_reducible refine pN ?_|refine pC (by first|exact True.intro|rfl) ?_)
  repeat' (first|with_reducible refine cN ?_|refine zS ?_|refine skipI rfl ?_)
  refine regH [(56,true)] rfl ?_
  rw [show lateQ (watA 2 5 (exL 4) (exW 14) [(0,0,0,10),(1,0,12,22),(2,0,25,35)])=[0] from ex_late,show openQ (watA 2 5 (exL 4) (exW 14) (List.take (Int.toNat 2) [(0,0,0,10),(1,0,12,22),(2,0,25,35)]))=[(0,24),(1,122)] from ex_open]
  repeat' (first|with_reducible refine pN ?_|refine pC (by first|exact True.intro|rfl|decide|(simp;omega)) ?_)
  repeat' (first|with_reducible (first|apply pN|apply cN|apply bN|apply cE|apply cR|apply bR|apply lE|apply lR|apply jE|apply jR)|refine zE ?_|refine zP ?_|refine zS ?_|refine zO ?_|refine zB ?_|refine zX ?_|refine zT ?_|refine skipI rfl ?_)
  refine zR ?_
  repeat' (first|with_reducible refine pN ?_|refine pD ?_|fail)
  repeat with_reducible refine cN ?_
  repeat' (first|with_reducible refine cN ?_|refine zS ?_|refine skipI rfl ?_)
  refine regH [(68,true),(71,true),(79,true),(85,true),(91,true)] rfl ?_
  rw [ex_seg0,ex_seg2,ex_seg4]
  repeat' (first|with_reducible refine pN ?_|refine pC (by first|exact True.intro|rfl|decide|(simp;omega)) ?_)
  repeat' (first|with_reducible (first|apply pN|apply cN|apply bN|apply cE|apply cR|apply bR|apply lE|apply lR|apply jE|apply jR)|refine zE ?_|refine zP ?_|refine pD ?_|refine zS ?_|refine zR ?_|refine zO ?_|refine zB ?_|refine zX ?_|refine zT ?_|refine skipI rfl ?_)
  refine endR rfl ?_
  repeat' (first|exact trivial|exact rfl|refine ⟨rfl,?_⟩|refine And.intro ?_ ?_)
end Go.AM.Ytdohkcddjoammaa.Fl
end
