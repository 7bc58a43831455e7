/- The law WindowShift: her function. -/
import Derived.Test.YtdohkcddjoammaaPw31
import Derived.Test.YtdohkcddjoammaaPw32
set_option linter.all false
namespace Go.AM.Ytdohkcddjoammaa.Fl
open Go.Proofs
set_option maxRecDepth 100000
set_option maxHeartbeats 4000000
theorem watA_v {mn mx:Int} {ss:List StepT} {ws:List WinT} (h:validF mn mx ss ws=true) (vs:List VisT):watA mn mx ss ws vs=watL vs 0 ws:=by unfold watA;rw [h];rfl
def shiftS:Spec:=plain fun
  | [.agg [.sl (.pair (.int .i64) (.pair (.int .i64) (.pair (.int .i64) (.pair (.int .i64) (.pair (.int .i64) (.int .i64)))))) x,.sl (.pair (.int .i64) (.pair (.int .i64) (.int .i64))) w,.sl (.pair (.int .i64) (.pair (.int .i64) (.int .i64))) v,.int .i64 a,.int .i64 b,.int .i64 c],.int .i64 d]=>outV True (.bool true)
  | _=>none
def sigSh:List (Nat × Spec):=[(9,saneWS),(10,cMadeS),(11,visS),(12,pickP),(13,lateS),(14,openS),(15,sameIS),(16,hasIS)]
theorem sigShOk:SigOk Try.prog (look sigSh):=sigCons (sigCons (sigCons (sigCons (sigCons (sigCons (sigCons (sigCons sigNil
  Try.func16 (by kernel_rfl) (c:=body Try.f16) rfl hasIOk)
  Try.func15 (by kernel_rfl) (c:=body Try.f15) rfl sameIOk)
  Try.func14 (by kernel_rfl) (c:=body Try.f14) rfl openOk)
  Try.func13 (by kernel_rfl) (c:=body Try.f13) rfl lateOk)
  Try.func12 (by kernel_rfl) (c:=body Try.f12) rfl pickWOk)
  Try.func11 (by kernel_rfl) (c:=body Try.f11) rfl visOk)
  Try.func10 (by kernel_rfl) (c:=body Try.f10) rfl cMadeOk)
  Try.func9 (by kernel_rfl) (c:=body Try.f9) rfl saneWOk
theorem visF_len {n:Int} {v:List Int3}:(visF n v).length≤20:=by unfold visF;rw [List.length_map,List.length_range];omega
theorem set_last {α:Type} {l0:List α} {u x:α} {n:Nat} (h:n=l0.length):(l0++[u]).set n x=l0++[x]:=by
  subst h
  rw [List.set_append_right _ _ (Nat.le_refl _),Nat.sub_self]
  rfl
theorem map_get {α β:Type} {l:List α} {f:α→β} {d:α} {e:β} {i:Nat} (h:i < l.length):getI (l.map f) e i=f (getI l d i):=by
  simp [getI,List.getD,List.getElem?_map,List.getElem?_eq_getElem h]
theorem open_b {mn mx:Int} {ss:List StepT} {ws:List WinT} (F:FlowSm mn mx ss ws) {vs:List VisT}:∀ d∈openQ (watL vs 0 ws),0≤d.2∧d.2≤2000000:=by
  intro d hd
  obtain ⟨j,x,h1,h2,h3⟩:=open_iff.1 hd
  have hj:j < ws.length:=(List.getElem?_eq_some_iff.1 h1).1
  have h4:=win_lim F hj
  rw [show getI ws tWin.dflt j=x by simp [getI,List.getD,h1]] at h4
  have h5:WatOk (watF x vs):=foldV_ok ⟨⟨Int.le_refl _,(by decide:(0:Int)≤1000000)⟩,h4⟩
  have h6:=h5.1
  rw [h2]
  show 0≤(watF x vs).2.1+x.2.2∧(watF x vs).2.1+x.2.2≤2000000
  omega
theorem shiftOk:SpecSound Try.prog 3 shiftS:=by
  refine soundP (envOf sigShOk) Try.func3 (c:=body Try.f3) rfl (by kernel_rfl) rfl ?_
  intro args out hf hpre
  split at hf <;> try (cases hf;done)
  rename_i x w v a b c d
  cases hf
  refine ⟨Nat.le_of_ble_eq_true rfl,initI (args:=[.agg [.sl tS6 x,.sl tS3 w,.sl tS3 v,.int .i64 a,.int .i64 b,.int .i64 c],.int .i64 d]) rfl ?_⟩
  have hl:=c_len (x:=x) (c:=c)
  have hv:=c_valid (x:=x) (w:=w) (c:=c)
  have hb:=pick_b (c:=d) (n:=1000) (by omega)
  repeat' (first|with_reducible (first|apply pN|apply cN|apply bN|apply cE|apply cR|apply bR|apply lE|apply lR|apply jE|apply jR)|refine zE ?_|refine zP ?_|refine zS ?_|refine zO ?_|refine zB ?_|refine zX ?_|refine zT ?_|refine skipI rfl ?_)
  refine zR ?_
  repeat' (first|with_reducible refine pN ?_|refine pD ?_|fail)
  repeat with_reducible refine cN ?_
  repeat' (first|with_reducible (first|apply pN|apply cN|apply bN|apply cE|apply cR|apply bR|apply lE|apply lR|apply jE|apply jR)|refine zE ?_|refine zP ?_|refine zS ?_|refine zO ?_|refine zB ?_|refine zX ?_|refine zT ?_|refine skipI rfl ?_)
  refine zR ?_
  repeat' (first|with_reducible refine pN ?_|refine pD ?_|fail)
  repeat with_reducible refine cN ?_
  repeat' (first|with_reducible (first|apply pN|apply cN|apply bN|apply cE|apply cR|apply bR|apply lE|apply lR|apply jE|apply jR)|refine zE ?_|refine zP ?_|refine zS ?_|refine zO ?_|refine zB ?_|refine zX ?_|refine zT ?_|refine skipI rfl ?_)
  refine zR ?_
  repeat' (first|with_reducible refine pN ?_|refine pD ?_|fail)
  repeat with_reducible refine cN ?_
  generalize cMn x c=mn at *
  generalize cMx x c=mx at *
  generalize cSs x c=ss at *
  generalize cWs x w c=ws at *
  have hin:=visF_in (n:=(ss.length:Int)) (v:=v) (b:=pickF d 1000) hb.1 (by omega)
  have hlen:=visF_len (n:=(ss.length:Int)) (v:=v)
  repeat' (first|with_reducible (first|apply pN|apply cN|apply bN|apply cE|apply cR|apply bR|apply lE|apply lR|apply jE|apply jR)|refine zE ?_|refine zP ?_|refine zS ?_|refine zO ?_|refine zB ?_|refine zX ?_|refine zT ?_|refine skipI rfl ?_)
  refine zR ?_
  repeat' (first|with_reducible refine pN ?_|refine pD ?_|refine pC (by exact ⟨hl.1,by omega⟩) ?_)
  repeat with_reducible refine cN ?_
  repeat' (first|with_reducible (first|apply pN|apply cN|apply bN|apply cE|apply cR|apply bR|apply lE|apply lR|apply jE|apply jR)|refine zE ?_|refine zP ?_|refine zS ?_|refine zO ?_|refine zB ?_|refine zX ?_|refine zT ?_|refine skipI rfl ?_)
  refine zR ?_
  repeat' (first|with_reducible refine pN ?_|refine pD ?_|refine pC (by exact ⟨hl.1,by omega⟩) ?_)
  repeat with_reducible refine cN ?_
  generalize pickF d 1000=by' at *
  generalize visF (ss.length:Int) v=l at *
  repeat' (first|with_reducible (first|apply pN|apply cN|apply bN|apply cE|apply cR|apply bR|apply lE|apply lR|apply jE|apply jR)|refine zE ?_|refine zP ?_|refine pD ?_|refine zS ?_|refine zR ?_|refine zO ?_|refine zB ?_|refine zX ?_|refine zT ?_|refine skipI rfl ?_)
  refine loopI (σ:=Nat) (fun i=>[(8,.own 3000),(9,.int .i64 i)]) (fun i=>[(3000,.seq tVis ((l.take i).map (shV by')))]) (fun i=>i≤l.length) (fun i=>l.length - i) 0 rfl (fun _=>rfl) rfl ?_ ?_ ?_
  · exact Nat.zero_le _
  · repeat' (first|exact trivial|with_reducible exact rfl|refine And.intro ?_ ?_)
    all_goals rfl
  intro i hi
  repeat' (first|with_reducible (first|apply pN|apply cN|apply bN|apply cE|apply cR|apply bR|apply lE|apply lR|apply jE|apply jR)|refine zE ?_|refine zP ?_|refine pD ?_|refine zS ?_|refine zR ?_|refine zO ?_|refine zB ?_|refine zX ?_|refine zT ?_|refine skipI rfl ?_)
  refine condI rfl (fun c1=>?_) (fun c1=>?_)
  · simp only [decide_eq_true_eq] at c1
    have hil:i < l.length:=by omega
    have hii:((i:Int)).toNat=i:=by omega
    have hu:=hin _ (fl_mem (d:=tVis.dflt) hil)
    have htk:=Re.take_getI (d:=tVis.dflt) hil
    unfold InV at hu
    have hml:(List.map (shV by') (List.take i l)).length=i:=by rw [List.length_map,List.length_take];omega
    repeat' (first|with_reducible (first|apply pN|apply cN|apply bN|apply cE|apply cR|apply bR|apply lE|apply lR|apply jE|apply jR)|refine zE ?_|refine zP ?_|refine pD ?_|refine pC (by first|omega|(simp only [hii];unfold In64;omega)|(simp only [hml,List.length_cons,List.length_nil];omega)) ?_|refine zS ?_|refine zR ?_|refine zO ?_|refine zB ?_|refine zX ?_|refine zT ?_|refine skipI rfl ?_)
    refine roundI (i+1) rfl ?_ ?_ ?_
    · show i+1≤l.length
      omega
    · show l.length - (i+1) < l.length - i
      omega
    · repeat' (first|exact trivial|with_reducible exact rfl|refine And.intro ?_ ?_)
      all_goals (first|rfl|(simp only [hii];rw [htk,List.map_append];rfl))
  · simp only [decide_eq_false_iff_not] at c1
    rw [List.take_of_length_le (show l.length≤i by omega)]
    have e1:=watA_v hv l
    have e2:=watA_v hv (l.map (shV by'))
    have s1:=sh_late hb.1 hin (ws:=ws) (i:=0)
    have s2:=sh_open hb.1 hin (ws:=ws) (i:=0)
    repeat' (first|with_reducible (first|apply pN|apply cN|apply bN|apply cE|apply cR|apply bR|apply lE|apply lR|apply jE|apply jR)|refine zE ?_|refine zP ?_|refine zS ?_|refine zO ?_|refine zB ?_|refine zX ?_|refine zT ?_|refine skipI rfl ?_)
    refine zR ?_
    repeat' (first|with_reducible refine pN ?_|refine pD ?_|fail)
    repeat with_reducible refine cN ?_
    repeat' (first|with_reducible (first|apply pN|apply cN|apply bN|apply cE|apply cR|apply bR|apply lE|apply lR|apply jE|apply jR)|refine zE ?_|refine zP ?_|refine zS ?_|refine zO ?_|refine zB ?_|refine zX ?_|refine zT ?_|refine skipI rfl ?_)
    refine zR ?_
    repeat' (first|with_reducible refine pN ?_|refine pD ?_|fail)
    repeat with_reducible refine cN ?_
    repeat' (first|with_reducible (first|apply pN|apply cN|apply bN|apply cE|apply cR|apply bR|apply lE|apply lR|apply jE|apply jR)|refine zE ?_|refine zP ?_|refine zS ?_|refine zO ?_|refine zB ?_|refine zX ?_|refine zT ?_|refine skipI rfl ?_)
    refine zR ?_
    repeat' (first|with_reducible refine pN ?_|refine pD ?_|fail)
    repeat with_reducible refine cN ?_
    rw [e1,e2,s2]
    have hq:=openQ_len (q:=watL l 0 ws)
    have hq2:(watL l 0 ws).length=ws.length:=watL_len
    have hws:=(flow_sm hv).wl
    have hqb:=open_b (flow_sm hv) (vs:=l)
    repeat' (first|with_reducible (first|apply pN|apply cN|apply bN|apply cE|apply cR|apply bR|apply lE|apply lR|apply jE|apply jR)|refine zE ?_|refine zP ?_|refine zS ?_|refine zO ?_|refine zB ?_|refine zX ?_|refine zT ?_|refine skipI rfl ?_)
    refine zR ?_
    repeat' (first|with_reducible refine pN ?_|refine pD ?_|fail)
    repeat with_reducible refine cN ?_
    rw [e2,s1]
    generalize openQ (watL l 0 ws)=q at *
    refine condI rfl (fun c2=>?_) (fun c2=>?_)
    · simp at c2
    have c2:True:=trivial
    repeat' (first|with_reducible (first|apply pN|apply cN|apply bN|apply cE|apply cR|apply bR|apply lE|apply lR|apply jE|apply jR)|refine zE ?_|refine zP ?_|refine pD ?_|refine zS ?_|refine zR ?_|refine zO ?_|refine zB ?_|refine zX ?_|refine zT ?_|refine skipI rfl ?_)
    refine loopI (σ:=Nat) (fun k=>[(14,.int .i64 k)]) (fun k=>[]) (fun k=>k≤List.length (α:=Int × Int) q) (fun k=>List.length (α:=Int × Int) q - k) 0 rfl (fun _=>rfl) rfl ?_ ?_ ?_
    · exact Nat.zero_le _
    · repeat' (first|exact trivial|with_reducible exact rfl|refine And.intro ?_ ?_)
      all_goals rfl
    intro k hk
    repeat' (first|with_reducible (first|apply pN|apply cN|apply bN|apply cE|apply cR|apply bR|apply lE|apply lR|apply jE|apply jR)|refine zE ?_|refine zP ?_|refine pD ?_|refine zS ?_|refine zR ?_|refine zO ?_|refine zB ?_|refine zX ?_|refine zT ?_|refine skipI rfl ?_)
    refine condI rfl (fun c3=>?_) (fun c3=>?_)
    · simp only [decide_eq_true_eq] at c3
      have hkl:k < List.length (α:=Int × Int) q:=by omega
      have hkk:((k:Int)).toNat=k:=by omega
      have hmg:=map_get (l:=q) (f:=shD by') (d:=tDue.dflt) (e:=tDue.dflt) hkl
      have hml:(List.map (shD by') q).length=List.length (α:=Int × Int) q:=List.length_map ..
      have hqk:=hqb _ (fl_mem (d:=tDue.dflt) hkl)
      have hq6:In64 ((getI q (Ty.dflt (tInt.pair tInt)) k).2+by'):=by
        show In64 ((getI q tDue.dflt k).2+by')
        unfold In64
        omega
      repeat' (first|with_reducible (first|apply pN|apply cN|apply bN|apply cE|apply cR|apply bR|apply lE|apply lR|apply jE|apply jR)|refine zE ?_|refine zP ?_|refine pD ?_|refine pC (by first|omega|(intros;simp only [hkk];exact hq6)|(intros;rw [hml];omega)) ?_|refine zS ?_|refine zR ?_|refine zO ?_|refine zB ?_|refine zX ?_|refine zT ?_|refine skipI rfl ?_)
      refine condI rfl (fun c4=>?_) (fun c4=>?_)
      · simp only [hkk] at c4
        rw [hmg] at c4
        simp [shD] at c4
      · repeat' (first|with_reducible (first|apply pN|apply cN|apply bN|apply cE|apply cR|apply bR|apply lE|apply lR|apply jE|apply jR)|refine zE ?_|refine zP ?_|refine pD ?_|refine zS ?_|refine zR ?_|refine zO ?_|refine zB ?_|refine zX ?_|refine zT ?_|refine skipI rfl ?_)
        refine roundI (k+1) rfl ?_ ?_ ?_
        · show k+1≤List.length (α:=Int × Int) q
          omega
        · show List.length (α:=Int × Int) q - (k+1) < List.length (α:=Int × Int) q - k
          omega
        · repeat' (first|exact trivial|with_reducible exact rfl|refine And.intro ?_ ?_)
          all_goals rfl
    · repeat' (first|with_reducible (first|apply pN|apply cN|apply bN|apply cE|apply cR|apply bR|apply lE|apply lR|apply jE|apply jR)|refine zE ?_|refine zP ?_|refine pD ?_|refine zS ?_|refine zR ?_|refine zO ?_|refine zB ?_|refine zX ?_|refine zT ?_|refine skipI rfl ?_)
      refine condI rfl (fun c5=>?_) (fun c5=>?_)
      · repeat' (first|with_reducible (first|apply pN|apply cN|apply bN|apply cE|apply cR|apply bR|apply lE|apply lR|apply jE|apply jR)|refine zE ?_|refine zP ?_|refine pD ?_|refine zS ?_|refine zR ?_|refine zO ?_|refine zB ?_|refine zX ?_|refine zT ?_|refine skipI rfl ?_)
        refine endR rfl ?_
        repeat' (first|exact trivial|exact rfl|refine ⟨rfl,?_⟩|refine And.intro ?_ ?_)
      · have h0:0 < l.length:=by simp at c5;exact List.length_pos_iff.2 c5
        have htk:=Re.take_getI (d:=tVis.dflt) (l:=l) (i:=l.length - 1) (by omega)
        rw [show l.length - 1+1=l.length by omega,List.take_length] at htk
        have hlast:=hin _ (fl_mem (d:=tVis.dflt) (show l.length - 1 < l.length by omega))
        obtain ⟨⟨t1,t2⟩,t3,t4⟩:=hlast
        have hnn:((l.length:Int) - 1).toNat=l.length - 1:=by omega
        repeat' (first|with_reducible (first|apply pN|apply cN|apply bN|apply cE|apply cR|apply bR|apply lE|apply lR|apply jE|apply jR)|refine zE ?_|refine zP ?_|refine zS ?_|refine zO ?_|refine zB ?_|refine zX ?_|refine zT ?_|refine skipI rfl ?_)
        refine zR ?_
        repeat' (first|with_reducible refine pN ?_|refine pD ?_|refine pC (by first|(first|omega|(simp only [hnn];unfold In64;omega)|(unfold In64;omega))) ?_)
        repeat with_reducible refine cN ?_
        simp only [hnn]
        have hsl:=set_last (l0:=l.take (l.length - 1)) (u:=getI l tVis.dflt (l.length - 1)) (x:=((getI l tVis.dflt (l.length - 1)).1,(getI l tVis.dflt (l.length - 1)).2.1,(getI l tVis.dflt (l.length - 1)).2.2.1 - by',(getI l tVis.dflt (l.length - 1)).2.2.2)) (n:=l.length - 1) (by rw [List.length_take];omega)
        rw [← htk] at hsl
        rw [hsl]
        have hsub:∀ k∈lateQ (watL (List.take (l.length - 1) l++[((getI l tVis.dflt (l.length - 1)).1,(getI l tVis.dflt (l.length - 1)).2.1,(getI l tVis.dflt (l.length - 1)).2.2.1 - by',(getI l tVis.dflt (l.length - 1)).2.2.2)]) 0 ws),k∈lateQ (watL l 0 ws):=fun k hk=>by
          have h9:=late_early hb.1 (time_in t1 (by omega)) (time_in t3 (by omega)) hk
          rw [← htk] at h9
          exact h9
        have e3:=watA_v hv (List.take (l.length - 1) l++[((getI l tVis.dflt (l.length - 1)).1,(getI l tVis.dflt (l.length - 1)).2.1,(getI l tVis.dflt (l.length - 1)).2.2.1 - by',(getI l tVis.dflt (l.length - 1)).2.2.2)])
        repeat' (first|with_reducible (first|apply pN|apply cN|apply bN|apply cE|apply cR|apply bR|apply lE|apply lR|apply jE|apply jR)|refine zE ?_|refine zP ?_|refine zS ?_|refine zO ?_|refine zB ?_|refine zX ?_|refine zT ?_|refine skipI rfl ?_)
        refine zR ?_
        repeat' (first|with_reducible refine pN ?_|refine pD ?_|fail)
        repeat with_reducible refine cN ?_
        rw [e3]
        have hnl:(lateQ (watL (List.take (l.length - 1) l++[((getI l tVis.dflt (l.length - 1)).1,(getI l tVis.dflt (l.length - 1)).2.1,(getI l tVis.dflt (l.length - 1)).2.2.1 - by',(getI l tVis.dflt (l.length - 1)).2.2.2)]) 0 ws)).length≤20:=by
          refine Nat.le_trans lateQ_len ?_
          rw [watL_len]
          exact hws
        generalize lateQ (watL (List.take (l.length - 1) l++[((getI l tVis.dflt (l.length - 1)).1,(getI l tVis.dflt (l.length - 1)).2.1,(getI l tVis.dflt (l.length - 1)).2.2.1 - by',(getI l tVis.dflt (l.length - 1)).2.2.2)]) 0 ws)=now at *
        generalize lateQ (watL l 0 ws)=late at *
        repeat' (first|with_reducible (first|apply pN|apply cN|apply bN|apply cE|apply cR|apply bR|apply lE|apply lR|apply jE|apply jR)|refine zE ?_|refine zP ?_|refine pD ?_|refine zS ?_|refine zR ?_|refine zO ?_|refine zB ?_|refine zX ?_|refine zT ?_|refine skipI rfl ?_)
        refine loopI (σ:=Nat) (fun y=>[(16,.int .i64 y)]) (fun y=>[]) (fun y=>y≤List.length (α:=Int) now) (fun y=>List.length (α:=Int) now - y) 0 rfl (fun _=>rfl) rfl ?_ ?_ ?_
        · exact Nat.zero_le _
        · repeat' (first|exact trivial|with_reducible exact rfl|refine And.intro ?_ ?_)
          all_goals rfl
        intro y hy
        repeat' (first|with_reducible (first|apply pN|apply cN|apply bN|apply cE|apply cR|apply bR|apply lE|apply lR|apply jE|apply jR)|refine zE ?_|refine zP ?_|refine pD ?_|refine zS ?_|refine zR ?_|refine zO ?_|refine zB ?_|refine zX ?_|refine zT ?_|refine skipI rfl ?_)
        refine condI rfl (fun c6=>?_) (fun c6=>?_)
        · simp only [decide_eq_true_eq] at c6
          have hyl:y < List.length (α:=Int) now:=by omega
          have hyy:((y:Int)).toNat=y:=by omega
          have hm:=hsub _ (fl_mem (d:=(0:Int)) hyl)
          repeat' (first|with_reducible (first|apply pN|apply cN|apply bN|apply cE|apply cR|apply bR|apply lE|apply lR|apply jE|apply jR)|refine zE ?_|refine zP ?_|refine pD ?_|refine zS ?_|refine zR ?_|refine zO ?_|refine zB ?_|refine zX ?_|refine zT ?_|refine skipI rfl ?_)
          refine condI rfl (fun c7=>?_) (fun c7=>?_)
          · simp only [hyy] at c7
            have c7:(!hasI late (getI now 0 y))=true:=c7
            unfold hasI at c7
            rw [decide_eq_true hm] at c7
            cases c7
          · repeat' (first|with_reducible (first|apply pN|apply cN|apply bN|apply cE|apply cR|apply bR|apply lE|apply lR|apply jE|apply jR)|refine zE ?_|refine zP ?_|refine pD ?_|refine zS ?_|refine zR ?_|refine zO ?_|refine zB ?_|refine zX ?_|refine zT ?_|refine skipI rfl ?_)
            refine roundI (y+1) rfl ?_ ?_ ?_
            · show y+1≤List.length (α:=Int) now
              omega
            · show List.length (α:=Int) now - (y+1) < List.length (α:=Int) now - y
              omega
            · repeat' (first|exact trivial|with_reducible exact rfl|refine And.intro ?_ ?_)
              all_goals rfl
        · repeat' (first|with_reducible (first|apply pN|apply cN|apply bN|apply cE|apply cR|apply bR|apply lE|apply lR|apply jE|apply jR)|refine zE ?_|refine zP ?_|refine pD ?_|refine zS ?_|refine zR ?_|refine zO ?_|refine zB ?_|refine zX ?_|refine zT ?_|refine skipI rfl ?_)
          refine endR rfl ?_
          repeat' (first|exact trivial|exact rfl|refine ⟨rfl,?_⟩|refine And.intro ?_ ?_)
end Go.AM.Ytdohkcddjoammaa.Fl
