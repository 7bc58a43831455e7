/- Walks through windows, and their times. -/
import Derived.Test.YtdohkcddjoammaaWnIK
import Derived.Test.YtdohkcddjoammaaPw31
set_option linter.all false
namespace Go.AM.Ytdohkcddjoammaa.Fl
open Go.Proofs
set_option maxRecDepth 100000
set_option maxHeartbeats 4000000
theorem range_get {l:List Int}:(List.range l.length).map (fun i=>getI l 0 i)=l:=by
  refine List.ext_getElem (by simp) fun i h1 h2=>?_
  simp only [List.getElem_map,List.getElem_range]
  simp [getI,List.getD,List.getElem?_eq_getElem h2]
theorem timV_fst {mn:Int} {ss:List StepT} {l mo:List Int}:(timV mn ss l mo).map Prod.fst=l:=by
  unfold timV
  rw [List.map_map]
  exact range_get
theorem timV_len {mn:Int} {ss:List StepT} {l mo:List Int}:(timV mn ss l mo).length=l.length:=by unfold timV;rw [List.length_map,List.length_range]
theorem timV_get {mn:Int} {ss:List StepT} {l mo:List Int} {i:Nat} (h:i < l.length):getI (timV mn ss l mo) tVis.dflt i=timA mn ss l mo i:=by
  unfold timV
  simp [getI,List.getD,List.getElem?_map,List.getElem?_range h]
def Ins (ss:List StepT) (l:List Int):Prop:=∀ s∈l,0≤s∧s < (ss.length:Int)
theorem tmB_b {mn mx:Int} {ss:List StepT} {ws:List WinT} (F:FlowSm mn mx ss ws) {l mo:List Int} (hl:Ins ss l) {i:Nat} (hi:i < l.length):tmE mn ss l mo i≤tmB mn ss l mo i∧tmB mn ss l mo i+1≤tmE mn ss l mo (i+1):=by
  have ht:=tA_b (mo:=mo) (i:=i)
  have hs:=hl _ (fl_mem (d:=(0:Int)) hi)
  have hst:=F.st _ (fl_mem (d:=tStep.dflt) (show (getI l 0 i).toNat < ss.length by omega))
  have h1:1≤stMn (stp ss (getI l 0 i).toNat):=hst.mn
  have h3:=F.mn0
  rw [tmE_succ]
  refine ⟨?_,by omega⟩
  unfold tmB
  cases decide ((i:Int) > 0)
  · exact Int.le_refl _
  · show _≤tmE mn ss l mo i+mn+(tA mo i).1
    omega
theorem timV_time {mn mx:Int} {ss:List StepT} {ws:List WinT} (F:FlowSm mn mx ss ws) {l mo:List Int} (hl:Ins ss l) (hn:l.length≤49):TimeOk (timV mn ss l mo):=by
  intro u hu
  unfold timV at hu
  obtain ⟨i,hi,rfl⟩:=List.mem_map.1 hu
  have hi:=List.mem_range.1 hi
  have b1:=tm_b F hl (mo:=mo) (i:=i) (by omega)
  have b2:=tm_b F hl (mo:=mo) (i:=i+1) (by omega)
  have b3:=tmB_b F hl (mo:=mo) hi
  unfold timA
  exact ⟨time_in (by show 0≤tmB mn ss l mo i;omega) (by show tmB mn ss l mo i≤_;omega),time_in (by show 0≤tmE mn ss l mo (i+1);omega) (by show tmE mn ss l mo (i+1)≤_;omega)⟩
theorem tmE_mono {mn mx:Int} {ss:List StepT} {ws:List WinT} (F:FlowSm mn mx ss ws) {l mo:List Int} (hl:Ins ss l) {a:Nat}:∀ {b:Nat},a≤b→b≤l.length→tmE mn ss l mo a≤tmE mn ss l mo b
  | 0,h,_=>by rw [show a=0 by omega];exact Int.le_refl _
  | b+1,h,hb=>by
    by_cases e:a=b+1
    · rw [e];exact Int.le_refl _
    · have:=tmE_mono F hl (mo:=mo) (a:=a) (b:=b) (by omega) (by omega)
      have:=tmB_b F hl (mo:=mo) (i:=b) (by omega)
      omega
section
variable {mn mx:Int} {ss:List StepT} {ws:List WinT} {fr to:Int} {inner mo:List Int}
theorem L_len:(fr::(inner++[to])).length=inner.length+2:=by simp
theorem L_mid {j:Nat} (h:j < inner.length):getI (fr::(inner++[to])) 0 (j+1)=getI inner 0 j:=by
  show getI (inner++[to]) 0 j=_
  unfold getI List.getD
  rw [List.getElem?_append_left h]
theorem L_end:getI (fr::(inner++[to])) 0 (inner.length+1)=to:=by
  show getI (inner++[to]) 0 inner.length=_
  unfold getI List.getD
  rw [List.getElem?_append_right (Nat.le_refl _)]
  simp
theorem tA_nil {i:Nat}:tA [] i=(0,0):=by
  unfold tA
  rw [decide_eq_false (by simp;omega)]
  rfl
theorem tim_low (F:FlowSm mn mx ss ws):∀ {j:Nat},j≤inner.length→tmE mn ss (fr::(inner++[to])) mo 1+timS mn ss (inner.take j)≤tmB mn ss (fr::(inner++[to])) mo (j+1)∧(mo=[]→tmB mn ss (fr::(inner++[to])) mo (j+1)=tmE mn ss (fr::(inner++[to])) mo 1+timS mn ss (inner.take j))
  | 0,_=>by
    have ht:=tA_b (mo:=mo) (i:=1)
    have e:tmB mn ss (fr::(inner++[to])) mo (0+1)=tmE mn ss (fr::(inner++[to])) mo 1+mn+(tA mo 1).1:=rfl
    have e2:timS mn ss (inner.take 0)=mn:=rfl
    rw [e,e2]
    refine ⟨by omega,fun h=>?_⟩
    rw [h,tA_nil]
    show _+mn+0=_
    omega
  | j+1,hj=>by
    obtain ⟨h1,h2⟩:=tim_low F (j:=j) (by omega)
    have ht:=tA_b (mo:=mo) (i:=j+1)
    have ht2:=tA_b (mo:=mo) (i:=j+2)
    have e:tmB mn ss (fr::(inner++[to])) mo (j+1+1)=tmE mn ss (fr::(inner++[to])) mo (j+2)+mn+(tA mo (j+2)).1:=by
      show (bif decide (((j+2:Nat):Int) > 0) then _ else _)=_
      rw [decide_eq_true (by omega)]
      rfl
    have e2:tmE mn ss (fr::(inner++[to])) mo (j+2)=tmB mn ss (fr::(inner++[to])) mo (j+1)+stMn (stp ss (getI inner 0 j).toNat)+(tA mo (j+1)).2:=by
      rw [tmE_succ,L_mid (by omega)]
    have e3:timS mn ss (inner.take (j+1))=timS mn ss (inner.take j)+stMn (stp ss (getI inner 0 j).toNat)+mn:=by
      rw [Re.take_getI (d:=(0:Int)) (by omega),timS_snoc]
    rw [e,e2,e3]
    refine ⟨by omega,fun h=>?_⟩
    have h3:=h2 h
    rw [h] at h3 ⊢
    rw [h3,tA_nil,tA_nil]
    show _+_+0+mn+0=_
    omega
theorem opn_walk {x:WinT} (hx:x.1≠x.2.1) (hav:∀ s∈inner,s≠x.1∧s≠x.2.1):opn x (x.1::(inner++[x.2.1])) (inner.length+1)=0:=by
  refine (opn_iff hx (a:=0)).2 ⟨by omega,rfl,fun k h1 h2=>?_⟩
  obtain ⟨j,rfl⟩:∃ j,k=j+1:=⟨k - 1,by omega⟩
  rw [L_mid (by omega)]
  exact hav _ (fl_mem (by omega))
theorem L_ins {x:WinT} (h0:0≤x.1∧x.1 < (ss.length:Int)) (h1:0≤x.2.1∧x.2.1 < (ss.length:Int)) (hin:Ins ss inner):Ins ss (x.1::(inner++[x.2.1])):=by
  intro s hs
  rcases List.mem_cons.1 hs with rfl|hs
  · exact h0
  · rcases List.mem_append.1 hs with hs|hs
    · exact hin s hs
    · rw [List.mem_singleton.1 hs];exact h1
theorem short_late (F:FlowSm mn mx ss ws) {x:WinT} (hx:x.1≠x.2.1) (h0:0≤x.1∧x.1 < (ss.length:Int)) (h1:0≤x.2.1∧x.2.1 < (ss.length:Int)) (hin:Ins ss inner) (hav:∀ s∈inner,s≠x.1∧s≠x.2.1) (hn:inner.length≤47) (hl:x.2.2 < timS mn ss inner) :
    (watF x (timV mn ss (x.1::(inner++[x.2.1])) mo)).2.2.2=true:=by
  have hI:=L_ins h0 h1 hin
  have hLn:=L_len (fr:=x.1) (to:=x.2.1) (inner:=inner)
  have htm:=timV_time F hI (mo:=mo) (by omega)
  have hvl:=timV_len (mn:=mn) (ss:=ss) (l:=x.1::(inner++[x.2.1])) (mo:=mo)
  have hw:=(wat_at hx htm (j:=(timV mn ss (x.1::(inner++[x.2.1])) mo).length) (Nat.le_refl _)).l
  rw [List.take_length] at hw
  refine hw.2 ⟨inner.length+1,by rw [hvl,hLn];omega,?_⟩
  unfold BadAt
  rw [timV_fst,opn_walk hx hav,L_end]
  refine ⟨rfl,Int.le_refl _,?_⟩
  rw [timV_get (by rw [hLn];omega),timV_get (by rw [hLn];show (0:Int).toNat < _;simp)]
  have h3:=(tim_low F (fr:=x.1) (to:=x.2.1) (inner:=inner) (mo:=mo) (j:=inner.length) (Nat.le_refl _)).1
  rw [List.take_length] at h3
  show tmB mn ss (x.1::(inner++[x.2.1])) mo (inner.length+1) - tmE mn ss (x.1::(inner++[x.2.1])) mo 1 > x.2.2
  omega
theorem quick_kept (F:FlowSm mn mx ss ws) {x:WinT} (hx:x.1≠x.2.1) (h0:0≤x.1∧x.1 < (ss.length:Int)) (h1:0≤x.2.1∧x.2.1 < (ss.length:Int)) (hin:Ins ss inner) (hn:inner.length≤47) (hl:timS mn ss inner≤x.2.2) :
    (watF x (timV mn ss (x.1::(inner++[x.2.1])) [])).2.2.2=false:=by
  have hI:=L_ins h0 h1 hin
  have hLn:=L_len (fr:=x.1) (to:=x.2.1) (inner:=inner)
  have htm:=timV_time F hI (mo:=[]) (by omega)
  have hvl:=timV_len (mn:=mn) (ss:=ss) (l:=x.1::(inner++[x.2.1])) (mo:=[])
  have hw:=(wat_at hx htm (j:=(timV mn ss (x.1::(inner++[x.2.1])) []).length) (Nat.le_refl _)).l
  rw [List.take_length] at hw
  rw [← Bool.not_eq_true]
  intro hc
  obtain ⟨b,hb,h2,h3,h4⟩:=hw.1 hc
  rw [timV_fst] at h3 h4
  have h5:=opn_lt (w:=x) (rt:=x.1::(inner++[x.2.1])) (j:=b)
  rw [hvl,hLn] at hb
  rw [timV_get (by rw [hLn];omega),timV_get (by rw [hLn];omega)] at h4
  have h4:tmB mn ss (x.1::(inner++[x.2.1])) [] b - tmE mn ss (x.1::(inner++[x.2.1])) [] ((opn x (x.1::(inner++[x.2.1])) b).toNat+1) > x.2.2:=h4
  have h6:=(tim_low F (fr:=x.1) (to:=x.2.1) (inner:=inner) (mo:=[]) (j:=inner.length) (Nat.le_refl _)).2 rfl
  rw [List.take_length] at h6
  have h7:=tmE_mono F hI (mo:=[]) (a:=1) (b:=(opn x (x.1::(inner++[x.2.1])) b).toNat+1) (by omega) (by rw [hLn];omega)
  have h8:tmB mn ss (x.1::(inner++[x.2.1])) [] b≤tmB mn ss (x.1::(inner++[x.2.1])) [] (inner.length+1):=by
    by_cases e:b=inner.length+1
    · rw [e];exact Int.le_refl _
    · have g1:=tmB_b F hI (mo:=[]) (i:=b) (by rw [hLn];omega)
      have g2:=tmE_mono F hI (mo:=[]) (a:=b+1) (b:=inner.length+1) (by omega) (by rw [hLn];omega)
      have g3:=tmB_b F hI (mo:=[]) (i:=inner.length+1) (by rw [hLn];omega)
      omega
  omega
end
theorem way_facts {mn mx:Int} {ss:List StepT} {ws:List WinT} {a b:Int} {v:WayT} (h:wayGet mn mx ss ws a b=some v):validF mn mx ss ws=true∧(0≤a∧a < (ss.length:Int))∧(0≤b∧b < (ss.length:Int))∧getI (waysF mn ss a) none b.toNat=some v:=by
  unfold wayGet at h
  cases hg:givF mn mx ss ws [a,b]
  · rw [hg] at h;cases h
  · rw [hg] at h
    obtain ⟨h1,h2,h3⟩:=giv_facts hg
    exact ⟨h1,h2,h3,h⟩
theorem way_is {mn mx:Int} {ss:List StepT} {ws:List WinT} {a b:Int} {v:WayT} (h:wayGet mn mx ss ws a b=some v):v.1=timS mn ss v.2∧Chain ss a v.2 b∧(∀ s∈v.2,s≠a∧s≠b)∧Ins ss v.2∧∀ l,Chain ss a l b→v.1≤timS mn ss l:=by
  obtain ⟨hv,ha,hb,hg⟩:=way_facts h
  have F:=flow_sm hv
  obtain ⟨a',rfl⟩:∃ n:Nat,a=(n:Int):=⟨a.toNat,by omega⟩
  obtain ⟨b',rfl⟩:∃ n:Nat,b=(n:Int):=⟨b.toNat,by omega⟩
  rw [show ((b':Int)).toNat=b' by omega] at hg
  obtain ⟨h1,h2⟩:=ways_ok F (by omega) b' v hg
  refine ⟨h1,h2,ways_apart F (by omega) hg,(chain_in F ha.1 ha.2 h2).1,fun l hl=>?_⟩
  obtain ⟨w,h3,h4⟩:=ways_best F (by omega) (chain_walk0 F (by omega) hl)
  rw [hg] at h3
  cases h3
  exact h4
theorem chkW_spec {mn mx:Int} {ss:List StepT} {ws:List WinT}:∀ {r:List WinT},(checkW mn mx ss ws r=(0,[])∧∀ w∈r,∃ v,wayGet mn mx ss ws w.1 w.2.1=some v∧v.1≤w.2.2)∨(∃ w∈r,(wayGet mn mx ss ws w.1 w.2.1=none∧checkW mn mx ss ws r=(4,[w.1,w.2.1]))∨∃ v,wayGet mn mx ss ws w.1 w.2.1=some v∧w.2.2 < v.1∧checkW mn mx ss ws r=(3,w.1::(v.2++[w.2.1])))
  | []=>.inl ⟨rfl,fun w hw=>by cases hw⟩
  | w::r=>by
    unfold checkW probF
    cases hg:wayGet mn mx ss ws w.1 w.2.1 with
    | none=>exact .inr ⟨w,by simp,.inl ⟨hg,rfl⟩⟩
    | some v =>
      by_cases hl:w.2.2 < v.1
      · refine .inr ⟨w,by simp,.inr ⟨v,hg,hl,?_⟩⟩
        simp only [decide_eq_true hl]
        rfl
      · simp only [decide_eq_false hl]
        rcases chkW_spec (mn:=mn) (mx:=mx) (ss:=ss) (ws:=ws) (r:=r) with ⟨h1,h2⟩|⟨u,hu,h⟩
        · refine .inl ⟨h1,fun u hu=>?_⟩
          rcases List.mem_cons.1 hu with rfl|hu
          · exact ⟨v,hg,by omega⟩
          · exact h2 u hu
        · exact .inr ⟨u,by simp [hu],h⟩
def lexW (v w:WinT):Prop:=v.1 < w.1∨(v.1=w.1∧v.2.1 < w.2.1)
theorem win_next {mn mx:Int} {ss:List StepT} {ws:List WinT} (hv:validF mn mx ss ws=true) {i:Nat} (hi:i+1 < ws.length):lexW (getI ws tWin.dflt i) (getI ws tWin.dflt (i+1)):=by
  unfold validF at hv
  rw [Bool.and_eq_true,Bool.not_eq_true'] at hv
  have h:=List.any_eq_false.1 hv.2 (i+1) (List.mem_range.2 hi)
  unfold winsBad at h
  simp only [Bool.or_eq_true,Bool.not_eq_true',not_or,Bool.not_eq_false] at h
  have h2:=h.2
  unfold folF wLast at h2
  rw [List.length_take,Nat.min_eq_left (by omega),decide_eq_false (by omega),Bool.false_or,show (((i+1:Nat):Int) - 1).toNat=i by omega] at h2
  have e:getI (ws.take (i+1)) tWin.dflt i=getI ws tWin.dflt i:=by
    unfold getI List.getD
    rw [List.getElem?_take,if_pos (by omega)]
  rw [e,Bool.or_eq_true,Bool.and_eq_true,decide_eq_true_eq,decide_eq_true_eq,decide_eq_true_eq] at h2
  exact h2
theorem win_lt {mn mx:Int} {ss:List StepT} {ws:List WinT} (hv:validF mn mx ss ws=true) {i:Nat}:∀ {j:Nat},i < j→j < ws.length→lexW (getI ws tWin.dflt i) (getI ws tWin.dflt j)
  | 0,h,_=>by omega
  | j+1,h,hj=>by
    have h1:=win_next hv hj
    by_cases e:i=j
    · rw [e];exact h1
    · have h2:=win_lt hv (i:=i) (j:=j) (by omega) (by omega)
      unfold lexW at *
      omega
theorem win_inj {mn mx:Int} {ss:List StepT} {ws:List WinT} (hv:validF mn mx ss ws=true) {i j:Nat} (hi:i < ws.length) (hj:j < ws.length) (h1:(getI ws tWin.dflt i).1=(getI ws tWin.dflt j).1) (h2:(getI ws tWin.dflt i).2.1=(getI ws tWin.dflt j).2.1):i=j:=by
  rcases Nat.lt_trichotomy i j with h|h|h
  · have:=win_lt hv h hj
    unfold lexW at this
    omega
  · exact h
  · have:=win_lt hv h hi
    unfold lexW at this
    omega
def lastI (W:List Int):Int:=getI W 0 (W.length - 1)
theorem lastI_snoc {l:List Int} {x:Int}:lastI (l++[x])=x:=by
  unfold lastI getI List.getD
  rw [List.length_append,List.length_singleton,Nat.add_sub_cancel,List.getElem?_append_right (Nat.le_refl _)]
  simp
def WalkP (ss:List StepT) (fr to:Int) (W:List Int):Prop:=W=[fr]∨∃ inner last,W=fr::(inner++[last])∧Chain ss fr inner last∧(∀ s∈inner,s≠fr∧s≠to)∧last≠fr
theorem walkP_step {ss:List StepT} {fr to nx:Int} {W:List Int} (h:WalkP ss fr to W) (h1:lastI W≠to) (h2:nx∈afterL (stp ss (lastI W).toNat)):WalkP ss fr to ((if nx=fr then [] else W)++[nx]):=by
  by_cases e:nx=fr
  · rw [if_pos e,e];exact .inl rfl
  · rw [if_neg e]
    rcases h with rfl|⟨inner,last,rfl,h3,h4,h5⟩
    · exact .inr ⟨[],nx,rfl,h2,fun s hs=>(by cases hs),e⟩
    · have hl:lastI (fr::(inner++[last]))=last:=lastI_snoc (l:=fr::inner) (x:=last)
      rw [hl] at h1 h2
      refine .inr ⟨inner++[last],nx,rfl,chain_snoc h3 h2,fun s hs=>?_,e⟩
      rcases List.mem_append.1 hs with hs|hs
      · exact h4 s hs
      · rw [List.mem_singleton.1 hs];exact ⟨h5,h1⟩
theorem walkP_end {ss:List StepT} {fr to:Int} {W:List Int} (h:WalkP ss fr to W) (hne:fr≠to) (h1:lastI W=to):∃ inner,W=fr::(inner++[to])∧Chain ss fr inner to∧∀ s∈inner,s≠fr∧s≠to:=by
  rcases h with rfl|⟨inner,last,rfl,h3,h4,h5⟩
  · exact absurd h1 hne
  · have hl:lastI (fr::(inner++[last]))=last:=lastI_snoc (l:=fr::inner) (x:=last)
    rw [hl] at h1
    subst h1
    exact ⟨inner,rfl,h3,h4⟩
theorem walkP_in {mn mx:Int} {ss:List StepT} {ws:List WinT} (F:FlowSm mn mx ss ws) {fr to:Int} (h0:0≤fr∧fr < (ss.length:Int)) {W:List Int} (h:WalkP ss fr to W):Ins ss W∧0 < W.length:=by
  rcases h with rfl|⟨inner,last,rfl,h3,_⟩
  · exact ⟨fun s hs=>by rw [List.mem_singleton.1 hs];exact h0,by simp⟩
  · obtain ⟨h4,h5⟩:=chain_in F h0.1 h0.2 h3
    refine ⟨fun s hs=>?_,by simp⟩
    rcases List.mem_cons.1 hs with rfl|hs
    · exact h0
    · rcases List.mem_append.1 hs with hs|hs
      · exact h4 s hs
      · rw [List.mem_singleton.1 hs];exact h5
end Go.AM.Ytdohkcddjoammaa.Fl
