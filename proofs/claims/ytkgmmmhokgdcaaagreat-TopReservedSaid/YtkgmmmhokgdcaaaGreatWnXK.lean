/- Windows that are open behind a part of a route. -/
import Derived.Test.YtkgmmmhokgdcaaaGreatPc35
set_option linter.all false
namespace Go.AM.YtkgmmmhokgdcaaaGreat.Fl
open Go.Proofs
set_option maxRecDepth 100000
set_option maxHeartbeats 4000000
theorem open_at {mn mx:Int} {ss:List StepT} {ws:List WinT} (hv:validF mn mx ss ws=true) {l:List VisT} (ht:TimeOk l) {d:Int × Int} (hd:d∈openQ (watL l 0 ws)):∃ k:Nat,d.1=(k:Int)∧k < ws.length∧∃ a:Nat,Opn (getI ws tWin.dflt k) (l.map Prod.fst) a l.length:=by
 obtain ⟨k,w,h1,h2,h3⟩:=open_iff.1 hd
 have hk:k < ws.length:=(List.getElem?_eq_some_iff.1 h1).1
 have hw:getI ws tWin.dflt k=w:=by simp [getI,List.getD,h1]
 have hne:=win_ne (flow_sm hv) (List.mem_of_getElem? h1)
 have h:=(wat_at hne ht (j:=l.length) (Nat.le_refl _)).o
 rw [List.take_length] at h
 have h3:(l.foldl stepV (w,0,false,false)).2.2.1=true:=h3
 rw [h3] at h
 have h4:=of_decide_eq_true h.symm
 refine ⟨k,by rw [h2];show ((0+k:Nat):Int)=k;omega,hk,(opn w (l.map Prod.fst) l.length).toNat,?_⟩
 rw [hw]
 exact (opn_iff hne).1 (Int.toNat_of_nonneg h4).symm
theorem Opn_end {w:WinT} {rt:List Int} {f t a n:Nat} (hn:n=t+1 - f) (hft:f≤t) (h:Opn w ((rt.take (t+1)).drop f) a n):Opn w rt (f+a) (t+1):=by
 obtain ⟨h1,h2,h3⟩:=h
 rw [sub_get (by omega)] at h2
 refine ⟨by omega,h2,fun k h4 h5=>?_⟩
 have:=h3 (k - f) (by omega) (by omega)
 rw [sub_get (by omega),show f+(k - f)=k by omega] at this
 exact this
theorem first_to {rt:List Int} {x:Int} {n:Nat} (h:x∈rt.drop n):∃ j,n≤j∧j < rt.length∧getI rt 0 j=x∧∀ k,n≤k→k < j→getI rt 0 k≠x:=by
 obtain ⟨i,hi,he⟩:=mem_getI (d:=(0:Int)) h
 rw [List.length_drop] at hi
 have he:getI rt 0 (n+i)=x:=by
  unfold getI List.getD at he ⊢
  rw [List.getElem?_drop] at he
  exact he
 have key:∀ m:Nat,getI rt 0 (n+m)=x→n+m < rt.length→∃ j,n≤j∧j < rt.length∧getI rt 0 j=x∧∀ k,n≤k→k < j→getI rt 0 k≠x:=by
  intro m
  induction m using Nat.strongRecOn with
  | _ m ih =>
    intro h1 h2
    by_cases h3:∃ k,k < m∧getI rt 0 (n+k)=x
    ·obtain ⟨k,h4,h5⟩:=h3
     exact ih k h4 h5 (by omega)
    ·refine ⟨n+m,by omega,h2,h1,fun k h4 h5 h6=>h3 ⟨k - n,by omega,?_⟩⟩
     rw [show n+(k - n)=k by omega]
     exact h6
 exact key i he (by omega)
theorem due_seg {mn mx:Int} {ss:List StepT} {ws:List WinT} (hv:validF mn mx ss ws=true) {rt:List Int} {l:List VisT} {f t:Nat} (hs:l.map Prod.fst=(rt.take (t+1)).drop f) (hft:f≤t) (hl:l.length=t+1 - f) (htm:TimeOk l) (hseg:Closed (linksF rt ws) (f:Int) (t:Int)) {d:Int × Int} (hd:d∈openQ (watL l 0 ws)) :
 ∃ k:Nat,d.1=(k:Int)∧k < ws.length∧((getI ws tWin.dflt k).2.1∈rt.drop (t+1)→(getI ws tWin.dflt k).1∈rt.drop (t+1)):=by
 obtain ⟨k,h1,h2,a,h3⟩:=open_at hv htm hd
 refine ⟨k,h1,h2,fun hto=>Classical.byContradiction fun hfr=>?_⟩
 rw [hs] at h3
 have h4:=Opn_end hl hft h3
 obtain ⟨j,h5,h6,h7,h8⟩:=first_to hto
 have hwm:getI ws tWin.dflt k∈ws:=fl_mem h2
 have h9:lnkB (getI ws tWin.dflt k) rt (f+a) j=true:=by
  refine lnkB_iff.2 ⟨⟨by have:=h4.1;omega,h4.2.1,fun m hm1 hm2=>?_⟩,h7⟩
  by_cases hmt:m < t+1
  ·exact h4.2.2 m hm1 hmt
  ·refine ⟨fun e=>hfr ?_,h8 m (by omega) hm2⟩
   have hml:m < rt.length:=by omega
   rw [← e]
   have:getI rt 0 m=getI (rt.drop (t+1)) 0 (m - (t+1)):=by
    unfold getI List.getD
    rw [List.getElem?_drop,show t+1+(m - (t+1))=m by omega]
   rw [this]
   exact fl_mem (by rw [List.length_drop];omega)
 obtain ⟨lim,g1,_⟩:=(links_ok (rt:=rt) (ws:=ws)).c _ hwm (((f+a:Nat):Int),(j:Int)) ((lkW_lnk (win_ne (flow_sm hv) hwm)).2 ⟨f+a,j,rfl,h6,h9⟩)
 have g2:=hseg _ (find_mem g1) (by show (f:Int)≤((f+a:Nat):Int);omega) (by have:=h4.1;show ((f+a:Nat):Int)≤(t:Int);omega)
 have g2:(j:Int)≤(t:Int):=g2
 omega
theorem kept_late {mn mx:Int} {ss:List StepT} {ws:List WinT} (hv:validF mn mx ss ws=true) {rt:List Int} {l:List VisT} {f t:Nat} (hs:l.map Prod.fst=(rt.take (t+1)).drop f) (hft:f≤t) (ht:t < rt.length) (hl:l.length=t+1 - f) (htm:TimeOk l)
 (hk:∀ e∈winAll (linksF rt ws) (f:Int) (t+1 - f) (t+1 - f),(getI l tVis.dflt e.2.1.toNat).2.2.1 - (getI l tVis.dflt e.1.toNat).2.2.2≤e.2.2):lateQ (watL l 0 ws)=[]:=by
 have h:=req_late hv hs hft ht hl htm
 rw [show (winAll (linksF rt ws) (f:Int) (t+1 - f) (t+1 - f)).any (over l)=false by
  rw [List.any_eq_false]
  intro e he
  unfold over
  rw [decide_eq_false (by have:=hk e he;omega)]
  exact Bool.false_ne_true] at h
 have h:=of_decide_eq_false h.symm
 exact List.eq_nil_of_length_eq_zero (by omega)
end Go.AM.YtkgmmmhokgdcaaaGreat.Fl
