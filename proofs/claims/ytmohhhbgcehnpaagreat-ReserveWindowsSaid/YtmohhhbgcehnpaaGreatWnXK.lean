/- Windows that are open behind a part of a route. -/
import Derived.Test.YtmohhhbgcehnpaaGreatPw36
set_option linter.all false
namespace Go.AM.YtmohhhbgcehnpaaGreat.Fl
open Go.Proofs
set_option maxRecDepth 100000
set_option maxHeartbeats 4000000
theorem rq_win2 {mn mx:Int} {ss:List StepT} {ws:List WinT} (hv:validF mn mx ss ws=true) {rt:List Int} {f n:Nat} {e:WinT} (he:e∈winAll (linksF rt ws) (f:Int) n n):∃ i j:Nat,∃ lim:Int,e=((i:Int),(j:Int),lim)∧i < j∧j < n∧0≤lim∧lim≤1000000:=by
 obtain ⟨i,hi,j,hj,he⟩:=winAll_mem.1 he
 obtain ⟨lim,h1,h2⟩:=winAt_mem.1 he
 obtain ⟨w,hw,h3,h4⟩:=(links_ok (rt:=rt) (ws:=ws)).b _ _ h1
 obtain ⟨a,b,h5,h6,h7⟩:=(lkW_lnk (win_ne (flow_sm hv) hw)).1 h3
 have e1:(f:Int)+(i:Int)=a:=congrArg Prod.fst h5
 have e2:(f:Int)+(j:Int)=b:=congrArg Prod.snd h5
 have h8:=(lnkB_iff.1 h7).1.1
 obtain ⟨k,hk,hke⟩:=mem_getI (d:=tWin.dflt) hw
 have h9:=win_lim (flow_sm hv) hk
 rw [hke,h4] at h9
 exact ⟨i,j,lim,h2,by omega,hj,h9⟩
theorem open_at {mn mx:Int} {ss:List StepT} {ws:List WinT} (hv:validF mn mx ss ws=true) {l:List VisT} (ht:TimeOk l) {d:Int × Int} (hd:d∈openQ (watL l 0 ws)):∃ k:Nat,d.1=(k:Int)∧k < ws.length∧∃ a:Nat,Opn (getI ws tWin.dflt k) (l.map Prod.fst) a l.length:=by
 obtain ⟨k,w,h1,h2,h3⟩:=open_iff.1 hd
 have hk:k < ws.length:=(List.getElem?_eq_some_iff.1 h1).1
 have hw:getI ws tWin.dflt k=w:=by simp [getI,List.getD,h1]
 have hne:=win_ne (flow_sm hv) (List.mem_of_getElem? h1)
 have h:=(wat_at hne ht (j:=l.length) (Nat.le_refl _)).o
 rw [List.take_length] at h
 have h3:(l.foldl stepV (w,0,false,false)).2.2.1=true:=h3
 rw [h3] at h
 have h4:=of_decide_eq_true h.symm
 refine ⟨k,by rw [h2];show ((0+k:Nat):Int)=k;omega,hk,(opn w (l.map Prod.fst) l.length).toNat,?_⟩
 rw [hw]
 exact (opn_iff hne).1 (Int.toNat_of_nonneg h4).symm
theorem kept_late {mn mx:Int} {ss:List StepT} {ws:List WinT} (hv:validF mn mx ss ws=true) {rt:List Int} {l:List VisT} {f t:Nat} (hs:l.map Prod.fst=(rt.take (t+1)).drop f) (hft:f≤t) (ht:t < rt.length) (hl:l.length=t+1 - f) (htm:TimeOk l)
 (hk:∀ e∈winAll (linksF rt ws) (f:Int) (t+1 - f) (t+1 - f),(getI l tVis.dflt e.2.1.toNat).2.2.1 - (getI l tVis.dflt e.1.toNat).2.2.2≤e.2.2):lateQ (watL l 0 ws)=[]:=by
 have h:=req_late hv hs hft ht hl htm
 rw [show (winAll (linksF rt ws) (f:Int) (t+1 - f) (t+1 - f)).any (over l)=false by
  rw [List.any_eq_false]
  intro e he
  unfold over
  rw [decide_eq_false (by have:=hk e he;omega)]
  exact Bool.false_ne_true] at h
 have h:=of_decide_eq_false h.symm
 exact List.eq_nil_of_length_eq_zero (by omega)
end Go.AM.YtmohhhbgcehnpaaGreat.Fl
