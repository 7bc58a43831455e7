/- The law WindowRequests: her function. -/
import Derived.Test.YtdohkcddjoammaaPw32
import Derived.Test.YtdohkcddjoammaaWnLSeK
import Derived.Test.YtdohkcddjoammaaWnLShK
set_option linter.all false
namespace Go.AM.Ytdohkcddjoammaa.Fl
open Go.Proofs
set_option maxRecDepth 100000
set_option maxHeartbeats 4000000
def visZS:Spec:=⟨true,fun args rows=>match args,rows with
  | [.agg [.int .i64 mn,.int .i64 mx,.sl (.pair (.int .i64) (.pair (.slice (.int .i64)) (.pair (.int .i64) (.pair (.int .i64) (.pair (.slice (.int .i64)) (.pair (.int .i64) (.int .i64))))))) ss,.sl (.pair (.int .i64) (.pair (.int .i64) (.int .i64))) ws],.sl (.pair (.int .i64) (.pair (.int .i64) (.int .i64))) v],[] =>
    some ⟨0 < ss.length∧ss.length≤100,.sl tVis (visF (ss.length:Int) v),[],true⟩
  | _,_=>none⟩
theorem visZOk:SpecSound Try.prog 11 visZS:=by
  refine soundR (envOf sigViOk) Try.func11 (c:=body Try.f11) rfl (by kernel_rfl) rfl ?_
  intro args rows out hf hpre
  split at hf <;> try (cases hf;done)
  rename_i mn mx ss ws v
  cases hf
  refine ⟨Nat.le_of_ble_eq_true rfl,initI (args:=[.agg [.int .i64 mn,.int .i64 mx,.sl tStep ss,.sl tWin ws],.sl tS3 v]) (rows:=[]) rfl ?_⟩
  refine factSl (t:=1) (ty:=tS3) rfl (fun hxs=>?_)
  have hmx:List.length (α:=Int3) v≤9223372036854775807:=by have:=hxs.1;unfold maxLen at this;omega
  obtain ⟨hs0,hs1⟩:0 < List.length (α:=StepT) ss∧List.length (α:=StepT) ss≤100:=hpre
  have bp:=fun (c n:Int) (h:0 < n)=>pick_b (c:=c) (n:=n) h
  repeat' (first|with_reducible (first|apply pN|apply cN|apply bN|apply cE|apply cR|apply bR|apply lE|apply lR|apply jE|apply jR)|refine zE ?_|refine zP ?_|refine pD ?_|refine zS ?_|refine zR ?_|refine zO ?_|refine zB ?_|refine zX ?_|refine zT ?_|refine skipI rfl ?_)
  refine loopI (σ:=Nat) (fun i=>[(5,.own 3000),(6,.int .i64 (visT v i)),(7,.int .i64 i)]) (fun i=>[(3000,.seq tVis ((List.range i).map (visA (List.length (α:=StepT) ss:Int) v)))]) (fun i=>i≤List.length (α:=Int3) v∧i≤20) (fun i=>20 - i) 0 rfl (fun _=>rfl) rfl ?_ ?_ ?_
  · exact ⟨Nat.zero_le _,Nat.zero_le _⟩
  · repeat' (first|exact trivial|with_reducible exact rfl|refine And.intro ?_ ?_)
    all_goals rfl
  rintro i ⟨hi,hi20⟩
  repeat' (first|with_reducible (first|apply pN|apply cN|apply bN|apply cE|apply cR|apply bR|apply lE|apply lR|apply jE|apply jR)|refine zE ?_|refine zP ?_|refine pD ?_|refine zS ?_|refine zR ?_|refine zO ?_|refine zB ?_|refine zX ?_|refine zT ?_|refine skipI rfl ?_)
  refine condI rfl (fun c1=>?_) (fun c1=>?_)
  · have c1:(decide ((i:Int) < (List.length (α:=Int3) v:Int))&&decide ((i:Int) < 20))=true:=c1
    simp only [Bool.and_eq_true,decide_eq_true_eq] at c1
    have hil:i < List.length (α:=Int3) v:=by omega
    have hin:((i:Int)).toNat=i:=by omega
    have hb:=visT_b (v:=v) (i:=i)
    have hst:visT v (i+1)=visT v i+pickF (getI v tS3.dflt i).2.1 40+1+pickF (getI v tS3.dflt i).2.2 20:=rfl
    have hva:visA (List.length (α:=StepT) ss:Int) v i=(pickF (getI v tS3.dflt i).1 (List.length (α:=StepT) ss:Int),0,visT v i+pickF (getI v tS3.dflt i).2.1 40,visT v (i+1)):=rfl
    obtain ⟨y,hy⟩:∃ y:Int3,y=getI v tS3.dflt i:=⟨_,rfl⟩
    rw [← hy] at hst hva
    have p1:=bp y.1 (List.length (α:=StepT) ss:Int) (by omega)
    have p2:=bp y.2.1 40 (by omega)
    have p3:=bp y.2.2 20 (by omega)
    have hsl:(List.map (visA (List.length (α:=StepT) ss:Int) v) (List.range i)).length=i:=by rw [List.length_map,List.length_range]
    repeat' (first|with_reducible (first|apply pN|apply cN|apply bN|apply cE|apply cR|apply bR|apply lE|apply lR|apply jE|apply jR)|refine zE ?_|refine zP ?_|refine zS ?_|refine zO ?_|refine zB ?_|refine zX ?_|refine zT ?_|refine skipI rfl ?_)
    refine zR ?_
    repeat' (first|with_reducible refine pN ?_|refine pD ?_|refine pC (by (simp only [hin,← hy];unfold In64;omega)) ?_)
    repeat with_reducible refine cN ?_
    simp only [hin,← hy]
    repeat' (first|with_reducible (first|apply pN|apply cN|apply bN|apply cE|apply cR|apply bR|apply lE|apply lR|apply jE|apply jR)|refine zE ?_|refine zP ?_|refine pD ?_|refine pC (by first|omega|(simp only [hin,← hy];unfold In64;omega)|(simp only [hin,← hy];omega)|(simp only [hsl,List.length_cons,List.length_nil];omega)) ?_|refine zS ?_|refine zR ?_|refine zO ?_|refine zB ?_|refine zX ?_|refine zT ?_|refine skipI rfl ?_)
    refine roundI (i+1) rfl ?_ ?_ ?_
    · exact ⟨by show i+1≤List.length (α:=Int3) v;omega,by show i+1≤20;omega⟩
    · show 20 - (i+1) < 20 - i
      omega
    · repeat' (first|exact trivial|with_reducible exact rfl|refine And.intro ?_ ?_)
      all_goals (first|rfl|(simp only [hin,← hy];rw [List.range_succ,List.map_append,List.map_cons,hva,hst];rfl)|(simp only [hin,← hy];rw [hst]))
  · have c1:(decide ((i:Int) < (List.length (α:=Int3) v:Int))&&decide ((i:Int) < 20))=false:=c1
    simp only [Bool.and_eq_false_iff,decide_eq_false_iff_not] at c1
    have e:i=min (List.length (α:=Int3) v) 20:=by omega
    refine freezeI 3000 rfl ?_
    repeat' (first|with_reducible (first|apply pN|apply cN|apply bN|apply cE|apply cR|apply bR|apply lE|apply lR|apply jE|apply jR)|refine zE ?_|refine zP ?_|refine pD ?_|refine zS ?_|refine zR ?_|refine zO ?_|refine zB ?_|refine zX ?_|refine zT ?_|refine skipI rfl ?_)
    refine endR rfl ?_
    repeat' (first|exact trivial|exact rfl|refine ⟨rfl,?_⟩|refine And.intro ?_ ?_)
    unfold visF
    rw [← e]
noncomputable def sigRq:List (Nat × Spec):=[(9,saneWS),(10,cMadeS),(17,stpS),(11,visZS),(12,pickP),(20,reqS),(13,lateS),(15,sameIS)]
theorem sigRqOk:SigOk Try.prog (look sigRq):=sigCons (sigCons (sigCons (sigCons (sigCons (sigCons (sigCons (sigCons sigNil
  Try.func15 (by kernel_rfl) (c:=body Try.f15) rfl sameIOk)
  Try.func13 (by kernel_rfl) (c:=body Try.f13) rfl lateOk)
  Try.func20 (by kernel_rfl) (c:=body Try.f20) rfl reqOk)
  Try.func12 (by kernel_rfl) (c:=body Try.f12) rfl pickWOk)
  Try.func11 (by kernel_rfl) (c:=body Try.f11) rfl visZOk)
  Try.func17 (by kernel_rfl) (c:=body Try.f17) rfl stpOk)
  Try.func10 (by kernel_rfl) (c:=body Try.f10) rfl cMadeOk)
  Try.func9 (by kernel_rfl) (c:=body Try.f9) rfl saneWOk
theorem rq_win {mn mx:Int} {ss:List StepT} {ws:List WinT} (hv:validF mn mx ss ws=true) {rt:List Int} {f n:Nat} {e:WinT} (he:e∈winAll (linksF rt ws) (f:Int) n n):∃ i j:Nat,∃ lim:Int,e=((i:Int),(j:Int),lim)∧i < j∧j < n∧0≤lim∧lim≤1000000:=by
  obtain ⟨i,hi,j,hj,he⟩:=winAll_mem.1 he
  obtain ⟨lim,h1,h2⟩:=winAt_mem.1 he
  obtain ⟨w,hw,h3,h4⟩:=(links_ok (rt:=rt) (ws:=ws)).b _ _ h1
  obtain ⟨a,b,h5,h6,h7⟩:=(lkW_lnk (win_ne (flow_sm hv) hw)).1 h3
  have e1:(f:Int)+(i:Int)=a:=congrArg Prod.fst h5
  have e2:(f:Int)+(j:Int)=b:=congrArg Prod.snd h5
  have h8:=(lnkB_iff.1 h7).1.1
  obtain ⟨k,hk,hke⟩:=mem_getI (d:=tWin.dflt) hw
  have h9:=win_lim (flow_sm hv) hk
  rw [hke,h4] at h9
  exact ⟨i,j,lim,h2,by omega,hj,h9⟩
theorem reqLOk:SpecSound Try.prog 6 segLS:=by
  refine soundP (envOf sigRqOk) Try.func6 (c:=body Try.f6) rfl (by kernel_rfl) rfl ?_
  intro args out hf hpre
  split at hf <;> try (cases hf;done)
  rename_i x w v a b c
  cases hf
  refine ⟨Nat.le_of_ble_eq_true rfl,initI (args:=[.agg [.sl tS6 x,.sl tS3 w,.sl tS3 v,.int .i64 a,.int .i64 b,.int .i64 c]]) rfl ?_⟩
  have hl:=c_len (x:=x) (c:=c)
  have hv:=c_valid (x:=x) (w:=w) (c:=c)
  repeat' (first|with_reducible (first|apply pN|apply cN|apply bN|apply cE|apply cR|apply bR|apply lE|apply lR|apply jE|apply jR)|refine zE ?_|refine zP ?_|refine zS ?_|refine zO ?_|refine zB ?_|refine zX ?_|refine zT ?_|refine skipI rfl ?_)
  refine zR ?_
  repeat' (first|with_reducible refine pN ?_|refine pD ?_|fail)
  repeat with_reducible refine cN ?_
  repeat' (first|with_reducible (first|apply pN|apply cN|apply bN|apply cE|apply cR|apply bR|apply lE|apply lR|apply jE|apply jR)|refine zE ?_|refine zP ?_|refine zS ?_|refine zO ?_|refine zB ?_|refine zX ?_|refine zT ?_|refine skipI rfl ?_)
  refine zR ?_
  repeat' (first|with_reducible refine pN ?_|refine pD ?_|fail)
  repeat with_reducible refine cN ?_
  repeat' (first|with_reducible (first|apply pN|apply cN|apply bN|apply cE|apply cR|apply bR|apply lE|apply lR|apply jE|apply jR)|refine zE ?_|refine zP ?_|refine zS ?_|refine zO ?_|refine zB ?_|refine zX ?_|refine zT ?_|refine skipI rfl ?_)
  refine zR ?_
  repeat' (first|with_reducible refine pN ?_|refine pD ?_|fail)
  repeat with_reducible refine cN ?_
  generalize cMn x c=mn at *
  generalize cMx x c=mx at *
  generalize cSs x c=ss at *
  generalize cWs x w c=ws at *
  have hln:=stp_line hv (v:=v)
  have hlen:=stpF_len (n:=(ss.length:Int)) (v:=v)
  have hwl:=(flow_sm hv).wl
  have hsi:=stpF_in (flow_sm hv).n1 (v:=v)
  have hvs:=fun f t h=>vis_stp (n:=(ss.length:Int)) (v:=v) (f:=f) (t:=t) h
  have hvt:=vis_time (n:=(ss.length:Int)) (v:=v)
  have hvl:∀ t,t < (stpF (ss.length:Int) v).length→t < (visF (ss.length:Int) v).length:=fun t h=>by
    unfold stpF at h
    unfold visF
    rw [List.length_map,List.length_range] at h ⊢
    omega
  repeat' (first|with_reducible (first|apply pN|apply cN|apply bN|apply cE|apply cR|apply bR|apply lE|apply lR|apply jE|apply jR)|refine zE ?_|refine zP ?_|refine zS ?_|refine zO ?_|refine zB ?_|refine zX ?_|refine zT ?_|refine skipI rfl ?_)
  refine zR ?_
  repeat' (first|with_reducible refine pN ?_|refine pD ?_|refine pC (by exact ⟨hl.1,by omega⟩) ?_)
  repeat with_reducible refine cN ?_
  generalize stpF (ss.length:Int) v=rt at *
  repeat' (first|with_reducible (first|apply pN|apply cN|apply bN|apply cE|apply cR|apply bR|apply lE|apply lR|apply jE|apply jR)|refine zE ?_|refine zP ?_|refine pD ?_|refine zS ?_|refine zR ?_|refine zO ?_|refine zB ?_|refine zX ?_|refine zT ?_|refine skipI rfl ?_)
  refine condI rfl (fun c1=>?_) (fun c1=>?_)
  · repeat' (first|with_reducible (first|apply pN|apply cN|apply bN|apply cE|apply cR|apply bR|apply lE|apply lR|apply jE|apply jR)|refine zE ?_|refine zP ?_|refine pD ?_|refine zS ?_|refine zR ?_|refine zO ?_|refine zB ?_|refine zX ?_|refine zT ?_|refine skipI rfl ?_)
    refine endR rfl ?_
    repeat' (first|exact trivial|exact rfl|refine ⟨rfl,?_⟩|refine And.intro ?_ ?_)
  · have h0:0 < List.length (α:=Int) rt:=by simp at c1;exact List.length_pos_iff.2 c1
    have hp:=pick_b (c:=a) (n:=(List.length (α:=Int) rt:Int)) (by omega)
    repeat' (first|with_reducible (first|apply pN|apply cN|apply bN|apply cE|apply cR|apply bR|apply lE|apply lR|apply jE|apply jR)|refine zE ?_|refine zP ?_|refine zS ?_|refine zO ?_|refine zB ?_|refine zX ?_|refine zT ?_|refine skipI rfl ?_)
    refine zR ?_
    repeat' (first|with_reducible refine pN ?_|refine pD ?_|refine pC (by omega) ?_)
    repeat with_reducible refine cN ?_
    obtain ⟨f,hf⟩:∃ s:Nat,pickF a (List.length (α:=Int) rt:Int)=(s:Int):=⟨(pickF a (List.length (α:=Int) rt:Int)).toNat,by omega⟩
    rw [hf] at hp ⊢
    have hp2:=pick_b (c:=b) (n:=min ((List.length (α:=Int) rt:Int) - (f:Int)) 8) (by omega)
    repeat' (first|with_reducible (first|apply pN|apply cN|apply bN|apply cE|apply cR|apply bR|apply lE|apply lR|apply jE|apply jR)|refine zE ?_|refine zP ?_|refine zS ?_|refine zO ?_|refine zB ?_|refine zX ?_|refine zT ?_|refine skipI rfl ?_)
    refine zR ?_
    repeat' (first|with_reducible refine pN ?_|refine pD ?_|refine pC (by first|(first|omega|(unfold In64;omega))) ?_)
    repeat with_reducible refine cN ?_
    obtain ⟨t,ht⟩:∃ t:Nat,(f:Int)+pickF b (min ((List.length (α:=Int) rt:Int) - (f:Int)) 8)=(t:Int):=⟨((f:Int)+pickF b (min ((List.length (α:=Int) rt:Int) - (f:Int)) 8)).toNat,by omega⟩
    rw [ht]
    have hft:f≤t∧t < List.length (α:=Int) rt∧t - f < 8:=by omega
    have ha:argB rt (f:Int) (t:Int) 5=true:=by
      unfold argB hasB
      simp only [Bool.and_eq_true,decide_eq_true_eq]
      omega
    refine freezeI (key 22 0) rfl ?_
    cases hr:reqB mn mx ss ws rt (f:Int) (t:Int) 5
    · have hge:=req_err hv hln ha hr
      have e1:reqF mn mx ss ws rt (f:Int) (t:Int) 5=(0,0,0,[],[]):=by unfold reqF;rw [hr];rfl
      have e2:reqE mn mx ss ws rt (f:Int) (t:Int) 5=60:=by unfold reqE;rw [hr];rfl
      repeat' (first|with_reducible (first|apply pN|apply cN|apply bN|apply cE|apply cR|apply bR|apply lE|apply lR|apply jE|apply jR)|refine zE ?_|refine zP ?_|refine zS ?_|refine zO ?_|refine zB ?_|refine zX ?_|refine zT ?_|refine skipI rfl ?_)
      refine zR ?_
      repeat' (first|with_reducible refine pN ?_|refine pD ?_|fail)
      repeat with_reducible refine cN ?_
      rw [e1,e2]
      repeat' (first|with_reducible (first|apply pN|apply cN|apply bN|apply cE|apply cR|apply bR|apply lE|apply lR|apply jE|apply jR)|refine zE ?_|refine zP ?_|refine pD ?_|refine zS ?_|refine zR ?_|refine zO ?_|refine zB ?_|refine zX ?_|refine zT ?_|refine skipI rfl ?_)
      refine condI rfl (fun c2=>?_) (fun c2=>?_)
      · repeat' (first|with_reducible (first|apply pN|apply cN|apply bN|apply cE|apply cR|apply bR|apply lE|apply lR|apply jE|apply jR)|refine zE ?_|refine zP ?_|refine pD ?_|refine zS ?_|refine zR ?_|refine zO ?_|refine zB ?_|refine zX ?_|refine zT ?_|refine skipI rfl ?_)
        refine endR rfl ?_
        repeat' (first|exact trivial|exact rfl|refine ⟨rfl,?_⟩|refine And.intro ?_ ?_)
        rw [decide_eq_true (show (ws.length:Int) > 2 from hge)]
        rfl
      · exact absurd c2 (by decide)
    · have hn:((t:Int) - (f:Int)+1).toNat=t+1 - f:=by omega
      have e1:reqF mn mx ss ws rt (f:Int) (t:Int) 5=(5,mn,mx,needsF ss rt (f:Int) (t+1 - f),winAll (linksF rt ws) (f:Int) (t+1 - f) (t+1 - f)):=by unfold reqF reqW;rw [hr,hn];rfl
      have e2:reqE mn mx ss ws rt (f:Int) (t:Int) 5=0:=by unfold reqE;rw [hr];rfl
      have hWl:(winAll (linksF rt ws) (f:Int) (t+1 - f) (t+1 - f)).length≤20:=by
        unfold reqB at hr
        rw [Bool.and_eq_true] at hr
        have h9:=of_decide_eq_true hr.2
        unfold reqW at h9
        rw [hn] at h9
        exact h9
      have hW:=fun e he=>rq_win hv (rt:=rt) (f:=f) (n:=t+1 - f) (e:=e) he
      have hvl2:=hvl t hft.2.1
      have hs:=hvs f t hft.2.1
      have hlen2:((visF (ss.length:Int) v).take (t+1)).length=t+1:=by rw [List.length_take];omega
      have hll:(((visF (ss.length:Int) v).take (t+1)).drop f).length=t+1 - f:=by rw [List.length_drop,hlen2]
      have htm:TimeOk (((visF (ss.length:Int) v).take (t+1)).drop f):=fun u hu=>hvt u (List.mem_of_mem_take (List.mem_of_mem_drop hu))
      have hlate:=req_late hv hs hft.1 hft.2.1 hll htm
      repeat' (first|with_reducible (first|apply pN|apply cN|apply bN|apply cE|apply cR|apply bR|apply lE|apply lR|apply jE|apply jR)|refine zE ?_|refine zP ?_|refine zS ?_|refine zO ?_|refine zB ?_|refine zX ?_|refine zT ?_|refine skipI rfl ?_)
      refine zR ?_
      repeat' (first|with_reducible refine pN ?_|refine pD ?_|fail)
      repeat with_reducible refine cN ?_
      rw [e1,e2]
      repeat' (first|with_reducible (first|apply pN|apply cN|apply bN|apply cE|apply cR|apply bR|apply lE|apply lR|apply jE|apply jR)|refine zE ?_|refine zP ?_|refine zS ?_|refine zO ?_|refine zB ?_|refine zX ?_|refine zT ?_|refine skipI rfl ?_)
      refine zR ?_
      repeat' (first|with_reducible refine pN ?_|refine pD ?_|fail)
      repeat with_reducible refine cN ?_
      refine condF rfl ?_
      repeat' (first|with_reducible (first|apply pN|apply cN|apply bN|apply cE|apply cR|apply bR|apply lE|apply lR|apply jE|apply jR)|refine zE ?_|refine zP ?_|refine zS ?_|refine zO ?_|refine zB ?_|refine zX ?_|refine zT ?_|refine skipI rfl ?_)
      refine zR ?_
      repeat' (first|with_reducible refine pN ?_|refine pD ?_|refine pC (by first|(first|omega|(unfold In64;omega)|exact ⟨hl.1,by omega⟩|(show (t:Int)+1≤((visF (ss.length:Int) v).length:Int);omega))) ?_)
      repeat with_reducible refine cN ?_
      rw [show ((t:Int)+1).toNat=t+1 by omega,show ((f:Int)).toNat=f by omega]
      dsimp only
      have ew:=watA_v hv (((visF (ss.length:Int) v).take (t+1)).drop f)
      generalize ((visF (ss.length:Int) v).take (t+1)).drop f=l at *
      obtain ⟨n,hnn⟩:∃ n,n=t+1 - f:=⟨_,rfl⟩
      rw [← hnn] at hW hWl hlate hll ⊢
      have hnb:(n:Int)=(t:Int)+1 - (f:Int):=by omega
      generalize winAll (linksF rt ws) (f:Int) n n=W at *
      have htb:∀ k,k < n→(0≤(getI l tVis.dflt k).2.2.1∧(getI l tVis.dflt k).2.2.1≤1000000)∧0≤(getI l tVis.dflt k).2.2.2∧(getI l tVis.dflt k).2.2.2≤1000000:=fun k hk=>by
        obtain ⟨h1,h2⟩:=htm _ (fl_mem (d:=tVis.dflt) (show k < l.length by omega))
        exact ⟨time_iff.1 h1,time_iff.1 h2⟩
      repeat' (first|with_reducible (first|apply pN|apply cN|apply bN|apply cE|apply cR|apply bR|apply lE|apply lR|apply jE|apply jR)|refine zE ?_|refine zP ?_|refine pD ?_|refine zS ?_|refine zR ?_|refine zO ?_|refine zB ?_|refine zX ?_|refine zT ?_|refine skipI rfl ?_)
      refine loopI (σ:=Nat) (fun i=>[(11,.bool ((W.take i).any (over l))),(12,.int .i64 i)]) (fun i=>[]) (fun i=>i≤List.length (α:=WinT) W) (fun i=>List.length (α:=WinT) W - i) 0 rfl (fun _=>rfl) rfl ?_ ?_ ?_
      · exact Nat.zero_le _
      · repeat' (first|exact trivial|with_reducible exact rfl|refine And.intro ?_ ?_)
        all_goals rfl
      intro i hi
      repeat' (first|with_reducible (first|apply pN|apply cN|apply bN|apply cE|apply cR|apply bR|apply lE|apply lR|apply jE|apply jR)|refine zE ?_|refine zP ?_|refine pD ?_|refine zS ?_|refine zR ?_|refine zO ?_|refine zB ?_|refine zX ?_|refine zT ?_|refine skipI rfl ?_)
      refine condI rfl (fun c3=>?_) (fun c3=>?_)
      · simp only [decide_eq_true_eq] at c3
        have hil:i < List.length (α:=WinT) W:=by omega
        have hii:((i:Int)).toNat=i:=by omega
        obtain ⟨p,q,lim,he,hpq,hqn,hl0,hl1⟩:=hW _ (fl_mem (d:=tWin.dflt) hil)
        have hpp:((p:Int)).toNat=p:=by omega
        have hqq:((q:Int)).toNat=q:=by omega
        have htk:(W.take (i+1)).any (over l)=((W.take i).any (over l)||decide ((getI l tVis.dflt q).2.2.1 - (getI l tVis.dflt p).2.2.2 > lim)):=by
          rw [Re.take_getI (d:=tWin.dflt) hil,List.any_append,he]
          unfold over
          simp [hpp,hqq]
        have b1:=htb q hqn
        have b2:=htb p (by omega)
        repeat' (first|with_reducible (first|apply pN|apply cN|apply bN|apply cE|apply cR|apply bR|apply lE|apply lR|apply jE|apply jR)|refine zE ?_|refine zP ?_|refine zS ?_|refine zO ?_|refine zB ?_|refine zX ?_|refine zT ?_|refine skipI rfl ?_)
        refine zR ?_
        repeat' (first|with_reducible refine pN ?_|refine pD ?_|refine pC (by omega) ?_)
        repeat with_reducible refine cN ?_
        simp only [hii,he]
        repeat' (first|with_reducible (first|apply pN|apply cN|apply bN|apply cE|apply cR|apply bR|apply lE|apply lR|apply jE|apply jR)|refine zE ?_|refine zP ?_|refine pD ?_|refine pC (by first|omega|(intros;omega)|(unfold In64;omega)|(intros;unfold In64;omega)) ?_|refine zS ?_|refine zR ?_|refine zO ?_|refine zB ?_|refine zX ?_|refine zT ?_|refine skipI rfl ?_)
        refine condI rfl (fun c4=>?_) (fun c4=>?_)
        · simp only [Bool.or_eq_true,decide_eq_true_eq] at c4
          omega
        · repeat' (first|with_reducible (first|apply pN|apply cN|apply bN|apply cE|apply cR|apply bR|apply lE|apply lR|apply jE|apply jR)|refine zE ?_|refine zP ?_|refine pD ?_|refine pC (by first|omega|(intros;omega)|(intros;unfold In64;omega)) ?_|refine zS ?_|refine zR ?_|refine zO ?_|refine zB ?_|refine zX ?_|refine zT ?_|refine skipI rfl ?_)
          refine roundI (i+1) rfl ?_ ?_ ?_
          · show i+1≤List.length (α:=WinT) W
            omega
          · show List.length (α:=WinT) W - (i+1) < List.length (α:=WinT) W - i
            omega
          · repeat' (first|exact trivial|with_reducible exact rfl|refine And.intro ?_ ?_)
            all_goals (first|rfl|(simp only [hpp,hqq];exact htk))
      · simp only [decide_eq_false_iff_not] at c3
        rw [List.take_of_length_le (show List.length (α:=WinT) W≤i by omega),hlate]
        have hnl:(needsF ss rt (f:Int) n).length=n:=by unfold needsF;rw [List.length_map,List.length_range]
        have hng:∀ k,k < n→getI (needsF ss rt (f:Int) n) tNeed.dflt k=needAt ss rt (f:Int) k:=fun k hk=>by
          unfold needsF
          rw [map_get (d:=(0:Nat)) (by rw [List.length_range];exact hk)]
          congr 1
          simp [getI,List.getD,List.getElem?_range hk]
        have hrb:∀ k,k < List.length (α:=Int) rt→0≤getI rt 0 k∧getI rt 0 k < (ss.length:Int):=fun k hk=>by
          have h9:=List.any_eq_false.1 hsi _ (fl_mem (d:=(0:Int)) hk)
          unfold badN at h9
          rw [Bool.or_eq_true,decide_eq_true_eq,decide_eq_true_eq] at h9
          omega
        repeat' (first|with_reducible (first|apply pN|apply cN|apply bN|apply cE|apply cR|apply bR|apply lE|apply lR|apply jE|apply jR)|refine zE ?_|refine zP ?_|refine pD ?_|refine pC (by first|omega|(unfold In64;omega)|(intros;unfold In64;omega)) ?_|refine zS ?_|refine zR ?_|refine zO ?_|refine zB ?_|refine zX ?_|refine zT ?_|refine skipI rfl ?_)
        refine condI rfl (fun c5=>?_) (fun c5=>?_)
        · simp [hnl] at c5
          omega
        · repeat' (first|with_reducible (first|apply pN|apply cN|apply bN|apply cE|apply cR|apply bR|apply lE|apply lR|apply jE|apply jR)|refine zE ?_|refine zP ?_|refine pD ?_|refine zS ?_|refine zR ?_|refine zO ?_|refine zB ?_|refine zX ?_|refine zT ?_|refine skipI rfl ?_)
          refine loopI (σ:=Nat) (fun k=>[(14,.int .i64 k)]) (fun k=>[]) (fun k=>k≤n) (fun k=>n - k) 0 rfl (fun _=>rfl) rfl ?_ ?_ ?_
          · exact Nat.zero_le _
          · repeat' (first|exact trivial|with_reducible exact rfl|refine And.intro ?_ ?_)
            all_goals rfl
          intro k hk
          repeat' (first|with_reducible (first|apply pN|apply cN|apply bN|apply cE|apply cR|apply bR|apply lE|apply lR|apply jE|apply jR)|refine zE ?_|refine zP ?_|refine pD ?_|refine zS ?_|refine zR ?_|refine zO ?_|refine zB ?_|refine zX ?_|refine zT ?_|refine skipI rfl ?_)
          refine condI rfl (fun c6=>?_) (fun c6=>?_)
          · simp only [decide_eq_true_eq] at c6
            have hkn:k < n:=by have c6:(k:Int) < ((needsF ss rt (f:Int) n).length:Int):=c6;rw [hnl] at c6;omega
            have hkk:((k:Int)).toNat=k:=by omega
            have hfk:(((f:Int)+(k:Int))).toNat=f+k:=by omega
            have hrk:=hrb (f+k) (by omega)
            have hgk:getI (needsF ss rt (f:Int) n) tNeed.dflt k=((getI ss tStep.dflt (getI rt 0 (f+k)).toNat).2.1,(getI ss tStep.dflt (getI rt 0 (f+k)).toNat).2.2.1,(getI ss tStep.dflt (getI rt 0 (f+k)).toNat).2.2.2.1):=hng k hkn
            repeat' (first|with_reducible (first|apply pN|apply cN|apply bN|apply cE|apply cR|apply bR|apply lE|apply lR|apply jE|apply jR)|refine zE ?_|refine zP ?_|refine zS ?_|refine zO ?_|refine zB ?_|refine zX ?_|refine zT ?_|refine skipI rfl ?_)
            refine zR ?_
            repeat' (first|with_reducible refine pN ?_|refine pD ?_|refine pC (by first|(first|omega|(simp only [hfk];exact hrk.1)|(simp only [hfk];exact hrk.2)|(simp only [hfk];omega)|(unfold In64;omega))) ?_)
            repeat with_reducible refine cN ?_
            simp only [hfk]
            repeat' (first|with_reducible (first|apply pN|apply cN|apply bN|apply cE|apply cR|apply bR|apply lE|apply lR|apply jE|apply jR)|refine zE ?_|refine zP ?_|refine zS ?_|refine zO ?_|refine zB ?_|refine zX ?_|refine zT ?_|refine skipI rfl ?_)
            refine zR ?_
            repeat' (first|with_reducible refine pN ?_|refine pD ?_|refine pC (by first|(first|omega|(rw [hnl];omega)|(intros;rw [hnl];omega)|(intros;omega))) ?_)
            repeat with_reducible refine cN ?_
            simp only [hkk]
            rw [hgk]
            refine condI rfl (fun c7=>?_) (fun c7=>?_)
            · obtain ⟨S,hS⟩:∃ S,S=getI ss tStep.dflt (getI rt 0 (f+k)).toNat:=⟨_,rfl⟩
              have c7:(decide (S.2.2.1≠S.2.2.1)||decide (S.2.2.2.1≠S.2.2.2.1)||!decide (S.2.1=S.2.1))=true:=by rw [hS];exact c7
              simp at c7
            · repeat' (first|with_reducible (first|apply pN|apply cN|apply bN|apply cE|apply cR|apply bR|apply lE|apply lR|apply jE|apply jR)|refine zE ?_|refine zP ?_|refine pD ?_|refine zS ?_|refine zR ?_|refine zO ?_|refine zB ?_|refine zX ?_|refine zT ?_|refine skipI rfl ?_)
              refine roundI (k+1) rfl ?_ ?_ ?_
              · show k+1≤n
                omega
              · show n - (k+1) < n - k
                omega
              · repeat' (first|exact trivial|with_reducible exact rfl|refine And.intro ?_ ?_)
                all_goals rfl
          · repeat' (first|with_reducible (first|apply pN|apply cN|apply bN|apply cE|apply cR|apply bR|apply lE|apply lR|apply jE|apply jR)|refine zE ?_|refine zP ?_|refine pD ?_|refine zS ?_|refine zR ?_|refine zO ?_|refine zB ?_|refine zX ?_|refine zT ?_|refine skipI rfl ?_)
            refine endR rfl ?_
            repeat' (first|exact trivial|exact rfl|refine ⟨rfl,?_⟩|refine And.intro ?_ ?_)
            rw [ew]
            exact (beq_self_eq_true (decide (0 < ((lateQ (watL l 0 ws)).length:Int)))).symm
end Go.AM.Ytdohkcddjoammaa.Fl
