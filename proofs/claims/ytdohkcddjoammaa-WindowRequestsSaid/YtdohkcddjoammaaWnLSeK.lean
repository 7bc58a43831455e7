/- The law WindowSegments: her function. -/
import Derived.Test.YtdohkcddjoammaaPw31
import Derived.Test.YtdohkcddjoammaaPw32
set_option linter.all false
namespace Go.AM.Ytdohkcddjoammaa.Fl
open Go.Proofs
set_option maxRecDepth 100000
set_option maxHeartbeats 4000000
theorem least {P:Nat→Prop}:∀ {n:Nat},P n→∃ d,P d∧∀ d',P d'→d≤d'
  | 0,h=>⟨0,h,fun _ _=>Nat.zero_le _⟩
  | n+1,h=>by
    by_cases h2:∃ d,d≤n∧P d
    · obtain ⟨d,hd,hp⟩:=h2
      have:∀ m,m≤n→P m→∃ d,P d∧∀ d',P d'→d≤d':=by
        intro m
        induction m using Nat.strongRecOn with
        | _ m ih =>
          intro hm hp
          by_cases h3:∃ d,d < m∧P d
          · obtain ⟨d,h4,h5⟩:=h3
            exact ih d h4 (by omega) h5
          · exact ⟨m,hp,fun d' hd'=>by
              by_cases h6:d' < m
              · exact absurd ⟨d',h6,hd'⟩ h3
              · omega⟩
      exact this d hd hp
    · exact ⟨n+1,h,fun d' hd'=>by
        by_cases h3:d'≤n
        · exact absurd ⟨d',h3,hd'⟩ h2
        · omega⟩
theorem seg_is {m:LkM} {s n:Int} (hin:∀ p∈m,LkIn n p) (hs:s < n):∃ e,IsSeg m s e∧e < n:=by
  have h0:Closed m s (s+((n - 1 - s).toNat:Int)):=fun p hp _ _=>by have:=(hin p hp).2.2;omega
  obtain ⟨d,h1,h2⟩:=least (P:=fun d=>Closed m s (s+(d:Int))) h0
  have h3:=h2 _ h0
  refine ⟨s+(d:Int),⟨by omega,h1,fun e' h4 h5=>?_⟩,by omega⟩
  have:=h2 (e' - s).toNat (by show Closed m s (s+((e' - s).toNat:Int));rw [show s+((e' - s).toNat:Int)=e' by omega];exact h5)
  omega
theorem segF_is {mn mx:Int} {ss:List StepT} {ws:List WinT} {rt:List Int} {s:Int} (hl:lineB mn mx ss ws rt=true) (h0:0≤s) (h1:s < rt.length):IsSeg (linksF rt ws) s (segF mn mx ss ws rt s)∧segF mn mx ss ws rt s < rt.length:=by
  obtain ⟨e,h2,h3⟩:=seg_is (m:=linksF rt ws) (s:=s) (n:=rt.length) linksF_in h1
  have:segF mn mx ss ws rt s=e:=by
    unfold segF
    rw [hl,show hasB rt s=true by unfold hasB;rw [decide_eq_true (show s≥0 from h0),decide_eq_true h1];rfl]
    exact segE_eq h2
  rw [this]
  exact ⟨h2,h3⟩
theorem stpF_len {n:Int} {v:List Int3}:(stpF n v).length≤12:=by unfold stpF;rw [List.length_map,List.length_range];omega
theorem stpF_in {n:Nat} (hn:0 < n) {v:List Int3}:(stpF (n:Int) v).any (badN n)=false:=by
  rw [List.any_eq_false]
  intro x hx
  unfold stpF at hx
  obtain ⟨i,hi,rfl⟩:=List.mem_map.1 hx
  have:=pick_b (c:=(getI v tS3.dflt i).1) (n:=(n:Int)) (by omega)
  unfold badN stpA
  rw [decide_eq_false (show ¬ pickF (getI v tS3.dflt i).1 (n:Int) < 0 by omega),decide_eq_false (show ¬ pickF (getI v tS3.dflt i).1 (n:Int)≥(n:Int) by omega)]
  exact Bool.false_ne_true
theorem stp_line {mn mx:Int} {ss:List StepT} {ws:List WinT} (hv:validF mn mx ss ws=true) {v:List Int3}:lineB mn mx ss ws (stpF (ss.length:Int) v)=true:=by
  unfold lineB
  rw [hv,stpF_in (flow_sm hv).n1]
  rfl
theorem seg_keeps {mn mx:Int} {ss:List StepT} {ws:List WinT} {rt:List Int} (hv:validF mn mx ss ws=true) {s e:Int} (hs:IsSeg (linksF rt ws) s e) {a b:Nat} {w:WinT} (hw:w∈ws) (hb:b < rt.length) (h:lnkB w rt a b=true) (h1:s≤(a:Int)) (h2:(a:Int)≤e):(b:Int)≤e:=by
  obtain ⟨l,h3,h4⟩:=(links_ok (rt:=rt) (ws:=ws)).c w hw ((a:Int),(b:Int)) ((lkW_lnk (win_ne (flow_sm hv) hw)).2 ⟨a,b,rfl,hb,h⟩)
  exact hs.2.1 _ (find_mem h3) h1 h2
theorem seg_reach {mn mx:Int} {ss:List StepT} {ws:List WinT} {rt:List Int} (hv:validF mn mx ss ws=true) {s e:Nat} (hs:IsSeg (linksF rt ws) (s:Int) (e:Int)):∃ i0 k0:Nat,e=s∨(s≤i0∧i0 < e∧k0 < ws.length∧lnkB (getI ws tWin.dflt k0) rt i0 e=true):=by
  have hse:=hs.1
  by_cases h:e=s
  · exact ⟨0,0,.inl h⟩
  · have h1:¬ Closed (linksF rt ws) (s:Int) ((e:Int) - 1):=fun hc=>by have:=hs.2.2 _ (by omega) hc;omega
    have h2:∃ p,p∈linksF rt ws∧(s:Int)≤p.1.1∧p.1.1≤(e:Int) - 1∧¬ p.1.2≤(e:Int) - 1:=by
      apply Classical.byContradiction
      intro hn
      exact h1 fun p hp h3 h4=>Classical.byContradiction fun h5=>hn ⟨p,hp,h3,h4,h5⟩
    obtain ⟨p,hp,h3,h4,h5⟩:=h2
    have h6:=hs.2.1 p hp h3 (by omega)
    obtain ⟨w,hw,hk⟩:=(links_ok (rt:=rt) (ws:=ws)).a p hp
    obtain ⟨a,b,h7,h8,h9⟩:=(lkW_lnk (win_ne (flow_sm hv) hw)).1 hk
    obtain ⟨k0,hk0,he⟩:=mem_getI (d:=tWin.dflt) hw
    have h7a:p.1.1=(a:Int):=by rw [h7]
    have h7b:p.1.2=(b:Int):=by rw [h7]
    obtain rfl:b=e:=by omega
    exact ⟨a,k0,.inr ⟨by omega,by omega,hk0,by rw [he];exact h9⟩⟩
def segLS:Spec:=plain fun
  | [.agg [.sl (.pair (.int .i64) (.pair (.int .i64) (.pair (.int .i64) (.pair (.int .i64) (.pair (.int .i64) (.int .i64)))))) x,.sl (.pair (.int .i64) (.pair (.int .i64) (.int .i64))) w,.sl (.pair (.int .i64) (.pair (.int .i64) (.int .i64))) v,.int .i64 a,.int .i64 b,.int .i64 c]]=>outV True (.bool true)
  | _=>none
noncomputable def sigSe:List (Nat × Spec):=[(9,saneWS),(10,cMadeS),(17,stpS),(12,pickP),(18,segS),(19,lnkS)]
theorem sigSeOk:SigOk Try.prog (look sigSe):=sigCons (sigCons (sigCons (sigCons (sigCons (sigCons sigNil
  Try.func19 (by kernel_rfl) (c:=body Try.f19) rfl lnkOk)
  Try.func18 (by kernel_rfl) (c:=body Try.f18) rfl segOk)
  Try.func12 (by kernel_rfl) (c:=body Try.f12) rfl pickWOk)
  Try.func17 (by kernel_rfl) (c:=body Try.f17) rfl stpOk)
  Try.func10 (by kernel_rfl) (c:=body Try.f10) rfl cMadeOk)
  Try.func9 (by kernel_rfl) (c:=body Try.f9) rfl saneWOk
theorem segLOk:SpecSound Try.prog 5 segLS:=by
  refine soundP (envOf sigSeOk) Try.func5 (c:=body Try.f5) rfl (by kernel_rfl) rfl ?_
  intro args out hf hpre
  split at hf <;> try (cases hf;done)
  rename_i x w v a b c
  cases hf
  refine ⟨Nat.le_of_ble_eq_true rfl,initI (args:=[.agg [.sl tS6 x,.sl tS3 w,.sl tS3 v,.int .i64 a,.int .i64 b,.int .i64 c]]) rfl ?_⟩
  have hl:=c_len (x:=x) (c:=c)
  have hv:=c_valid (x:=x) (w:=w) (c:=c)
  repeat' (first|with_reducible (first|apply pN|apply cN|apply bN|apply cE|apply cR|apply bR|apply lE|apply lR|apply jE|apply jR)|refine zE ?_|refine zP ?_|refine zS ?_|refine zO ?_|refine zB ?_|refine zX ?_|refine zT ?_|refine skipI rfl ?_)
  refine zR ?_
  repeat' (first|with_reducible refine pN ?_|refine pD ?_|fail)
  repeat with_reducible refine cN ?_
  repeat' (first|with_reducible (first|apply pN|apply cN|apply bN|apply cE|apply cR|apply bR|apply lE|apply lR|apply jE|apply jR)|refine zE ?_|refine zP ?_|refine zS ?_|refine zO ?_|refine zB ?_|refine zX ?_|refine zT ?_|refine skipI rfl ?_)
  refine zR ?_
  repeat' (first|with_reducible refine pN ?_|refine pD ?_|fail)
  repeat with_reducible refine cN ?_
  repeat' (first|with_reducible (first|apply pN|apply cN|apply bN|apply cE|apply cR|apply bR|apply lE|apply lR|apply jE|apply jR)|refine zE ?_|refine zP ?_|refine zS ?_|refine zO ?_|refine zB ?_|refine zX ?_|refine zT ?_|refine skipI rfl ?_)
  refine zR ?_
  repeat' (first|with_reducible refine pN ?_|refine pD ?_|fail)
  repeat with_reducible refine cN ?_
  generalize cMn x c=mn at *
  generalize cMx x c=mx at *
  generalize cSs x c=ss at *
  generalize cWs x w c=ws at *
  have hln:=stp_line hv (v:=v)
  have hlen:=stpF_len (n:=(ss.length:Int)) (v:=v)
  have hwl:=(flow_sm hv).wl
  repeat' (first|with_reducible (first|apply pN|apply cN|apply bN|apply cE|apply cR|apply bR|apply lE|apply lR|apply jE|apply jR)|refine zE ?_|refine zP ?_|refine zS ?_|refine zO ?_|refine zB ?_|refine zX ?_|refine zT ?_|refine skipI rfl ?_)
  refine zR ?_
  repeat' (first|with_reducible refine pN ?_|refine pD ?_|refine pC (by exact ⟨hl.1,by omega⟩) ?_)
  repeat with_reducible refine cN ?_
  generalize stpF (ss.length:Int) v=rt at *
  repeat' (first|with_reducible (first|apply pN|apply cN|apply bN|apply cE|apply cR|apply bR|apply lE|apply lR|apply jE|apply jR)|refine zE ?_|refine zP ?_|refine pD ?_|refine zS ?_|refine zR ?_|refine zO ?_|refine zB ?_|refine zX ?_|refine zT ?_|refine skipI rfl ?_)
  refine condI rfl (fun c1=>?_) (fun c1=>?_)
  · have h0:List.length (α:=Int) rt=0:=by simp at c1;simp [c1]
    have hseg:segF mn mx ss ws rt 0=-1:=by
      unfold segF
      rw [show hasB rt 0=false by unfold hasB;rw [h0];rfl,Bool.and_false]
      rfl
    repeat' (first|with_reducible (first|apply pN|apply cN|apply bN|apply cE|apply cR|apply bR|apply lE|apply lR|apply jE|apply jR)|refine zE ?_|refine zP ?_|refine zS ?_|refine zO ?_|refine zB ?_|refine zX ?_|refine zT ?_|refine skipI rfl ?_)
    refine zR ?_
    repeat' (first|with_reducible refine pN ?_|refine pD ?_|fail)
    repeat with_reducible refine cN ?_
    rw [hseg]
    repeat' (first|with_reducible (first|apply pN|apply cN|apply bN|apply cE|apply cR|apply bR|apply lE|apply lR|apply jE|apply jR)|refine zE ?_|refine zP ?_|refine pD ?_|refine zS ?_|refine zR ?_|refine zO ?_|refine zB ?_|refine zX ?_|refine zT ?_|refine skipI rfl ?_)
    refine endR rfl ?_
    repeat' (first|exact trivial|exact rfl|refine ⟨rfl,?_⟩|refine And.intro ?_ ?_)
  · have h0:0 < List.length (α:=Int) rt:=by simp at c1;exact List.length_pos_iff.2 c1
    have hp:=pick_b (c:=a) (n:=(List.length (α:=Int) rt:Int)) (by omega)
    repeat' (first|with_reducible (first|apply pN|apply cN|apply bN|apply cE|apply cR|apply bR|apply lE|apply lR|apply jE|apply jR)|refine zE ?_|refine zP ?_|refine zS ?_|refine zO ?_|refine zB ?_|refine zX ?_|refine zT ?_|refine skipI rfl ?_)
    refine zR ?_
    repeat' (first|with_reducible refine pN ?_|refine pD ?_|refine pC (by omega) ?_)
    repeat with_reducible refine cN ?_
    obtain ⟨s,hs⟩:∃ s:Nat,pickF a (List.length (α:=Int) rt:Int)=(s:Int):=⟨(pickF a (List.length (α:=Int) rt:Int)).toNat,by omega⟩
    rw [hs] at hp ⊢
    obtain ⟨g1,g2⟩:=segF_is (s:=(s:Int)) hln hp.1 hp.2
    have g3:=g1.1
    repeat' (first|with_reducible (first|apply pN|apply cN|apply bN|apply cE|apply cR|apply bR|apply lE|apply lR|apply jE|apply jR)|refine zE ?_|refine zP ?_|refine zS ?_|refine zO ?_|refine zB ?_|refine zX ?_|refine zT ?_|refine skipI rfl ?_)
    refine zR ?_
    repeat' (first|with_reducible refine pN ?_|refine pD ?_|fail)
    repeat with_reducible refine cN ?_
    obtain ⟨e,he⟩:∃ e:Nat,segF mn mx ss ws rt (s:Int)=(e:Int):=⟨(segF mn mx ss ws rt (s:Int)).toNat,by omega⟩
    rw [he] at g1 g2 g3 ⊢
    repeat' (first|with_reducible (first|apply pN|apply cN|apply bN|apply cE|apply cR|apply bR|apply lE|apply lR|apply jE|apply jR)|refine zE ?_|refine zP ?_|refine zS ?_|refine zO ?_|refine zB ?_|refine zX ?_|refine zT ?_|refine skipI rfl ?_)
    refine zR ?_
    repeat' (first|with_reducible refine pN ?_|refine pD ?_|fail)
    repeat with_reducible refine cN ?_
    have q1:¬ (e:Int) < (s:Int):=by omega
    have q2:¬ (List.length (α:=Int) rt:Int)≤(e:Int):=by omega
    refine condI rfl (fun c2=>?_) (fun c2=>?_)
    · have c2:=Bool.or_eq_true_iff.1 c2
      exact (c2.elim (fun h=>q1 (of_decide_eq_true h)) (fun h=>q2 (of_decide_eq_true h))).elim
    have hp2:=pick_b (c:=b) (n:=(e:Int) - (s:Int)+1) (by omega)
    obtain ⟨k1,k2⟩:=segF_is (s:=(s:Int)+pickF b ((e:Int) - (s:Int)+1)) hln (by omega) (by omega)
    have k3:segF mn mx ss ws rt ((s:Int)+pickF b ((e:Int) - (s:Int)+1))≤(e:Int):=k1.2.2 _ (by omega) (fun p hp h1 h2=>g1.2.1 p hp (by omega) h2)
    repeat' (first|with_reducible (first|apply pN|apply cN|apply bN|apply cE|apply cR|apply bR|apply lE|apply lR|apply jE|apply jR)|refine zE ?_|refine zP ?_|refine zS ?_|refine zO ?_|refine zB ?_|refine zX ?_|refine zT ?_|refine skipI rfl ?_)
    refine zR ?_
    repeat' (first|with_reducible refine pN ?_|refine pD ?_|refine pC (by first|(first|omega|(unfold In64;omega))) ?_)
    repeat with_reducible refine cN ?_
    repeat' (first|with_reducible (first|apply pN|apply cN|apply bN|apply cE|apply cR|apply bR|apply lE|apply lR|apply jE|apply jR)|refine zE ?_|refine zP ?_|refine zS ?_|refine zO ?_|refine zB ?_|refine zX ?_|refine zT ?_|refine skipI rfl ?_)
    refine zR ?_
    repeat' (first|with_reducible refine pN ?_|refine pD ?_|refine pC (by first|(first|omega|(unfold In64;omega))) ?_)
    repeat with_reducible refine cN ?_
    refine condI rfl (fun c2b=>?_) (fun c2b=>?_)
    · have c2b:=of_decide_eq_true c2b
      omega
    obtain ⟨i0,k0,hw0⟩:=seg_reach hv g1
    have hse:s≤e:=by omega
    have hel:e < List.length (α:=Int) rt:=by omega
    repeat' (first|with_reducible (first|apply pN|apply cN|apply bN|apply cE|apply cR|apply bR|apply lE|apply lR|apply jE|apply jR)|refine zE ?_|refine zP ?_|refine pD ?_|refine zS ?_|refine zR ?_|refine zO ?_|refine zB ?_|refine zX ?_|refine zT ?_|refine skipI rfl ?_)
    refine loopI (σ:=Nat × Bool) (fun z=>[(9,.bool z.2),(10,.int .i64 z.1)]) (fun z=>[]) (fun z=>s≤z.1∧z.1≤e+1∧(z.2=true∨(z.1≤i0∧i0 < e∧k0 < ws.length∧lnkB (getI ws tWin.dflt k0) rt i0 e=true))) (fun z=>e+1 - z.1) (s,decide ((e:Int)=(s:Int))) rfl (fun _=>rfl) rfl ?_ ?_ ?_
    · refine ⟨Nat.le_refl _,by show s≤e+1;omega,?_⟩
      rcases hw0 with h|⟨h1,h2⟩
      · exact .inl (decide_eq_true (by omega))
      · exact .inr ⟨h1,h2⟩
    · repeat' (first|exact trivial|with_reducible exact rfl|refine And.intro ?_ ?_)
      all_goals rfl
    rintro ⟨i,r⟩ ⟨hi1,hi2,hi3⟩
    dsimp only at hi1 hi2 hi3 ⊢
    repeat' (first|with_reducible (first|apply pN|apply cN|apply bN|apply cE|apply cR|apply bR|apply lE|apply lR|apply jE|apply jR)|refine zE ?_|refine zP ?_|refine pD ?_|refine zS ?_|refine zR ?_|refine zO ?_|refine zB ?_|refine zX ?_|refine zT ?_|refine skipI rfl ?_)
    refine condI rfl (fun c3=>?_) (fun c3=>?_)
    · simp only [decide_eq_true_eq] at c3
      have hie:i≤e:=by omega
      repeat' (first|with_reducible (first|apply pN|apply cN|apply bN|apply cE|apply cR|apply bR|apply lE|apply lR|apply jE|apply jR)|refine zE ?_|refine zP ?_|refine pD ?_|refine zS ?_|refine zR ?_|refine zO ?_|refine zB ?_|refine zX ?_|refine zT ?_|refine skipI rfl ?_)
      refine loopI (σ:=Nat × Bool) (fun z=>[(9,.bool z.2),(11,.int .i64 z.1)]) (fun z=>[]) (fun z=>i+1≤z.1∧z.1≤List.length (α:=Int) rt∧(z.2=true∨(i≤i0∧(i=i0→z.1≤e)∧i0 < e∧k0 < ws.length∧lnkB (getI ws tWin.dflt k0) rt i0 e=true))) (fun z=>List.length (α:=Int) rt - z.1) (i+1,r) rfl (fun _=>rfl) rfl ?_ ?_ ?_
      · refine ⟨Nat.le_refl _,by show i+1≤_;omega,?_⟩
        rcases hi3 with h|⟨h1,h2⟩
        · exact .inl h
        · exact .inr ⟨h1,fun h3=>by have:=h2.1;show i+1≤e;omega,h2⟩
      · repeat' (first|exact trivial|with_reducible exact rfl|refine And.intro ?_ ?_)
        all_goals rfl
      rintro ⟨j,r2⟩ ⟨hj1,hj2,hj3⟩
      dsimp only at hj1 hj2 hj3 ⊢
      repeat' (first|with_reducible (first|apply pN|apply cN|apply bN|apply cE|apply cR|apply bR|apply lE|apply lR|apply jE|apply jR)|refine zE ?_|refine zP ?_|refine pD ?_|refine zS ?_|refine zR ?_|refine zO ?_|refine zB ?_|refine zX ?_|refine zT ?_|refine skipI rfl ?_)
      refine condI rfl (fun c4=>?_) (fun c4=>?_)
      · simp only [decide_eq_true_eq] at c4
        have hjl:j < List.length (α:=Int) rt:=by omega
        repeat' (first|with_reducible (first|apply pN|apply cN|apply bN|apply cE|apply cR|apply bR|apply lE|apply lR|apply jE|apply jR)|refine zE ?_|refine zP ?_|refine pD ?_|refine zS ?_|refine zR ?_|refine zO ?_|refine zB ?_|refine zX ?_|refine zT ?_|refine skipI rfl ?_)
        refine loopI (σ:=Nat × Bool) (fun z=>[(9,.bool z.2),(12,.int .i64 z.1)]) (fun z=>[]) (fun z=>z.1≤ws.length∧(z.2=true∨(i≤i0∧(i=i0→j≤e∧(j=e→z.1≤k0))∧i0 < e∧k0 < ws.length∧lnkB (getI ws tWin.dflt k0) rt i0 e=true))) (fun z=>ws.length - z.1) (0,r2) rfl (fun _=>rfl) rfl ?_ ?_ ?_
        · refine ⟨Nat.zero_le _,?_⟩
          rcases hj3 with h|⟨h1,h2,h3⟩
          · exact .inl h
          · exact .inr ⟨h1,fun h4=>⟨h2 h4,fun _=>Nat.zero_le _⟩,h3⟩
        · repeat' (first|exact trivial|with_reducible exact rfl|refine And.intro ?_ ?_)
          all_goals rfl
        rintro ⟨k,r3⟩ ⟨hk1,hk3⟩
        dsimp only at hk1 hk3 ⊢
        repeat' (first|with_reducible (first|apply pN|apply cN|apply bN|apply cE|apply cR|apply bR|apply lE|apply lR|apply jE|apply jR)|refine zE ?_|refine zP ?_|refine pD ?_|refine zS ?_|refine zR ?_|refine zO ?_|refine zB ?_|refine zX ?_|refine zT ?_|refine skipI rfl ?_)
        refine condI rfl (fun c5=>?_) (fun c5=>?_)
        · simp only [decide_eq_true_eq] at c5
          have hkl:k < ws.length:=by omega
          have hkk:((k:Int)).toNat=k:=by omega
          have hii:((i:Int)).toNat=i:=by omega
          have hjj:((j:Int)).toNat=j:=by omega
          have hkeep:=fun h=>seg_keeps hv g1 (fl_mem (d:=tWin.dflt) hkl) hjl (a:=i) h (by omega) (by omega)
          repeat' (first|with_reducible (first|apply pN|apply cN|apply bN|apply cE|apply cR|apply bR|apply lE|apply lR|apply jE|apply jR)|refine zE ?_|refine zP ?_|refine zS ?_|refine zO ?_|refine zB ?_|refine zX ?_|refine zT ?_|refine skipI rfl ?_)
          refine zR ?_
          repeat' (first|with_reducible refine pN ?_|refine pD ?_|refine pC (by first|(first|omega|exact ⟨⟨by omega,by omega⟩,by omega⟩)) ?_)
          repeat with_reducible refine cN ?_
          simp only [hkk,hii,hjj]
          have hex:lnkB ((getI ws tWin.dflt k).1,(getI ws tWin.dflt k).2.1,(getI ws tWin.dflt k).2.2) rt i j=lnkB (getI ws tWin.dflt k) rt i j:=rfl
          rw [hex]
          repeat' (first|with_reducible (first|apply pN|apply cN|apply bN|apply cE|apply cR|apply bR|apply lE|apply lR|apply jE|apply jR)|refine zE ?_|refine zP ?_|refine pD ?_|refine zS ?_|refine zR ?_|refine zO ?_|refine zB ?_|refine zX ?_|refine zT ?_|refine skipI rfl ?_)
          refine condI rfl (fun c6=>?_) (fun c6=>?_)
          · have c6:=Bool.and_eq_true_iff.1 c6
            have h9:=hkeep c6.1
            have h8:=of_decide_eq_true c6.2
            omega
          · repeat' (first|with_reducible (first|apply pN|apply cN|apply bN|apply cE|apply cR|apply bR|apply lE|apply lR|apply jE|apply jR)|refine zE ?_|refine zP ?_|refine pD ?_|refine zS ?_|refine zR ?_|refine zO ?_|refine zB ?_|refine zX ?_|refine zT ?_|refine skipI rfl ?_)
            refine roundI (k+1,r3||(lnkB (getI ws tWin.dflt k) rt i j&&decide ((j:Int)=(e:Int)))) rfl ?_ ?_ ?_
            · refine ⟨by show k+1≤ws.length;omega,?_⟩
              dsimp only
              cases hr:r3||(lnkB (getI ws tWin.dflt k) rt i j&&decide ((j:Int)=(e:Int)))
              · rw [Bool.or_eq_false_iff] at hr
                rcases hk3 with h|⟨h1,h2,h3⟩
                · rw [hr.1] at h;cases h
                · refine .inr ⟨h1,fun h4=>⟨(h2 h4).1,fun h5=>?_⟩,h3⟩
                  have h6:=(h2 h4).2 h5
                  by_cases hkk0:k=k0
                  · have h7:=h3.2.2
                    rw [← h4,← hkk0,← h5] at h7
                    rw [h7,decide_eq_true (show (j:Int)=(e:Int) by omega)] at hr
                    cases hr.2
                  · omega
              · exact .inl rfl
            · show ws.length - (k+1) < ws.length - k
              omega
            · repeat' (first|exact trivial|with_reducible exact rfl|refine And.intro ?_ ?_)
              all_goals rfl
        · simp only [decide_eq_false_iff_not] at c5
          repeat' (first|with_reducible (first|apply pN|apply cN|apply bN|apply cE|apply cR|apply bR|apply lE|apply lR|apply jE|apply jR)|refine zE ?_|refine zP ?_|refine pD ?_|refine zS ?_|refine zR ?_|refine zO ?_|refine zB ?_|refine zX ?_|refine zT ?_|refine skipI rfl ?_)
          refine roundI (j+1,r3) rfl ?_ ?_ ?_
          · refine ⟨by show i+1≤j+1;omega,by show j+1≤_;omega,?_⟩
            rcases hk3 with h|⟨h1,h2,h3⟩
            · exact .inl h
            · refine .inr ⟨h1,fun h4=>?_,h3⟩
              have h5:=(h2 h4).1
              by_cases hje:j=e
              · have h6:=(h2 h4).2 hje
                have h7:=h3.2.1
                omega
              · show j+1≤e
                omega
          · show List.length (α:=Int) rt - (j+1) < List.length (α:=Int) rt - j
            omega
          · repeat' (first|exact trivial|with_reducible exact rfl|refine And.intro ?_ ?_)
            all_goals rfl
      · simp only [decide_eq_false_iff_not] at c4
        repeat' (first|with_reducible (first|apply pN|apply cN|apply bN|apply cE|apply cR|apply bR|apply lE|apply lR|apply jE|apply jR)|refine zE ?_|refine zP ?_|refine pD ?_|refine zS ?_|refine zR ?_|refine zO ?_|refine zB ?_|refine zX ?_|refine zT ?_|refine skipI rfl ?_)
        refine roundI (i+1,r2) rfl ?_ ?_ ?_
        · refine ⟨by show s≤i+1;omega,by show i+1≤e+1;omega,?_⟩
          rcases hj3 with h|⟨h1,h2,h3⟩
          · exact .inl h
          · refine .inr ⟨?_,h3⟩
            by_cases hii0:i=i0
            · have h4:=h2 hii0
              omega
            · show i+1≤i0
              omega
        · show e+1 - (i+1) < e+1 - i
          omega
        · repeat' (first|exact trivial|with_reducible exact rfl|refine And.intro ?_ ?_)
          all_goals rfl
    · simp only [decide_eq_false_iff_not] at c3
      have hr:r=true:=by
        rcases hi3 with h|⟨h1,h2,h3⟩
        · exact h
        · omega
      rw [hr]
      repeat' (first|with_reducible (first|apply pN|apply cN|apply bN|apply cE|apply cR|apply bR|apply lE|apply lR|apply jE|apply jR)|refine zE ?_|refine zP ?_|refine pD ?_|refine zS ?_|refine zR ?_|refine zO ?_|refine zB ?_|refine zX ?_|refine zT ?_|refine skipI rfl ?_)
      refine endR rfl ?_
      repeat' (first|exact trivial|exact rfl|refine ⟨rfl,?_⟩|refine And.intro ?_ ?_)
end Go.AM.Ytdohkcddjoammaa.Fl
