/- The law WindowShort: her function. -/
import Derived.Test.YtdohkcddjoammaaWnWK
import Derived.Test.YtdohkcddjoammaaWnLShK
set_option linter.all false
namespace Go.AM.Ytdohkcddjoammaa.Fl
open Go.Proofs
set_option maxRecDepth 100000
set_option maxHeartbeats 4000000
def shortS:Spec:=plain fun
  | [.agg [.sl (.pair (.int .i64) (.pair (.int .i64) (.pair (.int .i64) (.pair (.int .i64) (.pair (.int .i64) (.int .i64)))))) x,.sl (.pair (.int .i64) (.pair (.int .i64) (.int .i64))) w,.sl (.pair (.int .i64) (.pair (.int .i64) (.int .i64))) v,.int .i64 a,.int .i64 b,.int .i64 c],.sl (.int .i64) ch,.sl (.int .i64) mo]=>outV True (.bool true)
  | _=>none
def sigSr:List (Nat × Spec):=[(9,saneWS),(10,cMadeS),(21,wcheckS),(22,followS),(12,pickP),(23,timVS.norm [.any,.any,.sl tInt]),(13,lateS),(16,hasIS)]
theorem sigSrOk:SigOk Try.prog (look sigSr):=sigCons (sigCons (sigCons (sigCons (sigCons (sigCons (sigCons (sigCons sigNil
  Try.func16 (by kernel_rfl) (c:=body Try.f16) rfl hasIOk)
  Try.func13 (by kernel_rfl) (c:=body Try.f13) rfl lateOk)
  Try.func23 (by kernel_rfl) (c:=body Try.f23) rfl (timVOk.norm _))
  Try.func12 (by kernel_rfl) (c:=body Try.f12) rfl pickWOk)
  Try.func22 (by kernel_rfl) (c:=body Try.f22) rfl followOk)
  Try.func21 (by kernel_rfl) (c:=body Try.f21) rfl wcheckOk)
  Try.func10 (by kernel_rfl) (c:=body Try.f10) rfl cMadeOk)
  Try.func9 (by kernel_rfl) (c:=body Try.f9) rfl saneWOk
theorem follow_is {mn mx:Int} {ss:List StepT} {ws:List WinT} (hv:validF mn mx ss ws=true) {s:Int} (h:0≤s∧s < (ss.length:Int)):followF mn mx ss ws s=afterL (stp ss s.toNat):=by
  have:givF mn mx ss ws [s]=true:=by
    unfold givF
    rw [hv,Bool.true_and,Bool.not_eq_true',List.any_eq_false]
    intro y hy
    rw [List.mem_singleton.1 hy]
    unfold badN
    rw [decide_eq_false (by omega),decide_eq_false (by omega)]
    exact Bool.false_ne_true
  unfold followF
  rw [this]
  rfl
theorem getQs {ws:List WinT} {k:Nat} (h:k < ws.length):ws[k]?=some (getI ws tWin.dflt k):=by
  rw [List.getElem?_eq_getElem h]
  simp [getI,List.getD,List.getElem?_eq_getElem h]
theorem shortOk:SpecSound Try.prog 7 shortS:=by
  refine soundP (envOf sigSrOk) Try.func7 (c:=body Try.f7) rfl (by kernel_rfl) rfl ?_
  intro args out hf hpre
  split at hf <;> try (cases hf;done)
  rename_i x w v a b c ch mo
  cases hf
  refine ⟨Nat.le_of_ble_eq_true rfl,initI (args:=[.agg [.sl tS6 x,.sl tS3 w,.sl tS3 v,.int .i64 a,.int .i64 b,.int .i64 c],.sl tInt ch,.sl tInt mo]) rfl ?_⟩
  have hv:=c_valid (x:=x) (w:=w) (c:=c)
  repeat' (first|with_reducible (first|apply pN|apply cN|apply bN|apply cE|apply cR|apply bR|apply lE|apply lR|apply jE|apply jR)|refine zE ?_|refine zP ?_|refine zS ?_|refine zO ?_|refine zB ?_|refine zX ?_|refine zT ?_|refine skipI rfl ?_)
  refine zR ?_
  repeat' (first|with_reducible refine pN ?_|refine pD ?_|fail)
  repeat with_reducible refine cN ?_
  repeat' (first|with_reducible (first|apply pN|apply cN|apply bN|apply cE|apply cR|apply bR|apply lE|apply lR|apply jE|apply jR)|refine zE ?_|refine zP ?_|refine zS ?_|refine zO ?_|refine zB ?_|refine zX ?_|refine zT ?_|refine skipI rfl ?_)
  refine zR ?_
  repeat' (first|with_reducible refine pN ?_|refine pD ?_|fail)
  repeat with_reducible refine cN ?_
  repeat' (first|with_reducible (first|apply pN|apply cN|apply bN|apply cE|apply cR|apply bR|apply lE|apply lR|apply jE|apply jR)|refine zE ?_|refine zP ?_|refine zS ?_|refine zO ?_|refine zB ?_|refine zX ?_|refine zT ?_|refine skipI rfl ?_)
  refine zR ?_
  repeat' (first|with_reducible refine pN ?_|refine pD ?_|fail)
  repeat with_reducible refine cN ?_
  generalize cMn x c=mn at *
  generalize cMx x c=mx at *
  generalize cSs x c=ss at *
  generalize cWs x w c=ws at *
  have F:=flow_sm hv
  have hwl:=F.wl
  have e0:checkF mn mx ss ws=checkW mn mx ss ws ws:=by unfold checkF;rw [hv];rfl
  repeat' (first|with_reducible (first|apply pN|apply cN|apply bN|apply cE|apply cR|apply bR|apply lE|apply lR|apply jE|apply jR)|refine zE ?_|refine zP ?_|refine zS ?_|refine zO ?_|refine zB ?_|refine zX ?_|refine zT ?_|refine skipI rfl ?_)
  refine zR ?_
  repeat' (first|with_reducible refine pN ?_|refine pD ?_|fail)
  repeat with_reducible refine cN ?_
  rw [e0]
  rcases chkW_spec (mn:=mn) (mx:=mx) (ss:=ss) (ws:=ws) (r:=ws) with ⟨h1,_⟩|⟨w0,hw0,⟨_,h1⟩|⟨v0,hg,hlt,h1⟩⟩
  · rw [h1]
    repeat' (first|with_reducible (first|apply pN|apply cN|apply bN|apply cE|apply cR|apply bR|apply lE|apply lR|apply jE|apply jR)|refine zE ?_|refine zP ?_|refine pD ?_|refine zS ?_|refine zR ?_|refine zO ?_|refine zB ?_|refine zX ?_|refine zT ?_|refine skipI rfl ?_)
    refine condI rfl (fun c1=>?_) (fun c1=>?_)
    · repeat' (first|with_reducible (first|apply pN|apply cN|apply bN|apply cE|apply cR|apply bR|apply lE|apply lR|apply jE|apply jR)|refine zE ?_|refine zP ?_|refine pD ?_|refine zS ?_|refine zR ?_|refine zO ?_|refine zB ?_|refine zX ?_|refine zT ?_|refine skipI rfl ?_)
      refine endR rfl ?_
      repeat' (first|exact trivial|exact rfl|refine ⟨rfl,?_⟩|refine And.intro ?_ ?_)
    · exact absurd c1 (by simp)
  · rw [h1]
    repeat' (first|with_reducible (first|apply pN|apply cN|apply bN|apply cE|apply cR|apply bR|apply lE|apply lR|apply jE|apply jR)|refine zE ?_|refine zP ?_|refine pD ?_|refine zS ?_|refine zR ?_|refine zO ?_|refine zB ?_|refine zX ?_|refine zT ?_|refine skipI rfl ?_)
    refine condI rfl (fun c1=>?_) (fun c1=>?_)
    · repeat' (first|with_reducible (first|apply pN|apply cN|apply bN|apply cE|apply cR|apply bR|apply lE|apply lR|apply jE|apply jR)|refine zE ?_|refine zP ?_|refine pD ?_|refine zS ?_|refine zR ?_|refine zO ?_|refine zB ?_|refine zX ?_|refine zT ?_|refine skipI rfl ?_)
      refine endR rfl ?_
      repeat' (first|exact trivial|exact rfl|refine ⟨rfl,?_⟩|refine And.intro ?_ ?_)
    · exact absurd c1 (by simp)
  · rw [h1]
    obtain ⟨hv1,hv2,hv3,hv4,hv5⟩:=way_is hg
    obtain ⟨_,hfr,hto,_⟩:=way_facts hg
    have hne:=win_ne F hw0
    have hvl:=get_len hg
    obtain ⟨i0,hi0,he0⟩:=mem_getI (d:=tWin.dflt) hw0
    have hSl:=L_len (fr:=w0.1) (to:=w0.2.1) (inner:=v0.2)
    have hSe:=L_end (fr:=w0.1) (to:=w0.2.1) (inner:=v0.2)
    have hSi:=L_ins hfr hto hv4
    have hS0:getI (w0.1::(v0.2++[w0.2.1])) 0 0=w0.1:=rfl
    have hlate:=short_late F hne hfr hto hv4 hv3 (mo:=[]) (by omega) (by rw [← hv1];exact hlt)
    generalize w0.1::(v0.2++[w0.2.1])=S at *
    dsimp only
    repeat' (first|with_reducible (first|apply pN|apply cN|apply bN|apply cE|apply cR|apply bR|apply lE|apply lR|apply jE|apply jR)|refine zE ?_|refine zP ?_|refine pD ?_|refine zS ?_|refine zR ?_|refine zO ?_|refine zB ?_|refine zX ?_|refine zT ?_|refine skipI rfl ?_)
    refine condI rfl (fun c1=>?_) (fun c1=>?_)
    · simp at c1
      omega
    have hSn:((List.length (α:=Int) S:Int) - 1).toNat=v0.2.length+1:=by omega
    repeat' (first|with_reducible (first|apply pN|apply cN|apply bN|apply cE|apply cR|apply bR|apply lE|apply lR|apply jE|apply jR)|refine zE ?_|refine zP ?_|refine pD ?_|refine pC (by first|omega|(unfold In64;omega)) ?_|refine zS ?_|refine zR ?_|refine zO ?_|refine zB ?_|refine zX ?_|refine zT ?_|refine skipI rfl ?_)
    rw [hSn,show getI S (Ty.dflt tInt) (Int.toNat 0)=w0.1 from hS0,show getI S (Ty.dflt tInt) (v0.2.length+1)=w0.2.1 from hSe]
    refine loopI (σ:=Nat) (fun k=>[(12,.int .i64 (if i0 < k then (i0:Int) else -1)),(13,.int .i64 k)]) (fun k=>[]) (fun k=>k≤ws.length) (fun k=>ws.length - k) 0 rfl (fun _=>rfl) rfl ?_ ?_ ?_
    · exact Nat.zero_le _
    · repeat' (first|exact trivial|with_reducible exact rfl|refine And.intro ?_ ?_)
      all_goals rfl
    intro k hk
    repeat' (first|with_reducible (first|apply pN|apply cN|apply bN|apply cE|apply cR|apply bR|apply lE|apply lR|apply jE|apply jR)|refine zE ?_|refine zP ?_|refine pD ?_|refine zS ?_|refine zR ?_|refine zO ?_|refine zB ?_|refine zX ?_|refine zT ?_|refine skipI rfl ?_)
    refine condI rfl (fun c2=>?_) (fun c2=>?_)
    · simp only [decide_eq_true_eq] at c2
      have hkl:k < ws.length:=by omega
      have hkk:((k:Int)).toNat=k:=by omega
      repeat' (first|with_reducible (first|apply pN|apply cN|apply bN|apply cE|apply cR|apply bR|apply lE|apply lR|apply jE|apply jR)|refine zE ?_|refine zP ?_|refine pD ?_|refine pC (by first|omega|(intros;omega)) ?_|refine zS ?_|refine zR ?_|refine zO ?_|refine zB ?_|refine zX ?_|refine zT ?_|refine skipI rfl ?_)
      simp only [hkk]
      refine condI rfl (fun c3=>?_) (fun c3=>?_)
      · have c3:(decide ((getI ws tWin.dflt k).1=w0.1)&&decide ((getI ws tWin.dflt k).2.1=w0.2.1))=true:=c3
        rw [Bool.and_eq_true,decide_eq_true_eq,decide_eq_true_eq,← he0] at c3
        have hki:=win_inj hv hkl hi0 c3.1 c3.2
        repeat' (first|with_reducible (first|apply pN|apply cN|apply bN|apply cE|apply cR|apply bR|apply lE|apply lR|apply jE|apply jR)|refine zE ?_|refine zP ?_|refine pD ?_|refine zS ?_|refine zR ?_|refine zO ?_|refine zB ?_|refine zX ?_|refine zT ?_|refine skipI rfl ?_)
        refine roundI (k+1) rfl ?_ ?_ ?_
        · show k+1≤ws.length
          omega
        · show ws.length - (k+1) < ws.length - k
          omega
        · repeat' (first|exact trivial|with_reducible exact rfl|refine And.intro ?_ ?_)
          all_goals (first|rfl|(rw [if_pos (show i0 < k+1 by omega),hki]))
      · have c3:(decide ((getI ws tWin.dflt k).1=w0.1)&&decide ((getI ws tWin.dflt k).2.1=w0.2.1))=false:=c3
        have hki:k≠i0:=by
          rintro rfl
          rw [he0,decide_eq_true rfl,decide_eq_true rfl] at c3
          cases c3
        have hif:(if i0 < k+1 then (i0:Int) else -1)=if i0 < k then (i0:Int) else -1:=by
          by_cases h:i0 < k
          · rw [if_pos h,if_pos (by omega)]
          · rw [if_neg h,if_neg (by omega)]
        repeat' (first|with_reducible (first|apply pN|apply cN|apply bN|apply cE|apply cR|apply bR|apply lE|apply lR|apply jE|apply jR)|refine zE ?_|refine zP ?_|refine pD ?_|refine zS ?_|refine zR ?_|refine zO ?_|refine zB ?_|refine zX ?_|refine zT ?_|refine skipI rfl ?_)
        refine roundI (k+1) rfl ?_ ?_ ?_
        · show k+1≤ws.length
          omega
        · show ws.length - (k+1) < ws.length - k
          omega
        · repeat' (first|exact trivial|with_reducible exact rfl|refine And.intro ?_ ?_)
          all_goals (first|rfl|exact hif)
    simp only [decide_eq_false_iff_not] at c2
    rw [if_pos (show i0 < k by omega)]
    clear c2
    repeat' (first|with_reducible (first|apply pN|apply cN|apply bN|apply cE|apply cR|apply bR|apply lE|apply lR|apply jE|apply jR)|refine zE ?_|refine zP ?_|refine zS ?_|refine zO ?_|refine zB ?_|refine zX ?_|refine zT ?_|refine skipI rfl ?_)
    refine zR ?_
    repeat' (first|with_reducible refine pN ?_|refine pD ?_|fail)
    repeat with_reducible refine cN ?_
    repeat' (first|with_reducible (first|apply pN|apply cN|apply bN|apply cE|apply cR|apply bR|apply lE|apply lR|apply jE|apply jR)|refine zE ?_|refine zP ?_|refine zS ?_|refine zO ?_|refine zB ?_|refine zX ?_|refine zT ?_|refine skipI rfl ?_)
    refine zR ?_
    repeat' (first|with_reducible refine pN ?_|refine pD ?_|fail)
    repeat with_reducible refine cN ?_
    repeat' (first|with_reducible refine cN ?_|refine zS ?_|fail)
    refine joinC (fun z:Nat × List Int=>[(14,.own 3000),(15,.int .i64 z.1)]) (fun z=>[(3000,.seq tInt z.2)]) (fun z=>WalkP ss w0.1 w0.2.1 z.2∧z.2.length≤31) (fun _=>rfl) ?_ (fun z hz=>?_)
    · repeat' (first|with_reducible (first|apply pN|apply cN|apply bN|apply cE|apply cR|apply bR|apply lE|apply lR|apply jE|apply jR)|refine zE ?_|refine zP ?_|refine pD ?_|refine zS ?_|refine zR ?_|refine zO ?_|refine zB ?_|refine zX ?_|refine zT ?_|refine skipI rfl ?_)
      refine loopI (σ:=Nat × List Int) (fun z=>[(14,.own 3000),(15,.int .i64 z.1)]) (fun z=>[(3000,.seq tInt z.2)]) (fun z=>z.1≤30∧WalkP ss w0.1 w0.2.1 z.2∧z.2.length≤z.1+1) (fun z=>30 - z.1) (0,[w0.1]) rfl (fun _=>rfl) rfl ?_ ?_ ?_
      · exact ⟨Nat.zero_le _,.inl rfl,by simp⟩
      · repeat' (first|exact trivial|with_reducible exact rfl|refine And.intro ?_ ?_)
        all_goals rfl
      rintro ⟨i,W⟩ ⟨hi,hW,hWl⟩
      dsimp only at hi hW hWl ⊢
      obtain ⟨hWi,hW0⟩:=walkP_in F hfr hW
      have hWn:((List.length (α:=Int) W:Int) - 1).toNat=List.length (α:=Int) W - 1:=by omega
      repeat' (first|with_reducible (first|apply pN|apply cN|apply bN|apply cE|apply cR|apply bR|apply lE|apply lR|apply jE|apply jR)|refine zE ?_|refine zP ?_|refine pD ?_|refine pC (by first|omega|(intros;omega)|(intros;unfold In64;omega)) ?_|refine zS ?_|refine zR ?_|refine zO ?_|refine zB ?_|refine zX ?_|refine zT ?_|refine skipI rfl ?_)
      refine condI rfl (fun c4=>?_) (fun c4=>?_)
      · simp only [Bool.and_eq_true,decide_eq_true_eq] at c4
        have hic:i < List.length (α:=Int) ch:=by omega
        have hii:((i:Int)).toNat=i:=by omega
        have c4n:¬ getI W (Ty.dflt tInt) (List.length (α:=Int) W - 1)=w0.2.1:=by
          have c4:=c4.2
          simp only [hWn] at c4
          simpa using c4
        have hla:lastI W≠w0.2.1:=c4n
        have hls:=hWi _ (fl_mem (d:=(0:Int)) (show List.length (α:=Int) W - 1 < List.length (α:=Int) W by omega))
        have hfw:=follow_is hv (s:=lastI W) hls
        repeat' (first|with_reducible (first|apply pN|apply cN|apply bN|apply cE|apply cR|apply bR|apply lE|apply lR|apply jE|apply jR)|refine zE ?_|refine zP ?_|refine zS ?_|refine zO ?_|refine zB ?_|refine zX ?_|refine zT ?_|refine skipI rfl ?_)
        refine zR ?_
        repeat' (first|with_reducible refine pN ?_|refine pD ?_|refine pC (by first|(first|omega|(unfold In64;omega))) ?_)
        repeat with_reducible refine cN ?_
        simp only [hWn]
        rw [show followF mn mx ss ws (getI W (Ty.dflt tInt) (List.length (α:=Int) W - 1))=afterL (stp ss (lastI W).toNat) from hfw]
        obtain ⟨fl,hfl⟩:∃ fl,fl=afterL (stp ss (lastI W).toNat):=⟨_,rfl⟩
        rw [← hfl]
        repeat' (first|with_reducible (first|apply pN|apply cN|apply bN|apply cE|apply cR|apply bR|apply lE|apply lR|apply jE|apply jR)|refine zE ?_|refine zP ?_|refine pD ?_|refine zS ?_|refine zR ?_|refine zO ?_|refine zB ?_|refine zX ?_|refine zT ?_|refine skipI rfl ?_)
        refine condI rfl (fun c5=>?_) (fun c5=>?_)
        · repeat' (first|with_reducible (first|apply pN|apply cN|apply bN|apply cE|apply cR|apply bR|apply lE|apply lR|apply jE|apply jR)|refine zE ?_|refine zP ?_|refine pD ?_|refine zS ?_|refine zR ?_|refine zO ?_|refine zB ?_|refine zX ?_|refine zT ?_|refine skipI rfl ?_)
          refine meetI (i,W) rfl ⟨hW,by show W.length≤31;omega⟩ ?_
          repeat' (first|exact trivial|with_reducible exact rfl|refine And.intro ?_ ?_)
        · have hf0:0 < List.length (α:=Int) fl:=by simp at c5;exact List.length_pos_iff.2 c5
          have hpk:=pick_b (c:=getI ch (Ty.dflt tInt) i) (n:=(List.length (α:=Int) fl:Int)) (by omega)
          repeat' (first|with_reducible (first|apply pN|apply cN|apply bN|apply cE|apply cR|apply bR|apply lE|apply lR|apply jE|apply jR)|refine zE ?_|refine zP ?_|refine zS ?_|refine zO ?_|refine zB ?_|refine zX ?_|refine zT ?_|refine skipI rfl ?_)
          refine zR ?_
          repeat' (first|with_reducible refine pN ?_|refine pD ?_|refine pC (by first|(first|omega|(simp only [hii];omega))) ?_)
          repeat with_reducible refine cN ?_
          simp only [hii]
          obtain ⟨nx,hnx⟩:∃ nx:Int,nx=getI fl (Ty.dflt tInt) (pickF (getI ch (Ty.dflt tInt) i) (List.length (α:=Int) fl:Int)).toNat:=⟨_,rfl⟩
          rw [← hnx]
          have hmem:nx∈afterL (stp ss (lastI W).toNat):=by
            rw [← hfl,hnx]
            exact fl_mem (d:=(0:Int)) (by omega)
          have hst:=walkP_step hW hla hmem
          repeat' (first|with_reducible (first|apply pN|apply cN|apply bN|apply cE|apply cR|apply bR|apply lE|apply lR|apply jE|apply jR)|refine zE ?_|refine zP ?_|refine zS ?_|refine zO ?_|refine zB ?_|refine zX ?_|refine zT ?_|refine skipI rfl ?_)
          refine zR ?_
          repeat' (first|with_reducible refine pN ?_|refine pD ?_|fail)
          repeat with_reducible refine cN ?_
          repeat' (first|with_reducible refine cN ?_|refine zS ?_|fail)
          refine joinC (fun _:List Int=>[(14,.own 3100)]) (fun V=>[(3100,.seq tInt V)]) (fun V=>V=if nx=w0.1 then [] else W) (fun _=>rfl) ?_ (fun V hV=>?_)
          · refine condI rfl (fun c6=>?_) (fun c6=>?_)
            · have c6:=of_decide_eq_true c6
              repeat' (first|with_reducible (first|apply pN|apply cN|apply bN|apply cE|apply cR|apply bR|apply lE|apply lR|apply jE|apply jR)|refine zE ?_|refine zP ?_|refine pD ?_|refine zS ?_|refine zR ?_|refine zO ?_|refine zB ?_|refine zX ?_|refine zT ?_|refine skipI rfl ?_)
              refine meetI [] rfl (if_pos c6).symm ?_
              repeat' (first|exact trivial|with_reducible exact rfl|refine And.intro ?_ ?_)
            · have c6:=of_decide_eq_false c6
              repeat' (first|with_reducible (first|apply pN|apply cN|apply bN|apply cE|apply cR|apply bR|apply lE|apply lR|apply jE|apply jR)|refine zE ?_|refine zP ?_|refine pD ?_|refine zS ?_|refine zR ?_|refine zO ?_|refine zB ?_|refine zX ?_|refine zT ?_|refine skipI rfl ?_)
              refine meetI W rfl (if_neg c6).symm ?_
              repeat' (first|exact trivial|with_reducible exact rfl|refine And.intro ?_ ?_)
          · rw [← hV] at hst
            have hVl:V.length≤W.length:=by
              rw [hV]
              split
              · exact Nat.zero_le _
              · exact Nat.le_refl _
            repeat' (first|with_reducible (first|apply pN|apply cN|apply bN|apply cE|apply cR|apply bR|apply lE|apply lR|apply jE|apply jR)|refine zE ?_|refine zP ?_|refine pD ?_|refine pC (by first|omega|(simp only [List.length_cons,List.length_nil];omega)) ?_|refine zS ?_|refine zR ?_|refine zO ?_|refine zB ?_|refine zX ?_|refine zT ?_|refine skipI rfl ?_)
            refine roundI (i+1,V++[nx]) rfl ?_ ?_ ?_
            · refine ⟨by show i+1≤30;omega,hst,?_⟩
              show (V++[nx]).length≤i+1+1
              rw [List.length_append,List.length_singleton]
              omega
            · show 30 - (i+1) < 30 - i
              omega
            · repeat' (first|exact trivial|with_reducible exact rfl|refine And.intro ?_ ?_)
              all_goals rfl
      · repeat' (first|with_reducible (first|apply pN|apply cN|apply bN|apply cE|apply cR|apply bR|apply lE|apply lR|apply jE|apply jR)|refine zE ?_|refine zP ?_|refine pD ?_|refine zS ?_|refine zR ?_|refine zO ?_|refine zB ?_|refine zX ?_|refine zT ?_|refine skipI rfl ?_)
        refine meetI (i,W) rfl ⟨hW,by show W.length≤31;omega⟩ ?_
        repeat' (first|exact trivial|with_reducible exact rfl|refine And.intro ?_ ?_)
    · obtain ⟨i,W⟩:=z
      obtain ⟨hW,hWl⟩:WalkP ss w0.1 w0.2.1 W∧W.length≤31:=hz
      dsimp only
      obtain ⟨hWi,hW0⟩:=walkP_in F hfr hW
      have hWn:((List.length (α:=Int) W:Int) - 1).toNat=List.length (α:=Int) W - 1:=by omega
      have es:=watA_v hv (timV mn ss S [])
      have eb:=late_bit (vs:=timV mn ss S []) (getQs hi0)
      rw [he0,hlate] at eb
      repeat' (first|with_reducible (first|apply pN|apply cN|apply bN|apply cE|apply cR|apply bR|apply lE|apply lR|apply jE|apply jR)|refine zE ?_|refine zP ?_|refine zS ?_|refine zO ?_|refine zB ?_|refine zX ?_|refine zT ?_|refine skipI rfl ?_)
      refine zR ?_
      repeat' (first|with_reducible refine pN ?_|refine pD ?_|refine pC (by exact ⟨⟨hv,hSi⟩,by omega⟩) ?_)
      repeat with_reducible refine cN ?_
      rw [es]
      repeat' (first|with_reducible (first|apply pN|apply cN|apply bN|apply cE|apply cR|apply bR|apply lE|apply lR|apply jE|apply jR)|refine zE ?_|refine zP ?_|refine zS ?_|refine zO ?_|refine zB ?_|refine zX ?_|refine zT ?_|refine skipI rfl ?_)
      refine zR ?_
      repeat' (first|with_reducible refine pN ?_|refine pD ?_|fail)
      repeat with_reducible refine cN ?_
      rw [eb]
      refine condI rfl (fun c7=>?_) (fun c7=>?_)
      · simp at c7
        omega
      repeat' (first|with_reducible (first|apply pN|apply cN|apply bN|apply cE|apply cR|apply bR|apply lE|apply lR|apply jE|apply jR)|refine zE ?_|refine zP ?_|refine zS ?_|refine zO ?_|refine zB ?_|refine zX ?_|refine zT ?_|refine skipI rfl ?_)
      refine zR ?_
      repeat' (first|with_reducible refine pN ?_|refine pD ?_|refine pC (by first|(first|omega|(unfold In64;omega))) ?_)
      repeat with_reducible refine cN ?_
      simp only [hWn]
      refine condI rfl (fun c8=>?_) (fun c8=>?_)
      · repeat' (first|with_reducible (first|apply pN|apply cN|apply bN|apply cE|apply cR|apply bR|apply lE|apply lR|apply jE|apply jR)|refine zE ?_|refine zP ?_|refine pD ?_|refine zS ?_|refine zR ?_|refine zO ?_|refine zB ?_|refine zX ?_|refine zT ?_|refine skipI rfl ?_)
        refine endR rfl ?_
        repeat' (first|exact trivial|exact rfl|refine ⟨rfl,?_⟩|refine And.intro ?_ ?_)
      · have c8n:getI W (Ty.dflt tInt) (List.length (α:=Int) W - 1)=w0.2.1:=by simpa using c8
        have hla:lastI W=w0.2.1:=c8n
        obtain ⟨inner,hWe,hch,hav⟩:=walkP_end hW hne hla
        have hii:=(chain_in F hfr.1 hfr.2 hch).1
        have hil:inner.length≤47:=by
          rw [hWe,L_len] at hWl
          omega
        have hl2:=short_late F hne hfr hto hii hav (mo:=mo) hil (by have:=hv5 inner hch;omega)
        rw [← hWe] at hl2
        have es2:=watA_v hv (timV mn ss W mo)
        have eb2:=late_bit (vs:=timV mn ss W mo) (getQs hi0)
        rw [he0,hl2] at eb2
        repeat' (first|with_reducible (first|apply pN|apply cN|apply bN|apply cE|apply cR|apply bR|apply lE|apply lR|apply jE|apply jR)|refine zE ?_|refine zP ?_|refine zS ?_|refine zO ?_|refine zB ?_|refine zX ?_|refine zT ?_|refine skipI rfl ?_)
        refine zR ?_
        repeat' (first|with_reducible refine pN ?_|refine pD ?_|refine pC (by first|(first|exact ⟨⟨hv,hWi⟩,by omega⟩|(intros;exact ⟨⟨hv,hWi⟩,by omega⟩))) ?_)
        repeat with_reducible refine cN ?_
        rw [es2,eb2]
        repeat' (first|with_reducible (first|apply pN|apply cN|apply bN|apply cE|apply cR|apply bR|apply lE|apply lR|apply jE|apply jR)|refine zE ?_|refine zP ?_|refine pD ?_|refine zS ?_|refine zR ?_|refine zO ?_|refine zB ?_|refine zX ?_|refine zT ?_|refine skipI rfl ?_)
        refine endR rfl ?_
        repeat' (first|exact trivial|exact rfl|refine ⟨rfl,?_⟩|refine And.intro ?_ ?_)
end Go.AM.Ytdohkcddjoammaa.Fl
