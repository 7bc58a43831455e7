/- The law WindowWide: her function. -/
import Derived.Test.YtdohkcddjoammaaWnWK
import Derived.Test.YtdohkcddjoammaaWnKK
import Derived.Test.YtdohkcddjoammaaWnLStK
set_option linter.all false
namespace Go.AM.Ytdohkcddjoammaa.Fl
open Go.Proofs
set_option maxRecDepth 100000
set_option maxHeartbeats 4000000
theorem noway {mn mx:Int} {ss:List StepT} {ws:List WinT} (hv:validF mn mx ss ws=true) {a b:Int} (ha:0≤a∧a < (ss.length:Int)) (hb:0≤b∧b < (ss.length:Int)) (hg:wayGet mn mx ss ws a b=none) {s:Int} (hs:s∈afterL (stp ss a.toNat)):hasI (reachF mn mx ss ws s) b=false:=by
  have F:=flow_sm hv
  have hsi:=after_in (F.st _ (fl_mem (d:=tStep.dflt) (show a.toNat < ss.length by omega))) s hs
  obtain ⟨a',rfl⟩:∃ n:Nat,a=(n:Int):=⟨a.toNat,by omega⟩
  obtain ⟨b',rfl⟩:∃ n:Nat,b=(n:Int):=⟨b.toNat,by omega⟩
  obtain ⟨s',rfl⟩:∃ n:Nat,s=(n:Int):=⟨s.toNat,by omega⟩
  rw [show ((a':Int)).toNat=a' by omega] at hs
  unfold hasI
  refine decide_eq_false fun hm=>?_
  unfold reachF at hm
  cases hgv:givF mn mx ss ws [(s':Int)]
  · rw [hgv] at hm;cases hm
  · rw [hgv] at hm
    obtain ⟨y,hy,hyb⟩:=List.mem_map.1 hm
    obtain rfl:y=b':=by omega
    have h1:=(List.mem_filter.1 hy).2
    rcases vis_rch F (by omega) List.length_replicate h1 with h2|h2
    · rw [repl_get] at h2;cases h2
    · obtain ⟨t,ht⟩:=rch_walk (mn:=mn) hs h2
      obtain ⟨w,h3,_⟩:=ways_best F (by omega) ht
      have hgg:givF mn mx ss ws [(a':Int),(y:Int)]=true:=by
        unfold givF
        rw [hv,Bool.true_and,Bool.not_eq_true',List.any_eq_false]
        intro z hz
        have hz2:0≤z∧z < (ss.length:Int):=by
          rcases List.mem_cons.1 hz with rfl|hz
          · exact ha
          · rw [List.mem_singleton.1 hz];exact hb
        unfold badN
        rw [decide_eq_false (by omega),decide_eq_false (by omega)]
        exact Bool.false_ne_true
      unfold wayGet at hg
      rw [hgg] at hg
      have hg:getI (waysF mn ss (a':Int)) none ((y:Int)).toNat=none:=hg
      rw [show ((y:Int)).toNat=y by omega,h3] at hg
      cases hg
def sigWd:List (Nat × Spec):=[(9,saneWS),(10,cMadeS),(21,wcheckS),(22,followS),(24,reachS),(25,wayS),(23,timVS.norm [.any,.any,.sl tInt]),(13,lateS),(16,hasIS)]
theorem sigWdOk:SigOk Try.prog (look sigWd):=sigCons (sigCons (sigCons (sigCons (sigCons (sigCons (sigCons (sigCons (sigCons sigNil
  Try.func16 (by kernel_rfl) (c:=body Try.f16) rfl hasIOk)
  Try.func13 (by kernel_rfl) (c:=body Try.f13) rfl lateOk)
  Try.func23 (by kernel_rfl) (c:=body Try.f23) rfl (timVOk.norm _))
  Try.func25 (by kernel_rfl) (c:=body Try.f25) rfl wayOk')
  Try.func24 (by kernel_rfl) (c:=body Try.f24) rfl reachOk)
  Try.func22 (by kernel_rfl) (c:=body Try.f22) rfl followOk)
  Try.func21 (by kernel_rfl) (c:=body Try.f21) rfl wcheckOk)
  Try.func10 (by kernel_rfl) (c:=body Try.f10) rfl cMadeOk)
  Try.func9 (by kernel_rfl) (c:=body Try.f9) rfl saneWOk
def wideS:Spec:=plain fun
  | [.agg [.sl (.pair (.int .i64) (.pair (.int .i64) (.pair (.int .i64) (.pair (.int .i64) (.pair (.int .i64) (.int .i64)))))) x,.sl (.pair (.int .i64) (.pair (.int .i64) (.int .i64))) w,.sl (.pair (.int .i64) (.pair (.int .i64) (.int .i64))) v,.int .i64 a,.int .i64 b,.int .i64 c]]=>outV True (.bool true)
  | _=>none
theorem wideOk:SpecSound Try.prog 8 wideS:=by
  refine soundP (envOf sigWdOk) Try.func8 (c:=body Try.f8) rfl (by kernel_rfl) rfl ?_
  intro args out hf hpre
  split at hf <;> try (cases hf;done)
  rename_i x w v a b c
  cases hf
  refine ⟨Nat.le_of_ble_eq_true rfl,initI (args:=[.agg [.sl tS6 x,.sl tS3 w,.sl tS3 v,.int .i64 a,.int .i64 b,.int .i64 c]]) rfl ?_⟩
  have hv:=c_valid (x:=x) (w:=w) (c:=c)
  repeat' (first|with_reducible (first|apply pN|apply cN|apply bN|apply cE|apply cR|apply bR|apply lE|apply lR|apply jE|apply jR)|refine zE ?_|refine zP ?_|refine zS ?_|refine zO ?_|refine zB ?_|refine zX ?_|refine zT ?_|refine skipI rfl ?_)
  refine zR ?_
  repeat' (first|with_reducible refine pN ?_|refine pD ?_|fail)
  repeat with_reducible refine cN ?_
  repeat' (first|with_reducible (first|apply pN|apply cN|apply bN|apply cE|apply cR|apply bR|apply lE|apply lR|apply jE|apply jR)|refine zE ?_|refine zP ?_|refine zS ?_|refine zO ?_|refine zB ?_|refine zX ?_|refine zT ?_|refine skipI rfl ?_)
  refine zR ?_
  repeat' (first|with_reducible refine pN ?_|refine pD ?_|fail)
  repeat with_reducible refine cN ?_
  repeat' (first|with_reducible (first|apply pN|apply cN|apply bN|apply cE|apply cR|apply bR|apply lE|apply lR|apply jE|apply jR)|refine zE ?_|refine zP ?_|refine zS ?_|refine zO ?_|refine zB ?_|refine zX ?_|refine zT ?_|refine skipI rfl ?_)
  refine zR ?_
  repeat' (first|with_reducible refine pN ?_|refine pD ?_|fail)
  repeat with_reducible refine cN ?_
  generalize cMn x c=mn at *
  generalize cMx x c=mx at *
  generalize cSs x c=ss at *
  generalize cWs x w c=ws at *
  have F:=flow_sm hv
  have hwl:=F.wl
  have e0:checkF mn mx ss ws=checkW mn mx ss ws ws:=by unfold checkF;rw [hv];rfl
  repeat' (first|with_reducible (first|apply pN|apply cN|apply bN|apply cE|apply cR|apply bR|apply lE|apply lR|apply jE|apply jR)|refine zE ?_|refine zP ?_|refine zS ?_|refine zO ?_|refine zB ?_|refine zX ?_|refine zT ?_|refine skipI rfl ?_)
  refine zR ?_
  repeat' (first|with_reducible refine pN ?_|refine pD ?_|fail)
  repeat with_reducible refine cN ?_
  rw [e0]
  rcases chkW_spec (mn:=mn) (mx:=mx) (ss:=ss) (ws:=ws) (r:=ws) with ⟨h1,hall⟩|⟨w0,hw0,⟨hg,h1⟩|⟨v0,hg,hlt,h1⟩⟩
  · rw [h1]
    dsimp only
    repeat' (first|with_reducible (first|apply pN|apply cN|apply bN|apply cE|apply cR|apply bR|apply lE|apply lR|apply jE|apply jR)|refine zE ?_|refine zP ?_|refine pD ?_|refine zS ?_|refine zR ?_|refine zO ?_|refine zB ?_|refine zX ?_|refine zT ?_|refine skipI rfl ?_)
    refine condI rfl (fun c1=>?_) (fun c1=>?_)
    · exact absurd c1 (by decide)
    repeat' (first|with_reducible (first|apply pN|apply cN|apply bN|apply cE|apply cR|apply bR|apply lE|apply lR|apply jE|apply jR)|refine zE ?_|refine zP ?_|refine pD ?_|refine zS ?_|refine zR ?_|refine zO ?_|refine zB ?_|refine zX ?_|refine zT ?_|refine skipI rfl ?_)
    refine condI rfl (fun c2=>?_) (fun c2=>?_)
    · exact absurd c2 (by decide)
    repeat' (first|with_reducible (first|apply pN|apply cN|apply bN|apply cE|apply cR|apply bR|apply lE|apply lR|apply jE|apply jR)|refine zE ?_|refine zP ?_|refine pD ?_|refine zS ?_|refine zR ?_|refine zO ?_|refine zB ?_|refine zX ?_|refine zT ?_|refine skipI rfl ?_)
    refine loopI (σ:=Nat) (fun k=>[(8,.int .i64 k)]) (fun k=>[]) (fun k=>k≤ws.length) (fun k=>ws.length - k) 0 rfl (fun _=>rfl) rfl ?_ ?_ ?_
    · exact Nat.zero_le _
    · repeat' (first|exact trivial|with_reducible exact rfl|refine And.intro ?_ ?_)
      all_goals rfl
    intro k hk
    repeat' (first|with_reducible (first|apply pN|apply cN|apply bN|apply cE|apply cR|apply bR|apply lE|apply lR|apply jE|apply jR)|refine zE ?_|refine zP ?_|refine pD ?_|refine zS ?_|refine zR ?_|refine zO ?_|refine zB ?_|refine zX ?_|refine zT ?_|refine skipI rfl ?_)
    refine condI rfl (fun c3=>?_) (fun c3=>?_)
    · simp only [decide_eq_true_eq] at c3
      have hkl:k < ws.length:=by omega
      have hkk:((k:Int)).toNat=k:=by omega
      obtain ⟨u,hu⟩:∃ u:WinT,u=getI ws tWin.dflt k:=⟨_,rfl⟩
      have hum:u∈ws:=by rw [hu];exact fl_mem hkl
      obtain ⟨v0,hg,hle⟩:=hall u hum
      obtain ⟨hv1,hv2,hv3,hv4,hv5⟩:=way_is hg
      obtain ⟨_,hfr,hto,_⟩:=way_facts hg
      have hne:=win_ne F hum
      have hvl:=get_len hg
      have hLl:=L_len (fr:=u.1) (to:=u.2.1) (inner:=v0.2)
      have hLi:=L_ins hfr hto hv4
      have hkp:=quick_kept F hne hfr hto hv4 (by omega) (by rw [← hv1];exact hle)
      have es:=watA_v hv (timV mn ss (u.1::(v0.2++[u.2.1])) [])
      have eb:=late_bit (vs:=timV mn ss (u.1::(v0.2++[u.2.1])) []) (getQs hkl)
      rw [← hu,hkp] at eb
      repeat' (first|with_reducible (first|apply pN|apply cN|apply bN|apply cE|apply cR|apply bR|apply lE|apply lR|apply jE|apply jR)|refine zE ?_|refine zP ?_|refine zS ?_|refine zO ?_|refine zB ?_|refine zX ?_|refine zT ?_|refine skipI rfl ?_)
      refine zR ?_
      repeat' (first|with_reducible refine pN ?_|refine pD ?_|refine pC (by omega) ?_)
      repeat with_reducible refine cN ?_
      simp only [hkk,← hu]
      repeat' (first|with_reducible (first|apply pN|apply cN|apply bN|apply cE|apply cR|apply bR|apply lE|apply lR|apply jE|apply jR)|refine zE ?_|refine zP ?_|refine zS ?_|refine zO ?_|refine zB ?_|refine zX ?_|refine zT ?_|refine skipI rfl ?_)
      refine zR ?_
      repeat' (first|with_reducible refine pN ?_|refine pD ?_|fail)
      repeat with_reducible refine cN ?_
      rw [hg]
      simp only [Option.isSome_some,Option.getD_some]
      repeat' (first|with_reducible (first|apply pN|apply cN|apply bN|apply cE|apply cR|apply bR|apply lE|apply lR|apply jE|apply jR)|refine zE ?_|refine zP ?_|refine zS ?_|refine zO ?_|refine zB ?_|refine zX ?_|refine zT ?_|refine skipI rfl ?_)
      refine zR ?_
      repeat' (first|with_reducible refine pN ?_|refine pD ?_|refine pC (by (simp only [List.length_cons,List.length_nil];omega)) ?_)
      repeat with_reducible refine cN ?_
      rw [show [u.1]++v0.2=u.1::v0.2 from rfl]
      repeat' (first|with_reducible refine cN ?_|refine zS ?_|fail)
      refine regH [(81,false)] rfl ?_
      rw [show u.1::v0.2++[u.2.1]=u.1::(v0.2++[u.2.1]) from rfl,es,eb]
      repeat' (first|with_reducible refine pN ?_|refine pC (by first|exact True.intro|rfl|exact ⟨⟨hv,hLi⟩,by omega⟩|(simp only [List.length_cons,List.length_nil];omega)) ?_)
      repeat' (first|with_reducible (first|apply pN|apply cN|apply bN|apply cE|apply cR|apply bR|apply lE|apply lR|apply jE|apply jR)|refine zE ?_|refine zP ?_|refine pD ?_|refine zS ?_|refine zR ?_|refine zO ?_|refine zB ?_|refine zX ?_|refine zT ?_|refine skipI rfl ?_)
      refine condI rfl (fun c4=>?_) (fun c4=>?_)
      · exact absurd c4 (by decide)
      repeat' (first|with_reducible (first|apply pN|apply cN|apply bN|apply cE|apply cR|apply bR|apply lE|apply lR|apply jE|apply jR)|refine zE ?_|refine zP ?_|refine pD ?_|refine zS ?_|refine zR ?_|refine zO ?_|refine zB ?_|refine zX ?_|refine zT ?_|refine skipI rfl ?_)
      refine roundI (k+1) rfl ?_ ?_ ?_
      · show k+1≤ws.length
        omega
      · show ws.length - (k+1) < ws.length - k
        omega
      · repeat' (first|exact trivial|with_reducible exact rfl|refine And.intro ?_ ?_)
        all_goals rfl
    · repeat' (first|with_reducible (first|apply pN|apply cN|apply bN|apply cE|apply cR|apply bR|apply lE|apply lR|apply jE|apply jR)|refine zE ?_|refine zP ?_|refine pD ?_|refine zS ?_|refine zR ?_|refine zO ?_|refine zB ?_|refine zX ?_|refine zT ?_|refine skipI rfl ?_)
      refine endR rfl ?_
      repeat' (first|exact trivial|exact rfl|refine ⟨rfl,?_⟩|refine And.intro ?_ ?_)
  · rw [h1]
    dsimp only
    obtain ⟨i0,hi0,he0⟩:=mem_getI (d:=tWin.dflt) hw0
    have hrw:=F.wn i0 hi0
    rw [he0] at hrw
    unfold rwF at hrw
    simp only [Bool.and_eq_true,inW_iff] at hrw
    have hfr:0≤w0.1∧w0.1 < (ss.length:Int):=by omega
    have hto:0≤w0.2.1∧w0.2.1 < (ss.length:Int):=by omega
    have hfw:=follow_is hv (s:=w0.1) hfr
    have hno:=fun s hs=>noway hv hfr hto hg (s:=s) hs
    have hnl:=(F.st _ (fl_mem (d:=tStep.dflt) (show w0.1.toNat < ss.length by omega))).nl
    have hal:=aftL_len (l:=stNx (getI ss tStep.dflt w0.1.toNat)) (b:=stBk (getI ss tStep.dflt w0.1.toNat))
    have hal:(afterL (stp ss w0.1.toNat)).length≤5:=Nat.le_trans hal (by omega)
    repeat' (first|with_reducible (first|apply pN|apply cN|apply bN|apply cE|apply cR|apply bR|apply lE|apply lR|apply jE|apply jR)|refine zE ?_|refine zP ?_|refine pD ?_|refine zS ?_|refine zR ?_|refine zO ?_|refine zB ?_|refine zX ?_|refine zT ?_|refine skipI rfl ?_)
    refine condI rfl (fun c1=>?_) (fun c1=>?_)
    · repeat' (first|with_reducible (first|apply pN|apply cN|apply bN|apply cE|apply cR|apply bR|apply lE|apply lR|apply jE|apply jR)|refine zE ?_|refine zP ?_|refine pD ?_|refine zS ?_|refine zR ?_|refine zO ?_|refine zB ?_|refine zX ?_|refine zT ?_|refine skipI rfl ?_)
      refine condI rfl (fun c2=>?_) (fun c2=>?_)
      · simp at c2
      repeat' (first|with_reducible (first|apply pN|apply cN|apply bN|apply cE|apply cR|apply bR|apply lE|apply lR|apply jE|apply jR)|refine zE ?_|refine zP ?_|refine zS ?_|refine zO ?_|refine zB ?_|refine zX ?_|refine zT ?_|refine skipI rfl ?_)
      refine zR ?_
      repeat' (first|with_reducible refine pN ?_|refine pD ?_|refine pC (by first|(first|omega|(simp only [List.length_cons,List.length_nil];omega))) ?_)
      repeat with_reducible refine cN ?_
      rw [show getI [w0.1,w0.2.1] (Ty.dflt tInt) (Int.toNat 0)=w0.1 from rfl,hfw]
      generalize afterL (stp ss w0.1.toNat)=fl at *
      repeat' (first|with_reducible (first|apply pN|apply cN|apply bN|apply cE|apply cR|apply bR|apply lE|apply lR|apply jE|apply jR)|refine zE ?_|refine zP ?_|refine pD ?_|refine zS ?_|refine zR ?_|refine zO ?_|refine zB ?_|refine zX ?_|refine zT ?_|refine skipI rfl ?_)
      refine loopI (σ:=Nat) (fun i=>[(7,.int .i64 i)]) (fun i=>[]) (fun i=>i≤List.length (α:=Int) fl) (fun i=>List.length (α:=Int) fl - i) 0 rfl (fun _=>rfl) rfl ?_ ?_ ?_
      · exact Nat.zero_le _
      · repeat' (first|exact trivial|with_reducible exact rfl|refine And.intro ?_ ?_)
        all_goals rfl
      intro i hi
      repeat' (first|with_reducible (first|apply pN|apply cN|apply bN|apply cE|apply cR|apply bR|apply lE|apply lR|apply jE|apply jR)|refine zE ?_|refine zP ?_|refine pD ?_|refine zS ?_|refine zR ?_|refine zO ?_|refine zB ?_|refine zX ?_|refine zT ?_|refine skipI rfl ?_)
      refine condI rfl (fun c3=>?_) (fun c3=>?_)
      · simp only [decide_eq_true_eq] at c3
        have hil:i < List.length (α:=Int) fl:=by omega
        have hii:((i:Int)).toNat=i:=by omega
        have hn:=hno _ (fl_mem (d:=(0:Int)) hil)
        repeat' (first|with_reducible (first|apply pN|apply cN|apply bN|apply cE|apply cR|apply bR|apply lE|apply lR|apply jE|apply jR)|refine zE ?_|refine zP ?_|refine zS ?_|refine zO ?_|refine zB ?_|refine zX ?_|refine zT ?_|refine skipI rfl ?_)
        refine zR ?_
        repeat' (first|with_reducible refine pN ?_|refine pD ?_|refine pC (by first|(first|omega|(simp only [List.length_cons,List.length_nil];omega))) ?_)
        repeat with_reducible refine cN ?_
        simp only [hii]
        rw [show getI [w0.1,w0.2.1] (Ty.dflt tInt) (Int.toNat 1)=w0.2.1 from rfl,show hasI (reachF mn mx ss ws (getI fl (Ty.dflt tInt) i)) w0.2.1=false from hn]
        repeat' (first|with_reducible (first|apply pN|apply cN|apply bN|apply cE|apply cR|apply bR|apply lE|apply lR|apply jE|apply jR)|refine zE ?_|refine zP ?_|refine pD ?_|refine zS ?_|refine zR ?_|refine zO ?_|refine zB ?_|refine zX ?_|refine zT ?_|refine skipI rfl ?_)
        refine condI rfl (fun c4=>?_) (fun c4=>?_)
        · exact absurd c4 (by decide)
        repeat' (first|with_reducible (first|apply pN|apply cN|apply bN|apply cE|apply cR|apply bR|apply lE|apply lR|apply jE|apply jR)|refine zE ?_|refine zP ?_|refine pD ?_|refine zS ?_|refine zR ?_|refine zO ?_|refine zB ?_|refine zX ?_|refine zT ?_|refine skipI rfl ?_)
        refine roundI (i+1) rfl ?_ ?_ ?_
        · show i+1≤List.length (α:=Int) fl
          omega
        · show List.length (α:=Int) fl - (i+1) < List.length (α:=Int) fl - i
          omega
        · repeat' (first|exact trivial|with_reducible exact rfl|refine And.intro ?_ ?_)
          all_goals rfl
      · repeat' (first|with_reducible (first|apply pN|apply cN|apply bN|apply cE|apply cR|apply bR|apply lE|apply lR|apply jE|apply jR)|refine zE ?_|refine zP ?_|refine pD ?_|refine zS ?_|refine zR ?_|refine zO ?_|refine zB ?_|refine zX ?_|refine zT ?_|refine skipI rfl ?_)
        refine endR rfl ?_
        repeat' (first|exact trivial|exact rfl|refine ⟨rfl,?_⟩|refine And.intro ?_ ?_)
    · exact absurd c1 (by decide)
  · rw [h1]
    dsimp only
    repeat' (first|with_reducible (first|apply pN|apply cN|apply bN|apply cE|apply cR|apply bR|apply lE|apply lR|apply jE|apply jR)|refine zE ?_|refine zP ?_|refine pD ?_|refine zS ?_|refine zR ?_|refine zO ?_|refine zB ?_|refine zX ?_|refine zT ?_|refine skipI rfl ?_)
    refine condI rfl (fun c1=>?_) (fun c1=>?_)
    · exact absurd c1 (by decide)
    repeat' (first|with_reducible (first|apply pN|apply cN|apply bN|apply cE|apply cR|apply bR|apply lE|apply lR|apply jE|apply jR)|refine zE ?_|refine zP ?_|refine pD ?_|refine zS ?_|refine zR ?_|refine zO ?_|refine zB ?_|refine zX ?_|refine zT ?_|refine skipI rfl ?_)
    refine condI rfl (fun c2=>?_) (fun c2=>?_)
    · repeat' (first|with_reducible (first|apply pN|apply cN|apply bN|apply cE|apply cR|apply bR|apply lE|apply lR|apply jE|apply jR)|refine zE ?_|refine zP ?_|refine pD ?_|refine zS ?_|refine zR ?_|refine zO ?_|refine zB ?_|refine zX ?_|refine zT ?_|refine skipI rfl ?_)
      refine endR rfl ?_
      repeat' (first|exact trivial|exact rfl|refine ⟨rfl,?_⟩|refine And.intro ?_ ?_)
    · exact absurd c2 (by decide)
end Go.AM.Ytdohkcddjoammaa.Fl
