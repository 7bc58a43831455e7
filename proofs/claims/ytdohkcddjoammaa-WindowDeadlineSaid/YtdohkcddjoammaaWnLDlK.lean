/- The law WindowDeadline: her function. -/
import Derived.Test.YtdohkcddjoammaaWnLShK
set_option linter.all false
namespace Go.AM.Ytdohkcddjoammaa.Fl
open Go.Proofs
set_option maxRecDepth 100000
set_option maxHeartbeats 4000000
theorem see_en {w:WatT} {v:VisT} {B:Int} (h:w.2.1≤B) (h2:v.2.2.2≤B):(stepV w v).2.1≤B:=by
  unfold stepV
  cases timeB v.2.2.1&&timeB v.2.2.2
  · exact h
  · show (seeF w v).2.1≤B
    unfold seeF
    cases decide (v.1=w.1.2.1) <;> cases decide (v.1=w.1.1) <;> first|exact h|exact h2
theorem fold_en {B:Int}:∀ {vs:List VisT} {w:WatT},w.2.1≤B→(∀ v∈vs,v.2.2.2≤B)→(vs.foldl stepV w).2.1≤B
  | [],_,h,_=>h
  | v::vs,w,h,h2=>fold_en (vs:=vs) (see_en h (h2 v (by simp))) (fun u hu=>h2 u (by simp [hu]))
theorem getQ {ws:List WinT} {k:Nat} (h:k < ws.length):ws[k]?=some (getI ws tWin.dflt k):=by
  rw [List.getElem?_eq_getElem h]
  simp [getI,List.getD,List.getElem?_eq_getElem h]
def dlS:Spec:=plain fun
  | [.agg [.sl (.pair (.int .i64) (.pair (.int .i64) (.pair (.int .i64) (.pair (.int .i64) (.pair (.int .i64) (.int .i64)))))) x,.sl (.pair (.int .i64) (.pair (.int .i64) (.int .i64))) w,.sl (.pair (.int .i64) (.pair (.int .i64) (.int .i64))) v,.int .i64 a,.int .i64 b,.int .i64 c],.int .i64 d,.int .i64 e]=>outV True (.bool true)
  | _=>none
theorem dlOk:SpecSound Try.prog 4 dlS:=by
  refine soundP (envOf sigShOk) Try.func4 (c:=body Try.f4) rfl (by kernel_rfl) rfl ?_
  intro args out hf hpre
  split at hf <;> try (cases hf;done)
  rename_i x w v a b c d e
  cases hf
  refine ⟨Nat.le_of_ble_eq_true rfl,initI (args:=[.agg [.sl tS6 x,.sl tS3 w,.sl tS3 v,.int .i64 a,.int .i64 b,.int .i64 c],.int .i64 d,.int .i64 e]) rfl ?_⟩
  have hl:=c_len (x:=x) (c:=c)
  have hv:=c_valid (x:=x) (w:=w) (c:=c)
  have hlim:=c_lim (x:=x) (w:=w) (c:=c)
  have hbe:=pick_b (c:=e) (n:=41) (by omega)
  repeat' (first|with_reducible (first|apply pN|apply cN|apply bN|apply cE|apply cR|apply bR|apply lE|apply lR|apply jE|apply jR)|refine zE ?_|refine zP ?_|refine zS ?_|refine zO ?_|refine zB ?_|refine zX ?_|refine zT ?_|refine skipI rfl ?_)
  refine zR ?_
  repeat' (first|with_reducible refine pN ?_|refine pD ?_|fail)
  repeat with_reducible refine cN ?_
  repeat' (first|with_reducible (first|apply pN|apply cN|apply bN|apply cE|apply cR|apply bR|apply lE|apply lR|apply jE|apply jR)|refine zE ?_|refine zP ?_|refine zS ?_|refine zO ?_|refine zB ?_|refine zX ?_|refine zT ?_|refine skipI rfl ?_)
  refine zR ?_
  repeat' (first|with_reducible refine pN ?_|refine pD ?_|fail)
  repeat with_reducible refine cN ?_
  repeat' (first|with_reducible (first|apply pN|apply cN|apply bN|apply cE|apply cR|apply bR|apply lE|apply lR|apply jE|apply jR)|refine zE ?_|refine zP ?_|refine zS ?_|refine zO ?_|refine zB ?_|refine zX ?_|refine zT ?_|refine skipI rfl ?_)
  refine zR ?_
  repeat' (first|with_reducible refine pN ?_|refine pD ?_|fail)
  repeat with_reducible refine cN ?_
  generalize cMn x c=mn at *
  generalize cMx x c=mx at *
  generalize cSs x c=ss at *
  generalize cWs x w c=ws at *
  have hin:=visF_in (n:=(ss.length:Int)) (v:=v) (b:=1000) (by omega) (by omega)
  have hlen:=visF_len (n:=(ss.length:Int)) (v:=v)
  have hwl:=(flow_sm hv).wl
  repeat' (first|with_reducible (first|apply pN|apply cN|apply bN|apply cE|apply cR|apply bR|apply lE|apply lR|apply jE|apply jR)|refine zE ?_|refine zP ?_|refine zS ?_|refine zO ?_|refine zB ?_|refine zX ?_|refine zT ?_|refine skipI rfl ?_)
  refine zR ?_
  repeat' (first|with_reducible refine pN ?_|refine pD ?_|refine pC (by exact ⟨hl.1,by omega⟩) ?_)
  repeat with_reducible refine cN ?_
  generalize visF (ss.length:Int) v=l at *
  have e1:=watA_v hv l
  refine freezeI (key 30 0) rfl ?_
  repeat' (first|with_reducible (first|apply pN|apply cN|apply bN|apply cE|apply cR|apply bR|apply lE|apply lR|apply jE|apply jR)|refine zE ?_|refine zP ?_|refine zS ?_|refine zO ?_|refine zB ?_|refine zX ?_|refine zT ?_|refine skipI rfl ?_)
  refine zR ?_
  repeat' (first|with_reducible refine pN ?_|refine pD ?_|fail)
  repeat with_reducible refine cN ?_
  rw [e1]
  have hq:=openQ_len (q:=watL l 0 ws)
  have hq2:(watL l 0 ws).length=ws.length:=watL_len
  obtain ⟨q,hqq⟩:∃ q,q=openQ (watL l 0 ws):=⟨_,rfl⟩
  rw [← hqq] at hq ⊢
  repeat' (first|with_reducible (first|apply pN|apply cN|apply bN|apply cE|apply cR|apply bR|apply lE|apply lR|apply jE|apply jR)|refine zE ?_|refine zP ?_|refine pD ?_|refine zS ?_|refine zR ?_|refine zO ?_|refine zB ?_|refine zX ?_|refine zT ?_|refine skipI rfl ?_)
  refine condI rfl (fun c1=>?_) (fun c1=>?_)
  · repeat' (first|with_reducible (first|apply pN|apply cN|apply bN|apply cE|apply cR|apply bR|apply lE|apply lR|apply jE|apply jR)|refine zE ?_|refine zP ?_|refine pD ?_|refine zS ?_|refine zR ?_|refine zO ?_|refine zB ?_|refine zX ?_|refine zT ?_|refine skipI rfl ?_)
    refine endR rfl ?_
    repeat' (first|exact trivial|exact rfl|refine ⟨rfl,?_⟩|refine And.intro ?_ ?_)
  · have h0:0 < List.length (α:=Int × Int) q:=by simp at c1;exact List.length_pos_iff.2 c1
    have hp:=pick_b (c:=d) (n:=(List.length (α:=Int × Int) q:Int)) (by omega)
    obtain ⟨i,hi⟩:∃ i:Nat,pickF d (List.length (α:=Int × Int) q:Int)=(i:Int):=⟨(pickF d (List.length (α:=Int × Int) q:Int)).toNat,by omega⟩
    have hii:((i:Int)).toNat=i:=by omega
    rw [hi] at hp
    have hmem:getI q tDue.dflt i∈openQ (watL l 0 ws):=by rw [← hqq];exact fl_mem (by omega)
    obtain ⟨kk,xx,h1,h2,h3⟩:=open_iff.1 hmem
    rw [Nat.zero_add] at h2
    have hkl:kk < ws.length:=(List.getElem?_eq_some_iff.1 h1).1
    have hxx:getI ws tWin.dflt kk=xx:=by simp [getI,List.getD,h1]
    have hxl:=hlim xx (by rw [← hxx];exact fl_mem hkl)
    have hen:(watF xx l).2.1≤999000:=fold_en (by show (0:Int)≤999000;omega) (fun u hu=>by have:=(hin u hu).2.2;omega)
    have hwk:WatOk (watF xx l):=foldV_ok ⟨⟨Int.le_refl _,(by decide:(0:Int)≤1000000)⟩,hxl.1,by have:=hxl.2;show xx.2.2≤1000000;omega⟩
    have hen0:=hwk.1.1
    generalize (watF xx l).2.1=en at *
    repeat' (first|with_reducible (first|apply pN|apply cN|apply bN|apply cE|apply cR|apply bR|apply lE|apply lR|apply jE|apply jR)|refine zE ?_|refine zP ?_|refine zS ?_|refine zO ?_|refine zB ?_|refine zX ?_|refine zT ?_|refine skipI rfl ?_)
    refine zR ?_
    repeat' (first|with_reducible refine pN ?_|refine pD ?_|refine pC (by omega) ?_)
    repeat with_reducible refine cN ?_
    simp only [hi,hii,h2]
    have hkk:((kk:Int)).toNat=kk:=by omega
    repeat' (first|with_reducible (first|apply pN|apply cN|apply bN|apply cE|apply cR|apply bR|apply lE|apply lR|apply jE|apply jR)|refine zE ?_|refine zP ?_|refine pD ?_|refine zS ?_|refine zR ?_|refine zO ?_|refine zB ?_|refine zX ?_|refine zT ?_|refine skipI rfl ?_)
    refine condI rfl (fun c2=>?_) (fun c2=>?_)
    · have c2:=Bool.or_eq_true_iff.1 c2
      rcases c2 with h|h
      · have h:=of_decide_eq_true h;omega
      · have h:=of_decide_eq_true h
        have h:(ws.length:Int)≤(kk:Int):=h
        omega
    repeat' (first|with_reducible (first|apply pN|apply cN|apply bN|apply cE|apply cR|apply bR|apply lE|apply lR|apply jE|apply jR)|refine zE ?_|refine zP ?_|refine zS ?_|refine zO ?_|refine zB ?_|refine zX ?_|refine zT ?_|refine skipI rfl ?_)
    refine zR ?_
    repeat' (first|with_reducible refine pN ?_|refine pD ?_|fail)
    repeat with_reducible refine cN ?_
    simp only [hkk,hxx]
    repeat' (first|with_reducible (first|apply pN|apply cN|apply bN|apply cE|apply cR|apply bR|apply lE|apply lR|apply jE|apply jR)|refine zE ?_|refine zP ?_|refine zS ?_|refine zO ?_|refine zB ?_|refine zX ?_|refine zT ?_|refine skipI rfl ?_)
    refine zR ?_
    repeat' (first|with_reducible refine pN ?_|refine pD ?_|refine pC (by first|(first|omega|(unfold In64;omega))) ?_)
    repeat with_reducible refine cN ?_
    obtain ⟨st,hst⟩:∃ st:Int,st=max 0 (en+xx.2.2+pickF e 41 - 20):=⟨_,rfl⟩
    rw [← hst]
    have hs0:0≤st:=by omega
    have hs1:st+1≤1000000:=by omega
    clear hst
    repeat' (first|with_reducible (first|apply pN|apply cN|apply bN|apply cE|apply cR|apply bR|apply lE|apply lR|apply jE|apply jR)|refine zE ?_|refine zP ?_|refine zS ?_|refine zO ?_|refine zB ?_|refine zX ?_|refine zT ?_|refine skipI rfl ?_)
    refine zR ?_
    repeat' (first|with_reducible refine pN ?_|refine pD ?_|fail)
    repeat with_reducible refine cN ?_
    rw [e1]
    repeat' (first|with_reducible (first|apply pN|apply cN|apply bN|apply cE|apply cR|apply bR|apply lE|apply lR|apply jE|apply jR)|refine zE ?_|refine zP ?_|refine zS ?_|refine zO ?_|refine zB ?_|refine zX ?_|refine zT ?_|refine skipI rfl ?_)
    refine zR ?_
    repeat' (first|with_reducible refine pN ?_|refine pD ?_|refine pC (by first|(first|omega|(unfold In64;omega)|(simp only [List.length_append,List.length_cons,List.length_nil,List.nil_append];omega))) ?_)
    repeat with_reducible refine cN ?_
    rw [List.nil_append]
    have em:=watA_v hv (l++[(xx.2.1,0,st,st+1)])
    have hnew:∀ k:Nat,k < ws.length→hasI (lateQ (watL (l++[(xx.2.1,0,st,st+1)]) 0 ws)) (k:Int)=(hasI (lateQ (watL l 0 ws)) (k:Int)||(decide (dueL q (k:Int) (decide ((getI ws tWin.dflt k).2.1=xx.2.1)) (List.length (α:=Int × Int) q)≥0)&&decide (st > dueL q (k:Int) (decide ((getI ws tWin.dflt k).2.1=xx.2.1)) (List.length (α:=Int × Int) q)))):=fun k hk=>by
      rw [hqq]
      exact dl_late (getQ hk) hs0 hs1 (win_lim (flow_sm hv) hk)
    have hstill:∀ dd∈openQ (watL (l++[(xx.2.1,0,st,st+1)]) 0 ws),dd.1≠(kk:Int):=dl_open h1 hs0 hs1
    have hsl:(openQ (watL (l++[(xx.2.1,0,st,st+1)]) 0 ws)).length≤20:=by
      refine Nat.le_trans openQ_len ?_
      rw [watL_len]
      exact hwl
    repeat' (first|with_reducible (first|apply pN|apply cN|apply bN|apply cE|apply cR|apply bR|apply lE|apply lR|apply jE|apply jR)|refine zE ?_|refine zP ?_|refine zS ?_|refine zO ?_|refine zB ?_|refine zX ?_|refine zT ?_|refine skipI rfl ?_)
    refine zR ?_
    repeat' (first|with_reducible refine pN ?_|refine pD ?_|fail)
    repeat with_reducible refine cN ?_
    repeat' (first|with_reducible (first|apply pN|apply cN|apply bN|apply cE|apply cR|apply bR|apply lE|apply lR|apply jE|apply jR)|refine zE ?_|refine zP ?_|refine zS ?_|refine zO ?_|refine zB ?_|refine zX ?_|refine zT ?_|refine skipI rfl ?_)
    refine zR ?_
    repeat' (first|with_reducible refine pN ?_|refine pD ?_|fail)
    repeat with_reducible refine cN ?_
    rw [em]
    generalize lateQ (watL (l++[(xx.2.1,0,st,st+1)]) 0 ws)=now at *
    generalize openQ (watL (l++[(xx.2.1,0,st,st+1)]) 0 ws)=still at *
    generalize lateQ (watL l 0 ws)=before at *
    repeat' (first|with_reducible (first|apply pN|apply cN|apply bN|apply cE|apply cR|apply bR|apply lE|apply lR|apply jE|apply jR)|refine zE ?_|refine zP ?_|refine pD ?_|refine zS ?_|refine zR ?_|refine zO ?_|refine zB ?_|refine zX ?_|refine zT ?_|refine skipI rfl ?_)
    refine loopI (σ:=Nat) (fun y=>[(18,.int .i64 y)]) (fun y=>[]) (fun y=>y≤List.length (α:=Int × Int) still) (fun y=>List.length (α:=Int × Int) still - y) 0 rfl (fun _=>rfl) rfl ?_ ?_ ?_
    · exact Nat.zero_le _
    · repeat' (first|exact trivial|with_reducible exact rfl|refine And.intro ?_ ?_)
      all_goals rfl
    intro y hy
    repeat' (first|with_reducible (first|apply pN|apply cN|apply bN|apply cE|apply cR|apply bR|apply lE|apply lR|apply jE|apply jR)|refine zE ?_|refine zP ?_|refine pD ?_|refine zS ?_|refine zR ?_|refine zO ?_|refine zB ?_|refine zX ?_|refine zT ?_|refine skipI rfl ?_)
    refine condI rfl (fun c3=>?_) (fun c3=>?_)
    · simp only [decide_eq_true_eq] at c3
      have hyl:y < List.length (α:=Int × Int) still:=by omega
      have hyy:((y:Int)).toNat=y:=by omega
      have hm:=hstill _ (fl_mem (d:=tDue.dflt) hyl)
      repeat' (first|with_reducible (first|apply pN|apply cN|apply bN|apply cE|apply cR|apply bR|apply lE|apply lR|apply jE|apply jR)|refine zE ?_|refine zP ?_|refine pD ?_|refine zS ?_|refine zR ?_|refine zO ?_|refine zB ?_|refine zX ?_|refine zT ?_|refine skipI rfl ?_)
      refine condI rfl (fun c4=>?_) (fun c4=>?_)
      · simp only [hyy] at c4
        have c4:=of_decide_eq_true c4
        exact absurd c4 hm
      · repeat' (first|with_reducible (first|apply pN|apply cN|apply bN|apply cE|apply cR|apply bR|apply lE|apply lR|apply jE|apply jR)|refine zE ?_|refine zP ?_|refine pD ?_|refine zS ?_|refine zR ?_|refine zO ?_|refine zB ?_|refine zX ?_|refine zT ?_|refine skipI rfl ?_)
        refine roundI (y+1) rfl ?_ ?_ ?_
        · show y+1≤List.length (α:=Int × Int) still
          omega
        · show List.length (α:=Int × Int) still - (y+1) < List.length (α:=Int × Int) still - y
          omega
        · repeat' (first|exact trivial|with_reducible exact rfl|refine And.intro ?_ ?_)
          all_goals rfl
    repeat' (first|with_reducible (first|apply pN|apply cN|apply bN|apply cE|apply cR|apply bR|apply lE|apply lR|apply jE|apply jR)|refine zE ?_|refine zP ?_|refine pD ?_|refine zS ?_|refine zR ?_|refine zO ?_|refine zB ?_|refine zX ?_|refine zT ?_|refine skipI rfl ?_)
    refine loopI (σ:=Nat) (fun k=>[(19,.int .i64 k)]) (fun k=>[]) (fun k=>k≤ws.length) (fun k=>ws.length - k) 0 rfl (fun _=>rfl) rfl ?_ ?_ ?_
    · exact Nat.zero_le _
    · repeat' (first|exact trivial|with_reducible exact rfl|refine And.intro ?_ ?_)
      all_goals rfl
    intro k hk
    repeat' (first|with_reducible (first|apply pN|apply cN|apply bN|apply cE|apply cR|apply bR|apply lE|apply lR|apply jE|apply jR)|refine zE ?_|refine zP ?_|refine pD ?_|refine zS ?_|refine zR ?_|refine zO ?_|refine zB ?_|refine zX ?_|refine zT ?_|refine skipI rfl ?_)
    refine condI rfl (fun c5=>?_) (fun c5=>?_)
    · simp only [decide_eq_true_eq] at c5
      have hkl:k < ws.length:=by omega
      have hkn:((k:Int)).toNat=k:=by omega
      have hn:=hnew k hkl
      repeat' (first|with_reducible (first|apply pN|apply cN|apply bN|apply cE|apply cR|apply bR|apply lE|apply lR|apply jE|apply jR)|refine zE ?_|refine zP ?_|refine pD ?_|refine zS ?_|refine zR ?_|refine zO ?_|refine zB ?_|refine zX ?_|refine zT ?_|refine skipI rfl ?_)
      refine loopI (σ:=Nat) (fun n=>[(22,.int .i64 (dueL q (k:Int) (decide ((getI ws tWin.dflt k).2.1=xx.2.1)) n)),(23,.int .i64 n)]) (fun n=>[]) (fun n=>n≤List.length (α:=Int × Int) q) (fun n=>List.length (α:=Int × Int) q - n) 0 rfl (fun _=>rfl) rfl ?_ ?_ ?_
      · exact Nat.zero_le _
      · repeat' (first|exact trivial|with_reducible exact rfl|refine And.intro ?_ ?_)
        all_goals rfl
      intro n hnl
      repeat' (first|with_reducible (first|apply pN|apply cN|apply bN|apply cE|apply cR|apply bR|apply lE|apply lR|apply jE|apply jR)|refine zE ?_|refine zP ?_|refine pD ?_|refine zS ?_|refine zR ?_|refine zO ?_|refine zB ?_|refine zX ?_|refine zT ?_|refine skipI rfl ?_)
      refine condI rfl (fun c6=>?_) (fun c6=>?_)
      · simp only [decide_eq_true_eq] at c6
        have hnq:n < List.length (α:=Int × Int) q:=by omega
        have hnn:((n:Int)).toNat=n:=by omega
        have hst2:dueL q (k:Int) (decide ((getI ws tWin.dflt k).2.1=xx.2.1)) (n+1)=bif decide ((getI q tDue.dflt n).1=(k:Int))&&decide ((getI ws tWin.dflt k).2.1=xx.2.1) then (getI q tDue.dflt n).2 else dueL q (k:Int) (decide ((getI ws tWin.dflt k).2.1=xx.2.1)) n:=rfl
        repeat' (first|with_reducible (first|apply pN|apply cN|apply bN|apply cE|apply cR|apply bR|apply lE|apply lR|apply jE|apply jR)|refine zE ?_|refine zP ?_|refine pD ?_|refine zS ?_|refine zR ?_|refine zO ?_|refine zB ?_|refine zX ?_|refine zT ?_|refine skipI rfl ?_)
        simp only [hnn,hkn]
        refine condI rfl (fun c7=>?_) (fun c7=>?_)
        · have c7:(decide ((getI q tDue.dflt n).1=(k:Int))&&decide ((getI ws tWin.dflt k).2.1=xx.2.1))=true:=c7
          rw [c7] at hst2
          repeat' (first|with_reducible (first|apply pN|apply cN|apply bN|apply cE|apply cR|apply bR|apply lE|apply lR|apply jE|apply jR)|refine zE ?_|refine zP ?_|refine pD ?_|refine zS ?_|refine zR ?_|refine zO ?_|refine zB ?_|refine zX ?_|refine zT ?_|refine skipI rfl ?_)
          refine roundI (n+1) rfl ?_ ?_ ?_
          · show n+1≤List.length (α:=Int × Int) q
            omega
          · show List.length (α:=Int × Int) q - (n+1) < List.length (α:=Int × Int) q - n
            omega
          · repeat' (first|exact trivial|with_reducible exact rfl|refine And.intro ?_ ?_)
            all_goals (first|rfl|(simp only [hnn];exact hst2))
        · have c7:(decide ((getI q tDue.dflt n).1=(k:Int))&&decide ((getI ws tWin.dflt k).2.1=xx.2.1))=false:=c7
          rw [c7] at hst2
          repeat' (first|with_reducible (first|apply pN|apply cN|apply bN|apply cE|apply cR|apply bR|apply lE|apply lR|apply jE|apply jR)|refine zE ?_|refine zP ?_|refine pD ?_|refine zS ?_|refine zR ?_|refine zO ?_|refine zB ?_|refine zX ?_|refine zT ?_|refine skipI rfl ?_)
          refine roundI (n+1) rfl ?_ ?_ ?_
          · show n+1≤List.length (α:=Int × Int) q
            omega
          · show List.length (α:=Int × Int) q - (n+1) < List.length (α:=Int × Int) q - n
            omega
          · repeat' (first|exact trivial|with_reducible exact rfl|refine And.intro ?_ ?_)
            all_goals (first|rfl|exact hst2)
      · simp only [decide_eq_false_iff_not] at c6
        obtain rfl:n=List.length (α:=Int × Int) q:=by omega
        repeat' (first|with_reducible (first|apply pN|apply cN|apply bN|apply cE|apply cR|apply bR|apply lE|apply lR|apply jE|apply jR)|refine zE ?_|refine zP ?_|refine pD ?_|refine zS ?_|refine zR ?_|refine zO ?_|refine zB ?_|refine zX ?_|refine zT ?_|refine skipI rfl ?_)
        refine condI rfl (fun c8=>?_) (fun c8=>?_)
        · have c8:(!(hasI now (k:Int) == (hasI before (k:Int)||(decide (dueL q (k:Int) (decide ((getI ws tWin.dflt k).2.1=xx.2.1)) (List.length (α:=Int × Int) q)≥0)&&decide (st > dueL q (k:Int) (decide ((getI ws tWin.dflt k).2.1=xx.2.1)) (List.length (α:=Int × Int) q))))))=true:=c8
          rw [← hn,beq_self_eq_true] at c8
          cases c8
        · repeat' (first|with_reducible (first|apply pN|apply cN|apply bN|apply cE|apply cR|apply bR|apply lE|apply lR|apply jE|apply jR)|refine zE ?_|refine zP ?_|refine pD ?_|refine zS ?_|refine zR ?_|refine zO ?_|refine zB ?_|refine zX ?_|refine zT ?_|refine skipI rfl ?_)
          refine roundI (k+1) rfl ?_ ?_ ?_
          · show k+1≤ws.length
            omega
          · show ws.length - (k+1) < ws.length - k
            omega
          · repeat' (first|exact trivial|with_reducible exact rfl|refine And.intro ?_ ?_)
            all_goals rfl
    · repeat' (first|with_reducible (first|apply pN|apply cN|apply bN|apply cE|apply cR|apply bR|apply lE|apply lR|apply jE|apply jR)|refine zE ?_|refine zP ?_|refine pD ?_|refine zS ?_|refine zR ?_|refine zO ?_|refine zB ?_|refine zX ?_|refine zT ?_|refine skipI rfl ?_)
      refine endR rfl ?_
      repeat' (first|exact trivial|exact rfl|refine ⟨rfl,?_⟩|refine And.intro ?_ ?_)
end Go.AM.Ytdohkcddjoammaa.Fl
