/- WnF. -/
import Derived.Test.YtdohkcddjoammaaPw28

section
set_option linter.all false
namespace Go.AM.Ytdohkcddjoammaa.Fl
open Go.Proofs
set_option maxRecDepth 100000
set_option maxHeartbeats 4000000
theorem pick5Ok:SpecSound Try.prog 41 pickP:=by
  refine soundP (envOf sigNil) Try.func41 (c:=body Try.f41) rfl (by kernel_rfl) rfl ?_
  intro args out hf hpre
  split at hf <;> try (cases hf;done)
  rename_i c n
  cases hf
  refine ⟨Nat.le_of_ble_eq_true rfl,initI rfl ?_⟩
  refine factInt (t:=0) rfl (fun hc=>?_)
  have hc:=wrap64 hc
  change 0 < n at hpre
  repeat' (first|with_reducible (first|apply pN|apply cN|apply bN|apply cE|apply cR|apply bR|apply lE|apply lR|apply jE|apply jR)|refine zE ?_|refine zP ?_|refine pD ?_|refine zS ?_|refine zR ?_|refine zO ?_|refine zB ?_|refine zX ?_|refine zT ?_|refine skipI rfl ?_)
  refine condI rfl (fun c1=>?_) (fun c1=>?_)
  · simp only [decide_eq_true_eq] at c1
    repeat' (first|with_reducible (first|apply pN|apply cN|apply bN|apply cE|apply cR|apply bR|apply lE|apply lR|apply jE|apply jR)|refine zE ?_|refine zP ?_|refine pD ?_|refine zS ?_|refine zR ?_|refine zO ?_|refine zB ?_|refine zX ?_|refine zT ?_|refine skipI rfl ?_)
    refine endR rfl ?_
    repeat' (first|exact trivial|exact rfl|refine ⟨rfl,?_⟩|refine And.intro ?_ ?_)
    exact pickF_neg hpre c1
  · simp only [decide_eq_false_iff_not] at c1
    repeat' (first|with_reducible (first|apply pN|apply cN|apply bN|apply cE|apply cR|apply bR|apply lE|apply lR|apply jE|apply jR)|refine zE ?_|refine zP ?_|refine pD ?_|refine zS ?_|refine zR ?_|refine zO ?_|refine zB ?_|refine zX ?_|refine zT ?_|refine skipI rfl ?_)
    refine endR rfl ?_
    repeat' (first|exact trivial|exact rfl|refine ⟨rfl,?_⟩|refine And.intro ?_ ?_)
    exact pickF_pos hpre c1
def shrF (a:Int) (k:Nat):Int:=a.fdiv (2 ^ (min ((k:Int)).toNat 64))
def laterB (i:Nat) (y:Int6) (k:Nat):Bool :=
  ((decide ((k:Int)=(i:Int)+1)&&decide (pickF y.2.2.1 8 > 0))||(decide ((k:Int) > (i:Int)+1)&&decide (pickF (shrF y.2.2.1 k) 4=0)))||(decide ((k:Int)≤(i:Int))&&decide (pickF (shrF y.2.2.1 k) 41=0))
def gdNx (i:Nat) (y:Int6):Nat→List Int
  | 0=>[]
  | k+1=>bif laterB i y k&&decide (((gdNx i y k).length:Int) < 4) then gdNx i y k++[(k:Int)] else gdNx i y k
theorem gdNx_len {i:Nat} {y:Int6}:∀ {k:Nat},(gdNx i y k).length≤k
  | 0=>Nat.le_refl _
  | k+1=>by
    unfold gdNx
    have:=gdNx_len (i:=i) (y:=y) (k:=k)
    cases laterB i y k&&decide (((gdNx i y k).length:Int) < 4)
    · show (gdNx i y k).length≤k+1
      omega
    · show (gdNx i y k++[(k:Int)]).length≤k+1
      simp
      exact this
def gdBk (n:Int) (y:Int6):Int × Int:=bif decide (pickF y.2.2.2.1 3=0) then (pickF (y.2.2.2.1.tdiv 3) n,1+pickF y.2.2.2.2.1 3) else (-1,0)
def gdS (n:Nat) (i:Nat) (y:Int6):StepT:=(1+pickF y.1 6,[pickF (y.1.tdiv 6) 5,5+pickF (y.1.tdiv 30) 5],1+pickF y.2.1 20,1+pickF y.2.1 20+pickF (y.2.1.tdiv 20) 15,gdNx i y n,(gdBk n y).1,(gdBk n y).2)
def gdAt (x:List Int6) (n i:Nat):StepT:=bif decide ((i:Int) < (x.length:Int)) then gdS n i (getI x tS6.dflt i) else (1+(i:Int),[(i:Int)],10,10,[],-1,0)
def gdN (x:List Int6):Nat:=max 1 (min x.length 10)
def gdSs (x:List Int6):List StepT:=(List.range (gdN x)).map (gdAt x (gdN x))
def gdTo (x:List Int6) (n:Nat) (i:Nat):Int:=pickF ((getI x tS6.dflt i).2.2.2.2.1.tdiv 3) n
def gdWs (x:List Int6) (n:Nat):Nat→List WinT
  | 0=>[]
  | i+1=>bif decide (gdTo x n i≠(i:Int))&&decide (pickF (getI x tS6.dflt i).2.2.2.2.1 2=0) then gdWs x n i++[((i:Int),gdTo x n i,pickF (getI x tS6.dflt i).2.2.2.2.2 120)] else gdWs x n i
theorem gdWs_len {x:List Int6} {n:Nat}:∀ {i:Nat},(gdWs x n i).length≤i
  | 0=>Nat.le_refl _
  | i+1=>by
    unfold gdWs
    have:=gdWs_len (x:=x) (n:=n) (i:=i)
    cases decide (gdTo x n i≠(i:Int))&&decide (pickF (getI x tS6.dflt i).2.2.2.2.1 2=0)
    · show (gdWs x n i).length≤i+1
      omega
    · show (gdWs x n i++[_]).length≤i+1
      simp
      exact this
def gdMv (x:List Int6):Int × Int:=bif decide ((x.length:Int) > 0) then (pickF (getI x tS6.dflt 0).2.2.2.2.2 7,pickF (getI x tS6.dflt 0).2.2.2.2.2 7+pickF ((getI x tS6.dflt 0).2.2.2.2.2.tdiv 7) 20) else (2,9)
def madeFS:Spec:=⟨true,fun args rows=>match args,rows with
  | [.sl (.pair (.int .i64) (.pair (.int .i64) (.pair (.int .i64) (.pair (.int .i64) (.pair (.int .i64) (.int .i64)))))) x],[] =>
    some ⟨True,.agg [.int .i64 (gdMv x).1,.int .i64 (gdMv x).2,.own 0,.own 1],[.seq tStep (gdSs x),.seq tWin (gdWs x (gdN x) (min x.length 10))],true⟩
  | _,_=>none⟩
def sigMd:List (Nat × Spec):=[(41,pickP)]
theorem sigMdOk:SigOk Try.prog (look sigMd):=sigCons sigNil Try.func41 (by kernel_rfl) (c:=body Try.f41) rfl pick5Ok
theorem pk64 (a b:Int):In64 (pickF a 7+pickF b 20):=by
  have h1:=pick_b (c:=a) (n:=7) (by omega)
  have h2:=pick_b (c:=b) (n:=20) (by omega)
  unfold In64
  omega
theorem madeFOk:SpecSound Try.prog 28 madeFS:=by
  refine soundR (envOf sigMdOk) Try.func28 (c:=body Try.f28) rfl (by kernel_rfl) rfl ?_
  intro args rows out hf hpre
  split at hf <;> try (cases hf;done)
  rename_i x
  cases hf
  refine ⟨Nat.le_of_ble_eq_true rfl,initI (args:=[.sl tS6 x]) (rows:=[]) rfl ?_⟩
  refine factSl (t:=0) (ty:=tS6) rfl (fun hxs=>?_)
  have hmx:List.length (α:=Int6) x≤9223372036854775807:=by have:=hxs.1;unfold maxLen at this;omega
  have bp:=fun (c n:Int) (h:0 < n)=>pick_b (c:=c) (n:=n) h
  repeat' (first|with_reducible (first|apply pN|apply cN|apply bN|apply cE|apply cR|apply bR|apply lE|apply lR|apply jE|apply jR)|refine zE ?_|refine zP ?_|refine pD ?_|refine zS ?_|refine zR ?_|refine zO ?_|refine zB ?_|refine zX ?_|refine zT ?_|refine skipI rfl ?_)
  have hn:max 1 (min ((List.length (α:=Int6) x:Nat):Int) 10)=((gdN x:Nat):Int):=by unfold gdN;omega
  have hn10:1≤gdN x∧gdN x≤10:=by unfold gdN;omega
  obtain ⟨n,hnn⟩:∃ n,n=gdN x:=⟨_,rfl⟩
  rw [← hnn] at hn hn10 ⊢
  simp only [hn]
  refine joinC (fun _:Int × Int=>[]) (fun mv=>[(4,.box [.int .i64 mv.1,.int .i64 mv.2,.nilsl,.nilsl])]) (fun mv=>mv=gdMv x) (fun _=>rfl) ?_ (fun mv hmv=>?_)
  · refine condI rfl (fun c1=>?_) (fun c1=>?_)
    · have c1:decide ((List.length (α:=Int6) x:Int) > 0)=true:=c1
      have hx0:0 < List.length (α:=Int6) x:=by simp only [decide_eq_true_eq] at c1;omega
      repeat' (first|with_reducible (first|apply pN|apply cN|apply bN|apply cE|apply cR|apply bR|apply lE|apply lR|apply jE|apply jR)|refine zE ?_|refine zP ?_|refine pD ?_|refine pC (by first|omega|(show (0:Int) < _;omega)|exact pk64 _ _) ?_|refine zS ?_|refine zR ?_|refine zO ?_|refine zB ?_|refine zX ?_|refine zT ?_|refine skipI rfl ?_)
      refine meetI (gdMv x) rfl rfl ?_
      repeat' (first|exact trivial|with_reducible exact rfl|refine And.intro ?_ ?_)
      all_goals (first|rfl|(unfold gdMv;rw [c1];rfl))
    · have c1:decide ((List.length (α:=Int6) x:Int) > 0)=false:=c1
      repeat' (first|with_reducible (first|apply pN|apply cN|apply bN|apply cE|apply cR|apply bR|apply lE|apply lR|apply jE|apply jR)|refine zE ?_|refine zP ?_|refine pD ?_|refine zS ?_|refine zR ?_|refine zO ?_|refine zB ?_|refine zX ?_|refine zT ?_|refine skipI rfl ?_)
      refine meetI (gdMv x) rfl rfl ?_
      repeat' (first|exact trivial|with_reducible exact rfl|refine And.intro ?_ ?_)
      all_goals (first|rfl|(unfold gdMv;rw [c1];rfl))
  rw [← hmv]
  repeat' (first|with_reducible (first|apply pN|apply cN|apply bN|apply cE|apply cR|apply bR|apply lE|apply lR|apply jE|apply jR)|refine zE ?_|refine zP ?_|refine pD ?_|refine zS ?_|refine zR ?_|refine zO ?_|refine zB ?_|refine zX ?_|refine zT ?_|refine skipI rfl ?_)
  refine loopI (σ:=Nat) (fun i=>[(5,.int .i64 i)]) (fun i=>[(4,.box [.int .i64 mv.1,.int .i64 mv.2,.own 3000,.nilsl]),(3000,.seq tStep ((List.range i).map (gdAt x n)))]) (fun i=>i≤n) (fun i=>n - i) 0 rfl (fun _=>rfl) rfl ?_ ?_ ?_
  · exact Nat.zero_le _
  · repeat' (first|exact trivial|with_reducible exact rfl|refine And.intro ?_ ?_)
    all_goals rfl
  intro i hi
  repeat' (first|with_reducible (first|apply pN|apply cN|apply bN|apply cE|apply cR|apply bR|apply lE|apply lR|apply jE|apply jR)|refine zE ?_|refine zP ?_|refine pD ?_|refine pC (by first|omega|(unfold In64;omega)) ?_|refine zS ?_|refine zR ?_|refine zO ?_|refine zB ?_|refine zX ?_|refine zT ?_|refine skipI rfl ?_)
  refine condI rfl (fun c2=>?_) (fun c2=>?_)
  · simp only [decide_eq_true_eq] at c2
    have hil:i < n:=by omega
    have hin:((i:Int)).toNat=i:=by omega
    repeat' (first|with_reducible (first|apply pN|apply cN|apply bN|apply cE|apply cR|apply bR|apply lE|apply lR|apply jE|apply jR)|refine zE ?_|refine zP ?_|refine pD ?_|refine pC (by first|omega|(unfold In64;omega)) ?_|refine zS ?_|refine zR ?_|refine zO ?_|refine zB ?_|refine zX ?_|refine zT ?_|refine skipI rfl ?_)
    refine joinC (fun _:StepT=>[]) (fun s=>[(6,.box [.int .i64 s.1,.own 3002,.int .i64 s.2.2.1,.int .i64 s.2.2.2.1,.own 3003,.int .i64 s.2.2.2.2.2.1,.int .i64 s.2.2.2.2.2.2]),(3002,.seq tInt s.2.1),(3003,.seq tInt s.2.2.2.2.1)]) (fun s=>s=gdAt x n i) (fun _=>rfl) ?_ (fun s hs=>?_)
    · refine condI rfl (fun c3=>?_) (fun c3=>?_)
      · have c3:decide ((i:Int) < (List.length (α:=Int6) x:Int))=true:=c3
        have hix:i < List.length (α:=Int6) x:=by simp only [decide_eq_true_eq] at c3;omega
        have hg:gdAt x n i=gdS n i (getI x tS6.dflt i):=by unfold gdAt;rw [c3];rfl
        obtain ⟨y,hy⟩:∃ y:Int6,y=getI x tS6.dflt i:=⟨_,rfl⟩
        rw [← hy] at hg
        have p1:=bp y.1 6 (by omega)
        have p2:=bp (y.1.tdiv 6) 5 (by omega)
        have p3:=bp (y.1.tdiv 30) 5 (by omega)
        have p4:=bp y.2.1 20 (by omega)
        have p5:=bp (y.2.1.tdiv 20) 15 (by omega)
        have p6:=bp y.2.2.1 8 (by omega)
        have p7:=bp y.2.2.2.1 3 (by omega)
        have p8:=bp (y.2.2.2.1.tdiv 3) n (by omega)
        have p9:=bp y.2.2.2.2.1 3 (by omega)
        repeat' (first|with_reducible (first|apply pN|apply cN|apply bN|apply cE|apply cR|apply bR|apply lE|apply lR|apply jE|apply jR)|refine zE ?_|refine zP ?_|refine zS ?_|refine zO ?_|refine zB ?_|refine zX ?_|refine zT ?_|refine skipI rfl ?_)
        refine zR ?_
        repeat' (first|with_reducible refine pN ?_|refine pD ?_|refine pC (by omega) ?_)
        repeat with_reducible refine cN ?_
        simp only [hin,← hy]
        repeat' (first|with_reducible (first|apply pN|apply cN|apply bN|apply cE|apply cR|apply bR|apply lE|apply lR|apply jE|apply jR)|refine zE ?_|refine zP ?_|refine pD ?_|refine pC (by first|omega|(unfold In64;omega)) ?_|refine zS ?_|refine zR ?_|refine zO ?_|refine zB ?_|refine zX ?_|refine zT ?_|refine skipI rfl ?_)
        refine loopI (σ:=Nat) (fun k=>[(8,.int .i64 k)]) (fun k=>[(6,.box [.int .i64 (1+pickF y.1 6),.own 3002,.int .i64 (1+pickF y.2.1 20),.int .i64 (1+pickF y.2.1 20+pickF (y.2.1.tdiv 20) 15),.own 3003,.int .i64 (-1),.int .i64 0]),(3002,.seq tInt [pickF (y.1.tdiv 6) 5,5+pickF (y.1.tdiv 30) 5]),(3003,.seq tInt (gdNx i y k))]) (fun k=>k≤n) (fun k=>n - k) 0 rfl (fun _=>rfl) rfl ?_ ?_ ?_
        · exact Nat.zero_le _
        · repeat' (first|exact trivial|with_reducible exact rfl|refine And.intro ?_ ?_)
          all_goals rfl
        intro k hk
        have hnl:=gdNx_len (i:=i) (y:=y) (k:=k)
        repeat' (first|with_reducible (first|apply pN|apply cN|apply bN|apply cE|apply cR|apply bR|apply lE|apply lR|apply jE|apply jR)|refine zE ?_|refine zP ?_|refine pD ?_|refine zS ?_|refine zR ?_|refine zO ?_|refine zB ?_|refine zX ?_|refine zT ?_|refine skipI rfl ?_)
        refine condI rfl (fun c4=>?_) (fun c4=>?_)
        · simp only [decide_eq_true_eq] at c4
          repeat' (first|with_reducible (first|apply pN|apply cN|apply bN|apply cE|apply cR|apply bR|apply lE|apply lR|apply jE|apply jR)|refine zE ?_|refine zP ?_|refine pD ?_|refine pC (by first|omega|(unfold In64;omega)|(intros;unfold In64;omega)|(intros;omega)) ?_|refine zS ?_|refine zR ?_|refine zO ?_|refine zB ?_|refine zX ?_|refine zT ?_|refine skipI rfl ?_)
          have hst:gdNx i y (k+1)=bif laterB i y k&&decide (((gdNx i y k).length:Int) < 4) then gdNx i y k++[(k:Int)] else gdNx i y k:=rfl
          refine condI rfl (fun c5=>?_) (fun c5=>?_)
          · have c5:(laterB i y k&&decide (((gdNx i y k).length:Int) < 4))=true:=c5
            rw [c5] at hst
            repeat' (first|with_reducible (first|apply pN|apply cN|apply bN|apply cE|apply cR|apply bR|apply lE|apply lR|apply jE|apply jR)|refine zE ?_|refine zP ?_|refine pD ?_|refine pC (by first|omega|(simp only [List.length_cons,List.length_nil];omega)) ?_|refine zS ?_|refine zR ?_|refine zO ?_|refine zB ?_|refine zX ?_|refine zT ?_|refine skipI rfl ?_)
            refine roundI (k+1) rfl ?_ ?_ ?_
            · show k+1≤n
              omega
            · show n - (k+1) < n - k
              omega
            · repeat' (first|exact trivial|with_reducible exact rfl|refine And.intro ?_ ?_)
              all_goals (first|rfl|exact hst)
          · have c5:(laterB i y k&&decide (((gdNx i y k).length:Int) < 4))=false:=c5
            rw [c5] at hst
            repeat' (first|with_reducible (first|apply pN|apply cN|apply bN|apply cE|apply cR|apply bR|apply lE|apply lR|apply jE|apply jR)|refine zE ?_|refine zP ?_|refine pD ?_|refine zS ?_|refine zR ?_|refine zO ?_|refine zB ?_|refine zX ?_|refine zT ?_|refine skipI rfl ?_)
            refine roundI (k+1) rfl ?_ ?_ ?_
            · show k+1≤n
              omega
            · show n - (k+1) < n - k
              omega
            · repeat' (first|exact trivial|with_reducible exact rfl|refine And.intro ?_ ?_)
              all_goals (first|rfl|exact hst)
        · simp only [decide_eq_false_iff_not] at c4
          obtain rfl:k=n:=by omega
          repeat' (first|with_reducible (first|apply pN|apply cN|apply bN|apply cE|apply cR|apply bR|apply lE|apply lR|apply jE|apply jR)|refine zE ?_|refine zP ?_|refine pD ?_|refine zS ?_|refine zR ?_|refine zO ?_|refine zB ?_|refine zX ?_|refine zT ?_|refine skipI rfl ?_)
          refine condI rfl (fun c5=>?_) (fun c5=>?_)
          · have c5:decide (pickF y.2.2.2.1 3=0)=true:=c5
            repeat' (first|with_reducible (first|apply pN|apply cN|apply bN|apply cE|apply cR|apply bR|apply lE|apply lR|apply jE|apply jR)|refine zE ?_|refine zP ?_|refine pD ?_|refine pC (by first|omega|(unfold In64;omega)) ?_|refine zS ?_|refine zR ?_|refine zO ?_|refine zB ?_|refine zX ?_|refine zT ?_|refine skipI rfl ?_)
            refine meetI (gdAt x k i) rfl rfl ?_
            rw [hg]
            repeat' (first|exact trivial|with_reducible exact rfl|refine And.intro ?_ ?_)
            all_goals (first|rfl|(show (gdBk k y).1=_;unfold gdBk;rw [c5];rfl)|(show (gdBk k y).2=_;unfold gdBk;rw [c5];rfl))
          · have c5:decide (pickF y.2.2.2.1 3=0)=false:=c5
            repeat' (first|with_reducible (first|apply pN|apply cN|apply bN|apply cE|apply cR|apply bR|apply lE|apply lR|apply jE|apply jR)|refine zE ?_|refine zP ?_|refine pD ?_|refine zS ?_|refine zR ?_|refine zO ?_|refine zB ?_|refine zX ?_|refine zT ?_|refine skipI rfl ?_)
            refine meetI (gdAt x k i) rfl rfl ?_
            rw [hg]
            repeat' (first|exact trivial|with_reducible exact rfl|refine And.intro ?_ ?_)
            all_goals (first|rfl|(show (gdBk k y).1=_;unfold gdBk;rw [c5];rfl)|(show (gdBk k y).2=_;unfold gdBk;rw [c5];rfl))
      · have c3:decide ((i:Int) < (List.length (α:=Int6) x:Int))=false:=c3
        have hg:gdAt x n i=(1+(i:Int),[(i:Int)],10,10,[],-1,0):=by unfold gdAt;rw [c3];rfl
        repeat' (first|with_reducible (first|apply pN|apply cN|apply bN|apply cE|apply cR|apply bR|apply lE|apply lR|apply jE|apply jR)|refine zE ?_|refine zP ?_|refine pD ?_|refine zS ?_|refine zR ?_|refine zO ?_|refine zB ?_|refine zX ?_|refine zT ?_|refine skipI rfl ?_)
        refine meetI (gdAt x n i) rfl rfl ?_
        rw [hg]
        repeat' (first|exact trivial|with_reducible exact rfl|refine And.intro ?_ ?_)
        all_goals rfl
    have hsl:(List.map (gdAt x n) (List.range i)).length=i:=by rw [List.length_map,List.length_range]
    repeat' (first|with_reducible (first|apply pN|apply cN|apply bN|apply cE|apply cR|apply bR|apply lE|apply lR|apply jE|apply jR)|refine zE ?_|refine zP ?_|refine pD ?_|refine pC (by first|omega|(unfold In64;omega)|(simp only [hsl,List.length_cons,List.length_nil];omega)) ?_|refine zS ?_|refine zR ?_|refine zO ?_|refine zB ?_|refine zX ?_|refine zT ?_|refine skipI rfl ?_)
    refine roundI (i+1) rfl ?_ ?_ ?_
    · show i+1≤n
      omega
    · show n - (i+1) < n - i
      omega
    · repeat' (first|exact trivial|with_reducible exact rfl|refine And.intro ?_ ?_)
      all_goals (first|rfl|(rw [List.range_succ,List.map_append,List.map_cons,← hs];rfl))
  · simp only [decide_eq_false_iff_not] at c2
    obtain rfl:i=n:=by omega
    have hss:List.map (gdAt x i) (List.range i)=gdSs x:=by unfold gdSs;rw [hnn]
    rw [hss]
    repeat' (first|with_reducible (first|apply pN|apply cN|apply bN|apply cE|apply cR|apply bR|apply lE|apply lR|apply jE|apply jR)|refine zE ?_|refine zP ?_|refine pD ?_|refine zS ?_|refine zR ?_|refine zO ?_|refine zB ?_|refine zX ?_|refine zT ?_|refine skipI rfl ?_)
    refine loopI (σ:=Nat) (fun k=>[(10,.int .i64 k)]) (fun k=>[(4,.box [.int .i64 mv.1,.int .i64 mv.2,.own 3000,.own 3001]),(3001,.seq tWin (gdWs x i k))]) (fun k=>k≤i∧k≤List.length (α:=Int6) x) (fun k=>i - k) 0 rfl (fun _=>rfl) rfl ?_ ?_ ?_
    · exact ⟨Nat.zero_le _,Nat.zero_le _⟩
    · repeat' (first|exact trivial|with_reducible exact rfl|refine And.intro ?_ ?_)
      all_goals rfl
    rintro k ⟨hk,hkx⟩
    have hwl:=gdWs_len (x:=x) (n:=i) (i:=k)
    repeat' (first|with_reducible (first|apply pN|apply cN|apply bN|apply cE|apply cR|apply bR|apply lE|apply lR|apply jE|apply jR)|refine zE ?_|refine zP ?_|refine pD ?_|refine zS ?_|refine zR ?_|refine zO ?_|refine zB ?_|refine zX ?_|refine zT ?_|refine skipI rfl ?_)
    refine condI rfl (fun c4=>?_) (fun c4=>?_)
    · simp only [Bool.and_eq_true,decide_eq_true_eq] at c4
      have hkl:k < List.length (α:=Int6) x:=by omega
      have hki:k < i:=by omega
      have hkn:((k:Int)).toNat=k:=by omega
      have hst:gdWs x i (k+1)=bif decide (gdTo x i k≠(k:Int))&&decide (pickF (getI x tS6.dflt k).2.2.2.2.1 2=0) then gdWs x i k++[((k:Int),gdTo x i k,pickF (getI x tS6.dflt k).2.2.2.2.2 120)] else gdWs x i k:=rfl
      repeat' (first|with_reducible (first|apply pN|apply cN|apply bN|apply cE|apply cR|apply bR|apply lE|apply lR|apply jE|apply jR)|refine zE ?_|refine zP ?_|refine zS ?_|refine zO ?_|refine zB ?_|refine zX ?_|refine zT ?_|refine skipI rfl ?_)
      refine zR ?_
      repeat' (first|with_reducible refine pN ?_|refine pD ?_|refine pC (by omega) ?_)
      repeat with_reducible refine cN ?_
      simp only [hkn]
      repeat' (first|with_reducible (first|apply pN|apply cN|apply bN|apply cE|apply cR|apply bR|apply lE|apply lR|apply jE|apply jR)|refine zE ?_|refine zP ?_|refine pD ?_|refine pC (by first|omega|(intros;omega)) ?_|refine zS ?_|refine zR ?_|refine zO ?_|refine zB ?_|refine zX ?_|refine zT ?_|refine skipI rfl ?_)
      simp only [hkn]
      refine condI rfl (fun c5=>?_) (fun c5=>?_)
      · have c5:(decide (gdTo x i k≠(k:Int))&&decide (pickF (getI x tS6.dflt k).2.2.2.2.1 2=0))=true:=c5
        rw [c5] at hst
        repeat' (first|with_reducible (first|apply pN|apply cN|apply bN|apply cE|apply cR|apply bR|apply lE|apply lR|apply jE|apply jR)|refine zE ?_|refine zP ?_|refine pD ?_|refine pC (by first|omega|(simp only [List.length_cons,List.length_nil];omega)) ?_|refine zS ?_|refine zR ?_|refine zO ?_|refine zB ?_|refine zX ?_|refine zT ?_|refine skipI rfl ?_)
        refine roundI (k+1) rfl ?_ ?_ ?_
        · exact ⟨by show k+1≤i;omega,by show k+1≤List.length (α:=Int6) x;omega⟩
        · show i - (k+1) < i - k
          omega
        · repeat' (first|exact trivial|with_reducible exact rfl|refine And.intro ?_ ?_)
          all_goals (first|rfl|(simp only [hkn];exact hst))
      · have c5:(decide (gdTo x i k≠(k:Int))&&decide (pickF (getI x tS6.dflt k).2.2.2.2.1 2=0))=false:=c5
        rw [c5] at hst
        repeat' (first|with_reducible (first|apply pN|apply cN|apply bN|apply cE|apply cR|apply bR|apply lE|apply lR|apply jE|apply jR)|refine zE ?_|refine zP ?_|refine pD ?_|refine zS ?_|refine zR ?_|refine zO ?_|refine zB ?_|refine zX ?_|refine zT ?_|refine skipI rfl ?_)
        refine roundI (k+1) rfl ?_ ?_ ?_
        · exact ⟨by show k+1≤i;omega,by show k+1≤List.length (α:=Int6) x;omega⟩
        · show i - (k+1) < i - k
          omega
        · repeat' (first|exact trivial|with_reducible exact rfl|refine And.intro ?_ ?_)
          all_goals (first|rfl|exact hst)
    · simp only [Bool.and_eq_false_iff,decide_eq_false_iff_not] at c4
      have hke:k=min (List.length (α:=Int6) x) 10:=by
        unfold gdN at hnn
        omega
      rw [← hke]
      repeat' (first|with_reducible (first|apply pN|apply cN|apply bN|apply cE|apply cR|apply bR|apply lE|apply lR|apply jE|apply jR)|refine zE ?_|refine zP ?_|refine pD ?_|refine zS ?_|refine zR ?_|refine zO ?_|refine zB ?_|refine zX ?_|refine zT ?_|refine skipI rfl ?_)
      refine endR rfl ?_
      repeat' (first|exact trivial|exact rfl|refine ⟨rfl,?_⟩|refine And.intro ?_ ?_)
end Go.AM.Ytdohkcddjoammaa.Fl
end
