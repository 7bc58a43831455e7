/- WnG. -/
import Derived.Test.YtdohkcddjoammaaPw29

section
set_option linter.all false
namespace Go.AM.Ytdohkcddjoammaa.Fl
open Go.Proofs
set_option maxRecDepth 100000
set_option maxHeartbeats 4000000
theorem pickWOk:SpecSound Try.prog 12 pickP:=by
  refine soundP (envOf sigNil) Try.func12 (c:=body Try.f12) rfl (by kernel_rfl) rfl ?_
  intro args out hf hpre
  split at hf <;> try (cases hf;done)
  rename_i c n
  cases hf
  refine ⟨Nat.le_of_ble_eq_true rfl,initI rfl ?_⟩
  refine factInt (t:=0) rfl (fun hc=>?_)
  have hc:=wrap64 hc
  change 0 < n at hpre
  repeat' (first|with_reducible (first|apply pN|apply cN|apply bN|apply cE|apply cR|apply bR|apply lE|apply lR|apply jE|apply jR)|refine zE ?_|refine zP ?_|refine pD ?_|refine zS ?_|refine zR ?_|refine zO ?_|refine zB ?_|refine zX ?_|refine zT ?_|refine skipI rfl ?_)
  refine condI rfl (fun c1=>?_) (fun c1=>?_)
  · simp only [decide_eq_true_eq] at c1
    repeat' (first|with_reducible (first|apply pN|apply cN|apply bN|apply cE|apply cR|apply bR|apply lE|apply lR|apply jE|apply jR)|refine zE ?_|refine zP ?_|refine pD ?_|refine zS ?_|refine zR ?_|refine zO ?_|refine zB ?_|refine zX ?_|refine zT ?_|refine skipI rfl ?_)
    refine endR rfl ?_
    repeat' (first|exact trivial|exact rfl|refine ⟨rfl,?_⟩|refine And.intro ?_ ?_)
    exact pickF_neg hpre c1
  · simp only [decide_eq_false_iff_not] at c1
    repeat' (first|with_reducible (first|apply pN|apply cN|apply bN|apply cE|apply cR|apply bR|apply lE|apply lR|apply jE|apply jR)|refine zE ?_|refine zP ?_|refine pD ?_|refine zS ?_|refine zR ?_|refine zO ?_|refine zB ?_|refine zX ?_|refine zT ?_|refine skipI rfl ?_)
    refine endR rfl ?_
    repeat' (first|exact trivial|exact rfl|refine ⟨rfl,?_⟩|refine And.intro ?_ ?_)
    exact pickF_pos hpre c1
def hasI (l:List Int) (n:Int):Bool:=decide (n∈l)
def hasIS:Spec:=plain fun
  | [.sl (.int .i64) l,.int .i64 n]=>outV True (.bool (hasI l n))
  | _=>none
theorem mem_take_succ {l:List Int} {n:Int} {i:Nat} (h:i < l.length):n∈l.take (i+1)↔n∈l.take i∨n=getI l 0 i:=by
  rw [Re.take_getI (d:=(0:Int)) h,List.mem_append,List.mem_singleton]
theorem hasIOk:SpecSound Try.prog 16 hasIS:=by
  refine soundP (envOf sigNil) Try.func16 (c:=body Try.f16) rfl (by kernel_rfl) rfl ?_
  intro args out hf hpre
  split at hf <;> try (cases hf;done)
  rename_i l n
  cases hf
  refine ⟨Nat.le_of_ble_eq_true rfl,initI (args:=[.sl tInt l,.int .i64 n]) rfl ?_⟩
  refine factSl (t:=0) (ty:=tInt) rfl (fun hxs=>?_)
  have hmx:List.length (α:=Int) l≤9223372036854775807:=by have:=hxs.1;unfold maxLen at this;exact this
  repeat' (first|with_reducible (first|apply pN|apply cN|apply bN|apply cE|apply cR|apply bR|apply lE|apply lR|apply jE|apply jR)|refine zE ?_|refine zP ?_|refine pD ?_|refine zS ?_|refine zR ?_|refine zO ?_|refine zB ?_|refine zX ?_|refine zT ?_|refine skipI rfl ?_)
  refine loopI (σ:=Nat) (fun i=>[(5,.int .i64 i)]) (fun i=>[]) (fun i=>i≤List.length (α:=Int) l∧¬ n∈List.take (α:=Int) i l) (fun i=>List.length (α:=Int) l - i) 0 rfl (fun _=>rfl) rfl ?_ ?_ ?_
  · exact ⟨Nat.zero_le _,by simp⟩
  · repeat' (first|exact trivial|exact rfl|refine ⟨rfl,?_⟩|refine And.intro ?_ ?_)
  rintro i ⟨hi,hb⟩
  repeat' (first|with_reducible (first|apply pN|apply cN|apply bN|apply cE|apply cR|apply bR|apply lE|apply lR|apply jE|apply jR)|refine zE ?_|refine zP ?_|refine pD ?_|refine zS ?_|refine zR ?_|refine zO ?_|refine zB ?_|refine zX ?_|refine zT ?_|refine skipI rfl ?_)
  refine condI rfl (fun c2=>?_) (fun c2=>?_)
  · simp only [decide_eq_true_eq] at c2
    have hil:i < List.length (α:=Int) l:=by omega
    have hin:((i:Int)).toNat=i:=by omega
    have hm:=mem_take_succ (n:=n) hil
    repeat' (first|with_reducible (first|apply pN|apply cN|apply bN|apply cE|apply cR|apply bR|apply lE|apply lR|apply jE|apply jR)|refine zE ?_|refine zP ?_|refine pD ?_|refine zS ?_|refine zR ?_|refine zO ?_|refine zB ?_|refine zX ?_|refine zT ?_|refine skipI rfl ?_)
    simp only [hin]
    refine condI rfl (fun c3=>?_) (fun c3=>?_)
    · simp only [decide_eq_true_eq] at c3
      have c3:getI l 0 i=n:=c3
      repeat' (first|with_reducible (first|apply pN|apply cN|apply bN|apply cE|apply cR|apply bR|apply lE|apply lR|apply jE|apply jR)|refine zE ?_|refine zP ?_|refine pD ?_|refine zS ?_|refine zR ?_|refine zO ?_|refine zB ?_|refine zX ?_|refine zT ?_|refine skipI rfl ?_)
      refine endR rfl ?_
      repeat' (first|exact trivial|exact rfl|refine ⟨rfl,?_⟩|refine And.intro ?_ ?_)
      unfold hasI
      exact decide_eq_true (List.take_subset _ _ (hm.2 (Or.inr c3.symm)))
    · simp only [decide_eq_false_iff_not] at c3
      have c3:¬ getI l 0 i=n:=c3
      repeat' (first|with_reducible (first|apply pN|apply cN|apply bN|apply cE|apply cR|apply bR|apply lE|apply lR|apply jE|apply jR)|refine zE ?_|refine zP ?_|refine pD ?_|refine zS ?_|refine zR ?_|refine zO ?_|refine zB ?_|refine zX ?_|refine zT ?_|refine skipI rfl ?_)
      refine roundI (i+1) rfl ?_ ?_ ?_
      · exact ⟨by show i+1≤List.length (α:=Int) l;omega,fun h=>(hm.1 h).elim hb fun e=>c3 e.symm⟩
      · show List.length (α:=Int) l - (i+1) < List.length (α:=Int) l - i
        omega
      · repeat' (first|exact trivial|with_reducible exact rfl|refine And.intro ?_ ?_)
        all_goals rfl
  · simp only [decide_eq_false_iff_not] at c2
    rw [List.take_of_length_le (show List.length (α:=Int) l≤i by omega)] at hb
    repeat' (first|with_reducible (first|apply pN|apply cN|apply bN|apply cE|apply cR|apply bR|apply lE|apply lR|apply jE|apply jR)|refine zE ?_|refine zP ?_|refine pD ?_|refine zS ?_|refine zR ?_|refine zO ?_|refine zB ?_|refine zX ?_|refine zT ?_|refine skipI rfl ?_)
    refine endR rfl ?_
    repeat' (first|exact trivial|exact rfl|refine ⟨rfl,?_⟩|refine And.intro ?_ ?_)
    unfold hasI
    exact decide_eq_false hb
def sameIS:Spec:=plain fun
  | [.sl (.int .i64) a,.sl (.int .i64) b]=>outV True (.bool (decide (a=b)))
  | _=>none
theorem same_take {α:Type} {a b:List α} {d:α} {i:Nat} (h:i < a.length) (h2:i < b.length) (hb:a.take i=b.take i) (hg:getI a d i=getI b d i):a.take (i+1)=b.take (i+1):=by
  rw [Re.take_getI (d:=d) h,Re.take_getI (d:=d) h2,hb,hg]
theorem sameIOk:SpecSound Try.prog 15 sameIS:=by
  refine soundP (envOf sigNil) Try.func15 (c:=body Try.f15) rfl (by kernel_rfl) rfl ?_
  intro args out hf hpre
  split at hf <;> try (cases hf;done)
  rename_i a b
  cases hf
  refine ⟨Nat.le_of_ble_eq_true rfl,initI (args:=[.sl tInt a,.sl tInt b]) rfl ?_⟩
  refine factSl (t:=0) (ty:=tInt) rfl (fun hxs=>?_)
  have hmx:List.length (α:=Int) a≤9223372036854775807:=by have:=hxs.1;unfold maxLen at this;exact this
  repeat' (first|with_reducible (first|apply pN|apply cN|apply bN|apply cE|apply cR|apply bR|apply lE|apply lR|apply jE|apply jR)|refine zE ?_|refine zP ?_|refine pD ?_|refine zS ?_|refine zR ?_|refine zO ?_|refine zB ?_|refine zX ?_|refine zT ?_|refine skipI rfl ?_)
  refine condI rfl (fun c1=>?_) (fun c1=>?_)
  · have c1:=of_decide_eq_true c1
    have c1:¬ (List.length (α:=Int) a:Int)=(List.length (α:=Int) b:Int):=c1
    repeat' (first|with_reducible (first|apply pN|apply cN|apply bN|apply cE|apply cR|apply bR|apply lE|apply lR|apply jE|apply jR)|refine zE ?_|refine zP ?_|refine pD ?_|refine zS ?_|refine zR ?_|refine zO ?_|refine zB ?_|refine zX ?_|refine zT ?_|refine skipI rfl ?_)
    refine endR rfl ?_
    repeat' (first|exact trivial|exact rfl|refine ⟨rfl,?_⟩|refine And.intro ?_ ?_)
    exact decide_eq_false fun e=>c1 (by rw [show a=b from e])
  have c1:(List.length (α:=Int) a:Int)=(List.length (α:=Int) b:Int):=Decidable.not_not.mp (of_decide_eq_false c1)
  have hlen:List.length (α:=Int) a=List.length (α:=Int) b:=by omega
  repeat' (first|with_reducible (first|apply pN|apply cN|apply bN|apply cE|apply cR|apply bR|apply lE|apply lR|apply jE|apply jR)|refine zE ?_|refine zP ?_|refine pD ?_|refine zS ?_|refine zR ?_|refine zO ?_|refine zB ?_|refine zX ?_|refine zT ?_|refine skipI rfl ?_)
  refine loopI (σ:=Nat) (fun i=>[(5,.int .i64 i)]) (fun i=>[]) (fun i=>i≤List.length (α:=Int) a∧List.take (α:=Int) i a=List.take (α:=Int) i b) (fun i=>List.length (α:=Int) a - i) 0 rfl (fun _=>rfl) rfl ?_ ?_ ?_
  · exact ⟨Nat.zero_le _,by simp⟩
  · repeat' (first|exact trivial|exact rfl|refine ⟨rfl,?_⟩|refine And.intro ?_ ?_)
  rintro i ⟨hi,hb⟩
  repeat' (first|with_reducible (first|apply pN|apply cN|apply bN|apply cE|apply cR|apply bR|apply lE|apply lR|apply jE|apply jR)|refine zE ?_|refine zP ?_|refine pD ?_|refine zS ?_|refine zR ?_|refine zO ?_|refine zB ?_|refine zX ?_|refine zT ?_|refine skipI rfl ?_)
  refine condI rfl (fun c2=>?_) (fun c2=>?_)
  · simp only [decide_eq_true_eq] at c2
    have hil:i < List.length (α:=Int) a:=by omega
    have hil2:i < List.length (α:=Int) b:=by omega
    have hin:((i:Int)).toNat=i:=by omega
    repeat' (first|with_reducible (first|apply pN|apply cN|apply bN|apply cE|apply cR|apply bR|apply lE|apply lR|apply jE|apply jR)|refine zE ?_|refine zP ?_|refine pD ?_|refine zS ?_|refine zR ?_|refine zO ?_|refine zB ?_|refine zX ?_|refine zT ?_|refine skipI rfl ?_)
    simp only [hin]
    refine condI rfl (fun c3=>?_) (fun c3=>?_)
    · have c3:=of_decide_eq_true c3
      have c3:¬ getI a 0 i=getI b 0 i:=c3
      repeat' (first|with_reducible (first|apply pN|apply cN|apply bN|apply cE|apply cR|apply bR|apply lE|apply lR|apply jE|apply jR)|refine zE ?_|refine zP ?_|refine pD ?_|refine zS ?_|refine zR ?_|refine zO ?_|refine zB ?_|refine zX ?_|refine zT ?_|refine skipI rfl ?_)
      refine endR rfl ?_
      repeat' (first|exact trivial|exact rfl|refine ⟨rfl,?_⟩|refine And.intro ?_ ?_)
      exact decide_eq_false fun e=>c3 (by rw [show a=b from e])
    · have c3:=Decidable.not_not.mp (of_decide_eq_false c3)
      have c3:getI a 0 i=getI b 0 i:=c3
      repeat' (first|with_reducible (first|apply pN|apply cN|apply bN|apply cE|apply cR|apply bR|apply lE|apply lR|apply jE|apply jR)|refine zE ?_|refine zP ?_|refine pD ?_|refine zS ?_|refine zR ?_|refine zO ?_|refine zB ?_|refine zX ?_|refine zT ?_|refine skipI rfl ?_)
      refine roundI (i+1) rfl ?_ ?_ ?_
      · exact ⟨by show i+1≤List.length (α:=Int) a;omega,same_take hil hil2 hb c3⟩
      · show List.length (α:=Int) a - (i+1) < List.length (α:=Int) a - i
        omega
      · repeat' (first|exact trivial|with_reducible exact rfl|refine And.intro ?_ ?_)
        all_goals rfl
  · simp only [decide_eq_false_iff_not] at c2
    rw [List.take_of_length_le (show List.length (α:=Int) a≤i by omega),List.take_of_length_le (show List.length (α:=Int) b≤i by omega)] at hb
    repeat' (first|with_reducible (first|apply pN|apply cN|apply bN|apply cE|apply cR|apply bR|apply lE|apply lR|apply jE|apply jR)|refine zE ?_|refine zP ?_|refine pD ?_|refine zS ?_|refine zR ?_|refine zO ?_|refine zB ?_|refine zX ?_|refine zT ?_|refine skipI rfl ?_)
    refine endR rfl ?_
    repeat' (first|exact trivial|exact rfl|refine ⟨rfl,?_⟩|refine And.intro ?_ ?_)
    exact decide_eq_true hb
abbrev tDue:Ty:=.pair (.int .i64) (.int .i64)
def sameDS:Spec:=plain fun
  | [.sl (.pair (.int .i64) (.int .i64)) a,.sl (.pair (.int .i64) (.int .i64)) b]=>outV True (.bool (decide (a=b)))
  | _=>none
theorem sameDOk:SpecSound Try.prog 27 sameDS:=by
  refine soundP (envOf sigNil) Try.func27 (c:=body Try.f27) rfl (by kernel_rfl) rfl ?_
  intro args out hf hpre
  split at hf <;> try (cases hf;done)
  rename_i a b
  cases hf
  refine ⟨Nat.le_of_ble_eq_true rfl,initI (args:=[.sl tDue a,.sl tDue b]) rfl ?_⟩
  refine factSl (t:=0) (ty:=tDue) rfl (fun hxs=>?_)
  have hmx:List.length (α:=Int × Int) a≤9223372036854775807:=by have:=hxs.1;unfold maxLen at this;exact this
  repeat' (first|with_reducible (first|apply pN|apply cN|apply bN|apply cE|apply cR|apply bR|apply lE|apply lR|apply jE|apply jR)|refine zE ?_|refine zP ?_|refine pD ?_|refine zS ?_|refine zR ?_|refine zO ?_|refine zB ?_|refine zX ?_|refine zT ?_|refine skipI rfl ?_)
  refine condI rfl (fun c1=>?_) (fun c1=>?_)
  · have c1:=of_decide_eq_true c1
    have c1:¬ (List.length (α:=Int × Int) a:Int)=(List.length (α:=Int × Int) b:Int):=c1
    repeat' (first|with_reducible (first|apply pN|apply cN|apply bN|apply cE|apply cR|apply bR|apply lE|apply lR|apply jE|apply jR)|refine zE ?_|refine zP ?_|refine pD ?_|refine zS ?_|refine zR ?_|refine zO ?_|refine zB ?_|refine zX ?_|refine zT ?_|refine skipI rfl ?_)
    refine endR rfl ?_
    repeat' (first|exact trivial|exact rfl|refine ⟨rfl,?_⟩|refine And.intro ?_ ?_)
    exact decide_eq_false fun e=>c1 (by rw [show a=b from e])
  have c1:(List.length (α:=Int × Int) a:Int)=(List.length (α:=Int × Int) b:Int):=Decidable.not_not.mp (of_decide_eq_false c1)
  have hlen:List.length (α:=Int × Int) a=List.length (α:=Int × Int) b:=by omega
  repeat' (first|with_reducible (first|apply pN|apply cN|apply bN|apply cE|apply cR|apply bR|apply lE|apply lR|apply jE|apply jR)|refine zE ?_|refine zP ?_|refine pD ?_|refine zS ?_|refine zR ?_|refine zO ?_|refine zB ?_|refine zX ?_|refine zT ?_|refine skipI rfl ?_)
  refine loopI (σ:=Nat) (fun i=>[(5,.int .i64 i)]) (fun i=>[]) (fun i=>i≤List.length (α:=Int × Int) a∧List.take (α:=Int × Int) i a=List.take (α:=Int × Int) i b) (fun i=>List.length (α:=Int × Int) a - i) 0 rfl (fun _=>rfl) rfl ?_ ?_ ?_
  · exact ⟨Nat.zero_le _,by simp⟩
  · repeat' (first|exact trivial|exact rfl|refine ⟨rfl,?_⟩|refine And.intro ?_ ?_)
  rintro i ⟨hi,hb⟩
  repeat' (first|with_reducible (first|apply pN|apply cN|apply bN|apply cE|apply cR|apply bR|apply lE|apply lR|apply jE|apply jR)|refine zE ?_|refine zP ?_|refine pD ?_|refine zS ?_|refine zR ?_|refine zO ?_|refine zB ?_|refine zX ?_|refine zT ?_|refine skipI rfl ?_)
  refine condI rfl (fun c2=>?_) (fun c2=>?_)
  · simp only [decide_eq_true_eq] at c2
    have hil:i < List.length (α:=Int × Int) a:=by omega
    have hil2:i < List.length (α:=Int × Int) b:=by omega
    have hin:((i:Int)).toNat=i:=by omega
    repeat' (first|with_reducible (first|apply pN|apply cN|apply bN|apply cE|apply cR|apply bR|apply lE|apply lR|apply jE|apply jR)|refine zE ?_|refine zP ?_|refine pD ?_|refine zS ?_|refine zR ?_|refine zO ?_|refine zB ?_|refine zX ?_|refine zT ?_|refine skipI rfl ?_)
    simp only [hin]
    refine condI rfl (fun c3=>?_) (fun c3=>?_)
    · have c4:¬ getI a tDue.dflt i=getI b tDue.dflt i:=by
        intro e
        simp [e] at c3
      repeat' (first|with_reducible (first|apply pN|apply cN|apply bN|apply cE|apply cR|apply bR|apply lE|apply lR|apply jE|apply jR)|refine zE ?_|refine zP ?_|refine pD ?_|refine zS ?_|refine zR ?_|refine zO ?_|refine zB ?_|refine zX ?_|refine zT ?_|refine skipI rfl ?_)
      refine endR rfl ?_
      repeat' (first|exact trivial|exact rfl|refine ⟨rfl,?_⟩|refine And.intro ?_ ?_)
      exact decide_eq_false fun e=>c4 (by rw [show a=b from e])
    · have c4:getI a tDue.dflt i=getI b tDue.dflt i:=by
        simp at c3
        exact Prod.ext c3.1 c3.2
      repeat' (first|with_reducible (first|apply pN|apply cN|apply bN|apply cE|apply cR|apply bR|apply lE|apply lR|apply jE|apply jR)|refine zE ?_|refine zP ?_|refine pD ?_|refine zS ?_|refine zR ?_|refine zO ?_|refine zB ?_|refine zX ?_|refine zT ?_|refine skipI rfl ?_)
      refine roundI (i+1) rfl ?_ ?_ ?_
      · exact ⟨by show i+1≤List.length (α:=Int × Int) a;omega,same_take hil hil2 hb c4⟩
      · show List.length (α:=Int × Int) a - (i+1) < List.length (α:=Int × Int) a - i
        omega
      · repeat' (first|exact trivial|with_reducible exact rfl|refine And.intro ?_ ?_)
        all_goals rfl
  · simp only [decide_eq_false_iff_not] at c2
    rw [List.take_of_length_le (show List.length (α:=Int × Int) a≤i by omega),List.take_of_length_le (show List.length (α:=Int × Int) b≤i by omega)] at hb
    repeat' (first|with_reducible (first|apply pN|apply cN|apply bN|apply cE|apply cR|apply bR|apply lE|apply lR|apply jE|apply jR)|refine zE ?_|refine zP ?_|refine pD ?_|refine zS ?_|refine zR ?_|refine zO ?_|refine zB ?_|refine zX ?_|refine zT ?_|refine skipI rfl ?_)
    refine endR rfl ?_
    repeat' (first|exact trivial|exact rfl|refine ⟨rfl,?_⟩|refine And.intro ?_ ?_)
    exact decide_eq_true hb
abbrev Int3:=Int × Int × Int
def visT (v:List Int3):Nat→Int
  | 0=>0
  | i+1=>visT v i+pickF (getI v tS3.dflt i).2.1 40+1+pickF (getI v tS3.dflt i).2.2 20
def visA (n:Int) (v:List Int3) (i:Nat):VisT:=(pickF (getI v tS3.dflt i).1 n,0,visT v i+pickF (getI v tS3.dflt i).2.1 40,visT v (i+1))
def visF (n:Int) (v:List Int3):List VisT:=(List.range (min v.length 20)).map (visA n v)
theorem visT_b {v:List Int3}:∀ {i:Nat},0≤visT v i∧visT v i≤59 * (i:Int)
  | 0=>⟨Int.le_refl _,Int.le_refl _⟩
  | i+1=>by
    have h:=visT_b (v:=v) (i:=i)
    have p1:=pick_b (c:=(getI v tS3.dflt i).2.1) (n:=40) (by omega)
    have p2:=pick_b (c:=(getI v tS3.dflt i).2.2) (n:=20) (by omega)
    unfold visT
    omega
def visS:Spec:=plain fun
  | [.agg [.int .i64 mn,.int .i64 mx,.sl (.pair (.int .i64) (.pair (.slice (.int .i64)) (.pair (.int .i64) (.pair (.int .i64) (.pair (.slice (.int .i64)) (.pair (.int .i64) (.int .i64))))))) ss,.sl (.pair (.int .i64) (.pair (.int .i64) (.int .i64))) ws],.sl (.pair (.int .i64) (.pair (.int .i64) (.int .i64))) v] =>
    some ⟨0 < ss.length∧ss.length≤100,.own 0,[.seq tVis (visF (ss.length:Int) v)],false⟩
  | _=>none
def sigVi:List (Nat × Spec):=[(12,pickP)]
theorem sigViOk:SigOk Try.prog (look sigVi):=sigCons sigNil Try.func12 (by kernel_rfl) (c:=body Try.f12) rfl pickWOk
theorem visOk:SpecSound Try.prog 11 visS:=by
  refine soundP (envOf sigViOk) Try.func11 (c:=body Try.f11) rfl (by kernel_rfl) rfl ?_
  intro args out hf hpre
  split at hf <;> try (cases hf;done)
  rename_i mn mx ss ws v
  cases hf
  refine ⟨Nat.le_of_ble_eq_true rfl,initI (args:=[.agg [.int .i64 mn,.int .i64 mx,.sl tStep ss,.sl tWin ws],.sl tS3 v]) rfl ?_⟩
  refine factSl (t:=1) (ty:=tS3) rfl (fun hxs=>?_)
  have hmx:List.length (α:=Int3) v≤9223372036854775807:=by have:=hxs.1;unfold maxLen at this;omega
  obtain ⟨hs0,hs1⟩:0 < List.length (α:=StepT) ss∧List.length (α:=StepT) ss≤100:=hpre
  have bp:=fun (c n:Int) (h:0 < n)=>pick_b (c:=c) (n:=n) h
  repeat' (first|with_reducible (first|apply pN|apply cN|apply bN|apply cE|apply cR|apply bR|apply lE|apply lR|apply jE|apply jR)|refine zE ?_|refine zP ?_|refine pD ?_|refine zS ?_|refine zR ?_|refine zO ?_|refine zB ?_|refine zX ?_|refine zT ?_|refine skipI rfl ?_)
  refine loopI (σ:=Nat) (fun i=>[(5,.own 3000),(6,.int .i64 (visT v i)),(7,.int .i64 i)]) (fun i=>[(3000,.seq tVis ((List.range i).map (visA (List.length (α:=StepT) ss:Int) v)))]) (fun i=>i≤List.length (α:=Int3) v∧i≤20) (fun i=>20 - i) 0 rfl (fun _=>rfl) rfl ?_ ?_ ?_
  · exact ⟨Nat.zero_le _,Nat.zero_le _⟩
  · repeat' (first|exact trivial|with_reducible exact rfl|refine And.intro ?_ ?_)
    all_goals rfl
  rintro i ⟨hi,hi20⟩
  repeat' (first|with_reducible (first|apply pN|apply cN|apply bN|apply cE|apply cR|apply bR|apply lE|apply lR|apply jE|apply jR)|refine zE ?_|refine zP ?_|refine pD ?_|refine zS ?_|refine zR ?_|refine zO ?_|refine zB ?_|refine zX ?_|refine zT ?_|refine skipI rfl ?_)
  refine condI rfl (fun c1=>?_) (fun c1=>?_)
  · have c1:(decide ((i:Int) < (List.length (α:=Int3) v:Int))&&decide ((i:Int) < 20))=true:=c1
    simp only [Bool.and_eq_true,decide_eq_true_eq] at c1
    have hil:i < List.length (α:=Int3) v:=by omega
    have hin:((i:Int)).toNat=i:=by omega
    have hb:=visT_b (v:=v) (i:=i)
    have hst:visT v (i+1)=visT v i+pickF (getI v tS3.dflt i).2.1 40+1+pickF (getI v tS3.dflt i).2.2 20:=rfl
    have hva:visA (List.length (α:=StepT) ss:Int) v i=(pickF (getI v tS3.dflt i).1 (List.length (α:=StepT) ss:Int),0,visT v i+pickF (getI v tS3.dflt i).2.1 40,visT v (i+1)):=rfl
    obtain ⟨y,hy⟩:∃ y:Int3,y=getI v tS3.dflt i:=⟨_,rfl⟩
    rw [← hy] at hst hva
    have p1:=bp y.1 (List.length (α:=StepT) ss:Int) (by omega)
    have p2:=bp y.2.1 40 (by omega)
    have p3:=bp y.2.2 20 (by omega)
    have hsl:(List.map (visA (List.length (α:=StepT) ss:Int) v) (List.range i)).length=i:=by rw [List.length_map,List.length_range]
    repeat' (first|with_reducible (first|apply pN|apply cN|apply bN|apply cE|apply cR|apply bR|apply lE|apply lR|apply jE|apply jR)|refine zE ?_|refine zP ?_|refine zS ?_|refine zO ?_|refine zB ?_|refine zX ?_|refine zT ?_|refine skipI rfl ?_)
    refine zR ?_
    repeat' (first|with_reducible refine pN ?_|refine pD ?_|refine pC (by (simp only [hin,← hy];unfold In64;omega)) ?_)
    repeat with_reducible refine cN ?_
    simp only [hin,← hy]
    repeat' (first|with_reducible (first|apply pN|apply cN|apply bN|apply cE|apply cR|apply bR|apply lE|apply lR|apply jE|apply jR)|refine zE ?_|refine zP ?_|refine pD ?_|refine pC (by first|omega|(simp only [hin,← hy];unfold In64;omega)|(simp only [hin,← hy];omega)|(simp only [hsl,List.length_cons,List.length_nil];omega)) ?_|refine zS ?_|refine zR ?_|refine zO ?_|refine zB ?_|refine zX ?_|refine zT ?_|refine skipI rfl ?_)
    refine roundI (i+1) rfl ?_ ?_ ?_
    · exact ⟨by show i+1≤List.length (α:=Int3) v;omega,by show i+1≤20;omega⟩
    · show 20 - (i+1) < 20 - i
      omega
    · repeat' (first|exact trivial|with_reducible exact rfl|refine And.intro ?_ ?_)
      all_goals (first|rfl|(simp only [hin,← hy];rw [List.range_succ,List.map_append,List.map_cons,hva,hst];rfl)|(simp only [hin,← hy];rw [hst]))
  · have c1:(decide ((i:Int) < (List.length (α:=Int3) v:Int))&&decide ((i:Int) < 20))=false:=c1
    simp only [Bool.and_eq_false_iff,decide_eq_false_iff_not] at c1
    have e:i=min (List.length (α:=Int3) v) 20:=by omega
    repeat' (first|with_reducible (first|apply pN|apply cN|apply bN|apply cE|apply cR|apply bR|apply lE|apply lR|apply jE|apply jR)|refine zE ?_|refine zP ?_|refine pD ?_|refine zS ?_|refine zR ?_|refine zO ?_|refine zB ?_|refine zX ?_|refine zT ?_|refine skipI rfl ?_)
    refine endR rfl ?_
    repeat' (first|exact trivial|exact rfl|refine ⟨rfl,?_⟩|refine And.intro ?_ ?_)
    unfold visF
    rw [← e]
def stpA (n:Int) (v:List Int3) (i:Nat):Int:=pickF (getI v tS3.dflt i).1 n
def stpF (n:Int) (v:List Int3):List Int:=(List.range (min v.length 12)).map (stpA n v)
def stpS:Spec:=plain fun
  | [.agg [.int .i64 mn,.int .i64 mx,.sl (.pair (.int .i64) (.pair (.slice (.int .i64)) (.pair (.int .i64) (.pair (.int .i64) (.pair (.slice (.int .i64)) (.pair (.int .i64) (.int .i64))))))) ss,.sl (.pair (.int .i64) (.pair (.int .i64) (.int .i64))) ws],.sl (.pair (.int .i64) (.pair (.int .i64) (.int .i64))) v] =>
    some ⟨0 < ss.length∧ss.length≤100,.own 0,[.seq tInt (stpF (ss.length:Int) v)],false⟩
  | _=>none
theorem stpOk:SpecSound Try.prog 17 stpS:=by
  refine soundP (envOf sigViOk) Try.func17 (c:=body Try.f17) rfl (by kernel_rfl) rfl ?_
  intro args out hf hpre
  split at hf <;> try (cases hf;done)
  rename_i mn mx ss ws v
  cases hf
  refine ⟨Nat.le_of_ble_eq_true rfl,initI (args:=[.agg [.int .i64 mn,.int .i64 mx,.sl tStep ss,.sl tWin ws],.sl tS3 v]) rfl ?_⟩
  refine factSl (t:=1) (ty:=tS3) rfl (fun hxs=>?_)
  have hmx:List.length (α:=Int3) v≤9223372036854775807:=by have:=hxs.1;unfold maxLen at this;omega
  obtain ⟨hs0,hs1⟩:0 < List.length (α:=StepT) ss∧List.length (α:=StepT) ss≤100:=hpre
  repeat' (first|with_reducible (first|apply pN|apply cN|apply bN|apply cE|apply cR|apply bR|apply lE|apply lR|apply jE|apply jR)|refine zE ?_|refine zP ?_|refine pD ?_|refine zS ?_|refine zR ?_|refine zO ?_|refine zB ?_|refine zX ?_|refine zT ?_|refine skipI rfl ?_)
  refine loopI (σ:=Nat) (fun i=>[(5,.own 3000),(6,.int .i64 i)]) (fun i=>[(3000,.seq tInt ((List.range i).map (stpA (List.length (α:=StepT) ss:Int) v)))]) (fun i=>i≤List.length (α:=Int3) v∧i≤12) (fun i=>12 - i) 0 rfl (fun _=>rfl) rfl ?_ ?_ ?_
  · exact ⟨Nat.zero_le _,Nat.zero_le _⟩
  · repeat' (first|exact trivial|with_reducible exact rfl|refine And.intro ?_ ?_)
    all_goals rfl
  rintro i ⟨hi,hi20⟩
  repeat' (first|with_reducible (first|apply pN|apply cN|apply bN|apply cE|apply cR|apply bR|apply lE|apply lR|apply jE|apply jR)|refine zE ?_|refine zP ?_|refine pD ?_|refine zS ?_|refine zR ?_|refine zO ?_|refine zB ?_|refine zX ?_|refine zT ?_|refine skipI rfl ?_)
  refine condI rfl (fun c1=>?_) (fun c1=>?_)
  · have c1:(decide ((i:Int) < (List.length (α:=Int3) v:Int))&&decide ((i:Int) < 12))=true:=c1
    simp only [Bool.and_eq_true,decide_eq_true_eq] at c1
    have hil:i < List.length (α:=Int3) v:=by omega
    have hin:((i:Int)).toNat=i:=by omega
    have hsl:(List.map (stpA (List.length (α:=StepT) ss:Int) v) (List.range i)).length=i:=by rw [List.length_map,List.length_range]
    repeat' (first|with_reducible (first|apply pN|apply cN|apply bN|apply cE|apply cR|apply bR|apply lE|apply lR|apply jE|apply jR)|refine zE ?_|refine zP ?_|refine pD ?_|refine pC (by first|omega|(simp only [hsl,List.length_cons,List.length_nil];omega)) ?_|refine zS ?_|refine zR ?_|refine zO ?_|refine zB ?_|refine zX ?_|refine zT ?_|refine skipI rfl ?_)
    refine roundI (i+1) rfl ?_ ?_ ?_
    · exact ⟨by show i+1≤List.length (α:=Int3) v;omega,by show i+1≤12;omega⟩
    · show 12 - (i+1) < 12 - i
      omega
    · repeat' (first|exact trivial|with_reducible exact rfl|refine And.intro ?_ ?_)
      all_goals (first|rfl|(simp only [hin];rw [List.range_succ,List.map_append,List.map_cons];rfl))
  · have c1:(decide ((i:Int) < (List.length (α:=Int3) v:Int))&&decide ((i:Int) < 12))=false:=c1
    simp only [Bool.and_eq_false_iff,decide_eq_false_iff_not] at c1
    have e:i=min (List.length (α:=Int3) v) 12:=by omega
    repeat' (first|with_reducible (first|apply pN|apply cN|apply bN|apply cE|apply cR|apply bR|apply lE|apply lR|apply jE|apply jR)|refine zE ?_|refine zP ?_|refine pD ?_|refine zS ?_|refine zR ?_|refine zO ?_|refine zB ?_|refine zX ?_|refine zT ?_|refine skipI rfl ?_)
    refine endR rfl ?_
    repeat' (first|exact trivial|exact rfl|refine ⟨rfl,?_⟩|refine And.intro ?_ ?_)
    unfold stpF
    rw [← e]
def cK (c:Int):Bool:=decide (pickF c 2=0)
def cMn (x:List Int6) (c:Int):Int:=bif cK c then (gdMv x).1 else 2
def cMx (x:List Int6) (c:Int):Int:=bif cK c then (gdMv x).2 else 5
def cSs (x:List Int6) (c:Int):List StepT:=bif cK c then gdSs x else mkSs x
def cWs (x:List Int6) (w:List Int3) (c:Int):List WinT:=bif cK c then gdWs x (gdN x) (min x.length 10) else mkWs x w
def cMadeS:Spec:=⟨true,fun args rows=>match args,rows with
  | [.agg [.sl (.pair (.int .i64) (.pair (.int .i64) (.pair (.int .i64) (.pair (.int .i64) (.pair (.int .i64) (.int .i64)))))) x,.sl (.pair (.int .i64) (.pair (.int .i64) (.int .i64))) w,.sl (.pair (.int .i64) (.pair (.int .i64) (.int .i64))) v,.int .i64 a,.int .i64 b,.int .i64 c]],[] =>
    some ⟨True,.agg [.int .i64 (cMn x c),.int .i64 (cMx x c),.sl tStep (cSs x c),.sl tWin (cWs x w c)],[],true⟩
  | _,_=>none⟩
def sigCm:List (Nat × Spec):=[(12,pickP),(28,madeFS),(29,makeFS)]
theorem sigCmOk:SigOk Try.prog (look sigCm):=sigCons (sigCons (sigCons sigNil
  Try.func29 (by kernel_rfl) (c:=body Try.f29) rfl makeFOk)
  Try.func28 (by kernel_rfl) (c:=body Try.f28) rfl madeFOk)
  Try.func12 (by kernel_rfl) (c:=body Try.f12) rfl pickWOk
theorem cMadeOk:SpecSound Try.prog 10 cMadeS:=by
  refine soundR (envOf sigCmOk) Try.func10 (c:=body Try.f10) rfl (by kernel_rfl) rfl ?_
  intro args rows out hf hpre
  split at hf <;> try (cases hf;done)
  rename_i x w v a b c
  cases hf
  refine ⟨Nat.le_of_ble_eq_true rfl,initI (args:=[.agg [.sl tS6 x,.sl tS3 w,.sl tS3 v,.int .i64 a,.int .i64 b,.int .i64 c]]) (rows:=[]) rfl ?_⟩
  repeat' (first|with_reducible (first|apply pN|apply cN|apply bN|apply cE|apply cR|apply bR|apply lE|apply lR|apply jE|apply jR)|refine zE ?_|refine zP ?_|refine pD ?_|refine zS ?_|refine zR ?_|refine zO ?_|refine zB ?_|refine zX ?_|refine zT ?_|refine skipI rfl ?_)
  refine condI rfl (fun c1=>?_) (fun c1=>?_)
  · have c1:cK c=true:=c1
    unfold cMn cMx cSs cWs
    rw [c1]
    repeat' (first|with_reducible (first|apply pN|apply cN|apply bN|apply cE|apply cR|apply bR|apply lE|apply lR|apply jE|apply jR)|refine zE ?_|refine zP ?_|refine zS ?_|refine zO ?_|refine zB ?_|refine zX ?_|refine zT ?_|refine skipI rfl ?_)
    refine zR ?_
    repeat' (first|with_reducible refine pN ?_|refine pD ?_|fail)
    repeat with_reducible refine cN ?_
    refine freezeI (key 9 0) rfl ?_
    refine freezeI (key 9 1) rfl ?_
    repeat' (first|with_reducible (first|apply pN|apply cN|apply bN|apply cE|apply cR|apply bR|apply lE|apply lR|apply jE|apply jR)|refine zE ?_|refine zP ?_|refine pD ?_|refine zS ?_|refine zR ?_|refine zO ?_|refine zB ?_|refine zX ?_|refine zT ?_|refine skipI rfl ?_)
    refine endR rfl ?_
    repeat' (first|exact trivial|exact rfl|refine ⟨rfl,?_⟩|refine And.intro ?_ ?_)
  · have c1:cK c=false:=c1
    unfold cMn cMx cSs cWs
    rw [c1]
    repeat' (first|with_reducible (first|apply pN|apply cN|apply bN|apply cE|apply cR|apply bR|apply lE|apply lR|apply jE|apply jR)|refine zE ?_|refine zP ?_|refine zS ?_|refine zO ?_|refine zB ?_|refine zX ?_|refine zT ?_|refine skipI rfl ?_)
    refine zR ?_
    repeat' (first|with_reducible refine pN ?_|refine pD ?_|fail)
    repeat with_reducible refine cN ?_
    refine freezeI (key 14 0) rfl ?_
    refine freezeI (key 14 1) rfl ?_
    repeat' (first|with_reducible (first|apply pN|apply cN|apply bN|apply cE|apply cR|apply bR|apply lE|apply lR|apply jE|apply jR)|refine zE ?_|refine zP ?_|refine pD ?_|refine zS ?_|refine zR ?_|refine zO ?_|refine zB ?_|refine zX ?_|refine zT ?_|refine skipI rfl ?_)
    refine endR rfl ?_
    repeat' (first|exact trivial|exact rfl|refine ⟨rfl,?_⟩|refine And.intro ?_ ?_)
def lnkB (w:WinT) (rt:List Int) (i j:Nat):Bool:=((decide (i < j)&&decide (getI rt 0 i=w.1))&&decide (getI rt 0 j=w.2.1))&&!(List.range (j - (i+1))).any (fun k=>decide (getI rt 0 (i+1+k)=w.1)||decide (getI rt 0 (i+1+k)=w.2.1))
def lnkS:Spec:=plain fun
  | [.agg [.int .i64 f,.int .i64 t,.int .i64 l],.sl (.int .i64) rt,.int .i64 i,.int .i64 j] =>
    outV ((0≤i∧i < j)∧j < rt.length) (.tup [.bool (lnkB (f,t,l) rt i.toNat j.toNat),.bool true])
  | _=>none
theorem lnk_any {p:Nat→Bool} {n:Nat} (h:∀ k,k < n→p k=false):(List.range n).any p=false:=by
  rw [List.any_eq_false]
  intro k hk
  rw [h k (List.mem_range.1 hk)]
  exact Bool.false_ne_true
theorem lnk_any1 {p:Nat→Bool} {n k:Nat} (hk:k < n) (h:p k=true):(List.range n).any p=true:=List.any_eq_true.2 ⟨k,List.mem_range.2 hk,h⟩
theorem lnkOk:SpecSound Try.prog 19 lnkS:=by
  refine soundP (envOf sigNil) Try.func19 (c:=body Try.f19) rfl (by kernel_rfl) rfl ?_
  intro args out hf hpre
  split at hf <;> try (cases hf;done)
  rename_i f t l rt i j
  cases hf
  refine ⟨Nat.le_of_ble_eq_true rfl,initI (args:=[.agg [.int .i64 f,.int .i64 t,.int .i64 l],.sl tInt rt,.int .i64 i,.int .i64 j]) rfl ?_⟩
  refine factSl (t:=1) (ty:=tInt) rfl (fun hxs=>?_)
  have hmx:List.length (α:=Int) rt≤9223372036854775807:=by have:=hxs.1;unfold maxLen at this;exact this
  obtain ⟨⟨hi0,hij⟩,hjl⟩:(0≤i∧i < j)∧j < (List.length (α:=Int) rt:Int):=hpre
  obtain ⟨a,rfl⟩:∃ a:Nat,i=(a:Int):=⟨i.toNat,by omega⟩
  obtain ⟨b,rfl⟩:∃ b:Nat,j=(b:Int):=⟨j.toNat,by omega⟩
  have ha:((a:Int)).toNat=a:=by omega
  have hb:((b:Int)).toNat=b:=by omega
  obtain ⟨r,hr⟩:∃ r,r=lnkB (f,t,l) rt a b:=⟨_,rfl⟩
  simp only [ha,hb]
  rw [← hr]
  unfold lnkB at hr
  dsimp only at hr
  rw [decide_eq_true (show a < b by omega),Bool.true_and] at hr
  repeat' (first|with_reducible (first|apply pN|apply cN|apply bN|apply cE|apply cR|apply bR|apply lE|apply lR|apply jE|apply jR)|refine zE ?_|refine zP ?_|refine pD ?_|refine pC (by first|omega|(intros;omega)) ?_|refine zS ?_|refine zR ?_|refine zO ?_|refine zB ?_|refine zX ?_|refine zT ?_|refine skipI rfl ?_)
  simp only [ha,hb]
  refine condI rfl (fun c1=>?_) (fun c1=>?_)
  · have hr:r=false:=by
      rw [hr]
      simp at c1
      cases h1:decide (getI rt 0 a=f)
      · simp
      cases h2:decide (getI rt 0 b=t)
      · simp
      exact (c1.elim (fun h=>h.elim (fun h=>by omega) (fun h=>h (of_decide_eq_true h1))) (fun h=>h (of_decide_eq_true h2))).elim
    rw [hr]
    repeat' (first|with_reducible (first|apply pN|apply cN|apply bN|apply cE|apply cR|apply bR|apply lE|apply lR|apply jE|apply jR)|refine zE ?_|refine zP ?_|refine pD ?_|refine zS ?_|refine zR ?_|refine zO ?_|refine zB ?_|refine zX ?_|refine zT ?_|refine skipI rfl ?_)
    refine endR rfl ?_
    repeat' (first|exact trivial|exact rfl|refine ⟨rfl,?_⟩|refine And.intro ?_ ?_)
    exact (decide_eq_true (by omega)).symm
  have c2:getI rt 0 a=f∧getI rt 0 b=t:=by
    simp at c1
    exact ⟨c1.1.2,c1.2⟩
  rw [decide_eq_true c2.1,decide_eq_true c2.2,Bool.true_and,Bool.true_and] at hr
  repeat' (first|with_reducible (first|apply pN|apply cN|apply bN|apply cE|apply cR|apply bR|apply lE|apply lR|apply jE|apply jR)|refine zE ?_|refine zP ?_|refine pD ?_|refine zS ?_|refine zR ?_|refine zO ?_|refine zB ?_|refine zX ?_|refine zT ?_|refine skipI rfl ?_)
  refine loopI (σ:=Nat) (fun k=>[(10,.int .i64 ((a+1+k:Nat):Int))]) (fun k=>[]) (fun k=>a+1+k≤b∧∀ y,y < k→(decide (getI rt 0 (a+1+y)=f)||decide (getI rt 0 (a+1+y)=t))=false) (fun k=>b - k) 0 rfl (fun _=>rfl) rfl ?_ ?_ ?_
  · exact ⟨by omega,fun y hy=>by omega⟩
  · repeat' (first|exact trivial|with_reducible exact rfl|refine And.intro ?_ ?_)
    all_goals (first|rfl|(intros;omega))
  rintro k ⟨hk,hp⟩
  repeat' (first|with_reducible (first|apply pN|apply cN|apply bN|apply cE|apply cR|apply bR|apply lE|apply lR|apply jE|apply jR)|refine zE ?_|refine zP ?_|refine pD ?_|refine zS ?_|refine zR ?_|refine zO ?_|refine zB ?_|refine zX ?_|refine zT ?_|refine skipI rfl ?_)
  refine condI rfl (fun c3=>?_) (fun c3=>?_)
  · simp only [decide_eq_true_eq] at c3
    have hkb:a+1+k < b:=by omega
    have hin:(((a+1+k:Nat):Int)).toNat=a+1+k:=by omega
    repeat' (first|with_reducible (first|apply pN|apply cN|apply bN|apply cE|apply cR|apply bR|apply lE|apply lR|apply jE|apply jR)|refine zE ?_|refine zP ?_|refine pD ?_|refine pC (by first|omega|(intros;omega)) ?_|refine zS ?_|refine zR ?_|refine zO ?_|refine zB ?_|refine zX ?_|refine zT ?_|refine skipI rfl ?_)
    simp only [hin]
    refine condI rfl (fun c4=>?_) (fun c4=>?_)
    · have c4:(decide (getI rt 0 (a+1+k)=f)||decide (getI rt 0 (a+1+k)=t))=true:=c4
      rw [lnk_any1 (k:=k) (by omega) c4] at hr
      repeat' (first|with_reducible (first|apply pN|apply cN|apply bN|apply cE|apply cR|apply bR|apply lE|apply lR|apply jE|apply jR)|refine zE ?_|refine zP ?_|refine pD ?_|refine zS ?_|refine zR ?_|refine zO ?_|refine zB ?_|refine zX ?_|refine zT ?_|refine skipI rfl ?_)
      refine endR rfl ?_
      repeat' (first|exact trivial|exact rfl|refine ⟨rfl,?_⟩|refine And.intro ?_ ?_)
      exact hr
    · have c4:(decide (getI rt 0 (a+1+k)=f)||decide (getI rt 0 (a+1+k)=t))=false:=c4
      repeat' (first|with_reducible (first|apply pN|apply cN|apply bN|apply cE|apply cR|apply bR|apply lE|apply lR|apply jE|apply jR)|refine zE ?_|refine zP ?_|refine pD ?_|refine zS ?_|refine zR ?_|refine zO ?_|refine zB ?_|refine zX ?_|refine zT ?_|refine skipI rfl ?_)
      refine roundI (k+1) rfl ?_ ?_ ?_
      · refine ⟨by show a+1+(k+1)≤b;omega,fun y hy=>?_⟩
        by_cases hyk:y=k
        · rw [hyk];exact c4
        · exact hp y (by omega)
      · show b - (k+1) < b - k
        omega
      · repeat' (first|exact trivial|with_reducible exact rfl|refine And.intro ?_ ?_)
        all_goals (first|rfl|(intros;omega))
  · simp only [decide_eq_false_iff_not] at c3
    rw [lnk_any (fun y hy=>hp y (by omega))] at hr
    rw [show r=true from hr]
    repeat' (first|with_reducible (first|apply pN|apply cN|apply bN|apply cE|apply cR|apply bR|apply lE|apply lR|apply jE|apply jR)|refine zE ?_|refine zP ?_|refine pD ?_|refine zS ?_|refine zR ?_|refine zO ?_|refine zB ?_|refine zX ?_|refine zT ?_|refine skipI rfl ?_)
    refine endR rfl ?_
    repeat' (first|exact trivial|exact rfl|refine ⟨rfl,?_⟩|refine And.intro ?_ ?_)
end Go.AM.Ytdohkcddjoammaa.Fl
end
