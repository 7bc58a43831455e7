/- The reference's choices of tools: pairs, Choices. -/
import Derived.Test.YtmohhhbgcehnpaaGreatPm26
set_option linter.all false
namespace Go.AM.YtmohhhbgcehnpaaGreat.Re
open Go.Proofs
set_option maxRecDepth 100000
set_option maxHeartbeats 4000000
def rowI (l:List Int) (i m:Nat):List PairT:=(List.range m).flatMap fun (k:Nat)=>bif decide ((i:Int)≠(k:Int)) then [(getI l (0:Int) i,getI l (0:Int) k)] else []
def rowsI (l:List Int) (i:Nat):List PairT:=(List.range i).flatMap fun (i:Nat)=>rowI l i l.length
def pairsI (l:List Int):List PairT:=rowsI l l.length
theorem rowI_succ (l:List Int) (i m:Nat):rowI l i (m+1)=rowI l i m++bif decide ((i:Int)≠(m:Int)) then [(getI l (0:Int) i,getI l (0:Int) m)] else []:=by
 unfold rowI
 rw [List.range_succ,List.flatMap_append]
 simp
theorem rowsI_succ (l:List Int) (i:Nat):rowsI l (i+1)=rowsI l i++rowI l i l.length:=by
 unfold rowsI
 rw [List.range_succ,List.flatMap_append]
 simp
theorem rowI_len (l:List Int) (i:Nat):∀ m,(rowI l i m).length≤m
 | 0=>by simp [rowI]
 | m+1=>by
   have:=rowI_len l i m
   rw [rowI_succ,List.length_append]
   cases decide ((i:Int)≠(m:Int)) <;> simp <;> omega
theorem rowsI_len (l:List Int):∀ i,(rowsI l i).length≤i * l.length
 | 0=>by simp [rowsI]
 | i+1=>by
   have:=rowsI_len l i
   have h2:=rowI_len l i l.length
   rw [rowsI_succ,List.length_append,Nat.add_mul,Nat.one_mul]
   omega
def pairsS:Spec:=plain fun
 | [.agg [.sl (.int .i64) l,.int .i64 mn,.int .i64 mx]]=>some ⟨List.length (α:=Int) l≤3,.own 0,[.seq tPair (pairsI l)],false⟩
 | _=>none
theorem pairsOk:SpecSound Tryz.prog 105 pairsS:=by
 refine soundP (envOf sigNil) Tryz.func105 (c:=body Tryz.f105) rfl (by kernel_rfl) rfl ?_
 intro args out hf hpre
 split at hf <;> try (cases hf;done)
 rename_i l mn mx
 cases hf
 refine ⟨Nat.le_of_ble_eq_true rfl,initI (args:=[.agg [.sl tInt l,.int .i64 mn,.int .i64 mx]]) rfl ?_⟩
 have hl:List.length (α:=Int) l≤3:=hpre
 repeat' (first|refine zN ?_|refine zE ?_|refine zP ?_|refine pD ?_|refine zS ?_|refine zR ?_|refine zO ?_|refine zB ?_|refine zX ?_|refine zT ?_|refine skipI rfl ?_)
 refine loopI (σ:=Nat) (fun i=>[(3,.own 3000),(4,.int .i64 i)]) (fun i=>[(3000,.seq tPair (rowsI l i))]) (fun i=>i≤List.length (α:=Int) l) (fun i=>List.length (α:=Int) l - i) 0 rfl (fun _=>rfl) rfl ?_ ?_ ?_
 ·exact Nat.zero_le _
 ·repeat' (first|exact trivial|with_reducible exact rfl|refine And.intro ?_ ?_)
  all_goals rfl
 ·intro i hi
  have hri:=rowsI_len l i
  have hri9:(rowsI l i).length≤9:=Nat.le_trans hri (Nat.le_trans (Nat.mul_le_mul hi (Nat.le_refl _)) (Nat.le_trans (Nat.mul_le_mul hl hl) (by decide)))
  repeat' (first|refine zN ?_|refine zE ?_|refine zP ?_|refine pD ?_|refine zS ?_|refine zR ?_|refine zO ?_|refine zB ?_|refine zX ?_|refine zT ?_|refine skipI rfl ?_)
  refine condI rfl (fun c1=>?_) (fun c1=>?_)
  ·simp only [decide_eq_true_eq] at c1
   have hil:i < List.length (α:=Int) l:=by omega
   have hin:((i:Int)).toNat=i:=by omega
   repeat' (first|refine zN ?_|refine zE ?_|refine zP ?_|refine pD ?_|refine zS ?_|refine zR ?_|refine zO ?_|refine zB ?_|refine zX ?_|refine zT ?_|refine skipI rfl ?_)
   refine loopI (σ:=Nat) (fun k=>[(3,.own 3000),(5,.int .i64 k)]) (fun k=>[(3000,.seq tPair (rowsI l i++rowI l i k))]) (fun k=>k≤List.length (α:=Int) l) (fun k=>List.length (α:=Int) l - k) 0 rfl (fun _=>rfl) rfl ?_ ?_ ?_
   ·exact Nat.zero_le _
   ·repeat' (first|exact trivial|with_reducible exact rfl|refine And.intro ?_ ?_)
    all_goals simp [rowI]
   ·intro k hk
    have hrk:=rowI_len l i k
    repeat' (first|refine zN ?_|refine zE ?_|refine zP ?_|refine pD ?_|refine zS ?_|refine zR ?_|refine zO ?_|refine zB ?_|refine zX ?_|refine zT ?_|refine skipI rfl ?_)
    refine condI rfl (fun c2=>?_) (fun c2=>?_)
    ·simp only [decide_eq_true_eq] at c2
     have hkl:k < List.length (α:=Int) l:=by omega
     have hkn:((k:Int)).toNat=k:=by omega
     have hapl:(rowsI l i++rowI l i k).length≤12:=by rw [List.length_append];omega
     repeat' (first|refine zN ?_|refine zE ?_|refine zP ?_|refine pD ?_|refine zS ?_|refine zR ?_|refine zO ?_|refine zB ?_|refine zX ?_|refine zT ?_|refine skipI rfl ?_)
     refine condI rfl (fun c3=>?_) (fun c3=>?_)
     ·repeat' (first|refine zN ?_|refine zE ?_|refine zP ?_|refine pD ?_|refine pC (by first|omega|(simp only [List.length_cons,List.length_nil];omega)) ?_|refine zS ?_|refine zR ?_|refine zO ?_|refine zB ?_|refine zX ?_|refine zT ?_|refine skipI rfl ?_)
      refine roundI (k+1) rfl ?_ ?_ ?_
      ·show k+1≤List.length (α:=Int) l
       omega
      ·show List.length (α:=Int) l - (k+1) < List.length (α:=Int) l - k
       omega
      ·repeat' (first|exact trivial|with_reducible exact rfl|refine And.intro ?_ ?_)
       all_goals (first|rfl|(rw [rowI_succ,show decide ((i:Int)≠(k:Int))=true from c3,cond_true,← List.append_assoc,hin,hkn];rfl))
     ·repeat' (first|refine zN ?_|refine zE ?_|refine zP ?_|refine pD ?_|refine zS ?_|refine zR ?_|refine zO ?_|refine zB ?_|refine zX ?_|refine zT ?_|refine skipI rfl ?_)
      refine roundI (k+1) rfl ?_ ?_ ?_
      ·show k+1≤List.length (α:=Int) l
       omega
      ·show List.length (α:=Int) l - (k+1) < List.length (α:=Int) l - k
       omega
      ·repeat' (first|exact trivial|with_reducible exact rfl|refine And.intro ?_ ?_)
       all_goals (first|rfl|(rw [rowI_succ,show decide ((i:Int)≠(k:Int))=false from c3,cond_false,List.append_nil]))
    ·simp only [decide_eq_false_iff_not] at c2
     have hkl:k=List.length (α:=Int) l:=by omega
     subst hkl
     repeat' (first|refine zN ?_|refine zE ?_|refine zP ?_|refine pD ?_|refine zS ?_|refine zR ?_|refine zO ?_|refine zB ?_|refine zX ?_|refine zT ?_|refine skipI rfl ?_)
     refine roundI (i+1) rfl ?_ ?_ ?_
     ·show i+1≤List.length (α:=Int) l
      omega
     ·show List.length (α:=Int) l - (i+1) < List.length (α:=Int) l - i
      omega
     ·repeat' (first|exact trivial|with_reducible exact rfl|refine And.intro ?_ ?_)
      all_goals (first|rfl|(rw [rowsI_succ]))
  ·simp only [decide_eq_false_iff_not] at c1
   have hil:i=List.length (α:=Int) l:=by omega
   subst hil
   repeat' (first|refine zN ?_|refine zE ?_|refine zP ?_|refine pD ?_|refine zS ?_|refine zR ?_|refine zO ?_|refine zB ?_|refine zX ?_|refine zT ?_|refine skipI rfl ?_)
   refine endR rfl ?_
   repeat' (first|exact trivial|exact rfl|refine ⟨rfl,?_⟩|refine And.intro ?_ ?_)
def chRow (o:List PairT) (l:List PairT):List (List PairT):=l.map fun p=>o++[p]
def chStep (out:List (List PairT)) (x:NeedT):List (List PairT):=out.flatMap fun o=>chRow o (pairsI x.1)
def chR (ns:List NeedT):List (List PairT):=ns.foldl chStep [[]]
theorem chR_take {ns:List NeedT} {i:Nat} (h:i < ns.length):chR (ns.take (i+1))=chStep (chR (ns.take i)) (getI ns tNeed.dflt i):=by
 unfold chR
 rw [take_getI (d:=tNeed.dflt) h,List.foldl_append]
 rfl
theorem chStep_len {out:List (List PairT)} {x:NeedT} {n:Nat} (h:∀ o∈out,o.length=n):∀ o∈chStep out x,o.length=n+1:=fun o ho=>by
 simp only [chStep,chRow,List.mem_flatMap,List.mem_map] at ho
 obtain ⟨q,hq,p,_,rfl⟩:=ho
 simp [h q hq]
theorem flatM_len {α β:Type} {f:α→List β} {m:Nat}:∀ {l:List α},(∀ x∈l,(f x).length≤m)→(l.flatMap f).length≤l.length * m
 | [],_=>by simp
 | x::l,h=>by
   have h1:=h x (by simp)
   have h2:=flatM_len (l:=l) fun y hy=>h y (by simp [hy])
   rw [List.flatMap_cons,List.length_append,List.length_cons,Nat.add_mul,Nat.one_mul]
   omega
theorem pairsI_len (l:List Int) (h:l.length≤3):(pairsI l).length≤9:=Nat.le_trans (rowsI_len l l.length) (Nat.le_trans (Nat.mul_le_mul h h) (by decide))
theorem chStep_cnt {out:List (List PairT)} {x:NeedT} (h:x.1.length≤3):(chStep out x).length≤out.length * 9:=flatM_len fun o _=>by
 unfold chRow
 rw [List.length_map]
 exact pairsI_len _ h
theorem chR_facts {ns:List NeedT} (h:∀ x∈ns,x.1.length≤3):∀ i,i≤ns.length→(∀ o∈chR (ns.take i),o.length=i)∧(chR (ns.take i)).length≤9 ^ i
 | 0,_=>by simp [chR]
 | i+1,hi=>by
   obtain ⟨h1,h2⟩:=chR_facts h i (by omega)
   rw [chR_take (by omega)]
   refine ⟨chStep_len h1,Nat.le_trans (chStep_cnt (h _ (Pl.getI_mem (by omega)))) ?_⟩
   rw [Nat.pow_succ]
   exact Nat.mul_le_mul h2 (Nat.le_refl _)
def ChP (ns:List tNeed.El):Prop:=ns.length≤3∧∀ x∈ns,List.length (α:=Int) x.1≤3
def choS:Spec:=⟨true,fun args rows=>match args,rows with
 | [.agg [.int .i64 e,.int .i64 a,.int .i64 b,.sl (.pair (.slice (.int .i64)) (.pair (.int .i64) (.int .i64))) ns,.sl (.pair (.int .i64) (.pair (.int .i64) (.int .i64))) ws]],[]=>some ⟨ChP ns,.own 0,[.seq (.slice tPair) (chR ns)],true⟩
 | _,_=>none⟩
def sigCho:List (Nat × Spec):=[(105,pairsS)]
theorem sigChoOk:SigOk Tryz.prog (look sigCho):=sigCons sigNil Tryz.func105 (by kernel_rfl) (c:=body Tryz.f105) rfl pairsOk
theorem choOk:SpecSound Tryz.prog 67 choS:=by
 refine soundR (envOf sigChoOk) Tryz.func67 (c:=body Tryz.f67) rfl (by kernel_rfl) rfl ?_
 intro args rows out hf hpre
 split at hf <;> try (cases hf;done)
 rename_i e a b ns ws
 cases hf
 refine ⟨Nat.le_of_ble_eq_true rfl,initI (args:=[.agg [.int .i64 e,.int .i64 a,.int .i64 b,.sl tNeed ns,.sl tWin ws]]) (rows:=[]) rfl ?_⟩
 obtain ⟨hn,hts⟩:=hpre
 repeat' (first|refine zN ?_|refine zE ?_|refine zP ?_|refine pD ?_|refine zS ?_|refine zR ?_|refine zO ?_|refine zB ?_|refine zX ?_|refine zT ?_|refine skipI rfl ?_)
 refine loopI (σ:=Nat) (fun i=>[(3,.own 3000),(4,.int .i64 i)]) (fun i=>[(3000,.seq (.slice tPair) (chR (ns.take i)))]) (fun i=>i≤ns.length) (fun i=>ns.length - i) 0 rfl (fun _=>rfl) rfl ?_ ?_ ?_
 ·exact Nat.zero_le _
 ·repeat' (first|exact trivial|with_reducible exact rfl|refine And.intro ?_ ?_)
  all_goals rfl
 ·intro i hi
  obtain ⟨hol,hoc⟩:=chR_facts (ns:=ns) hts i hi
  have hoc3:(chR (ns.take i)).length≤729:=Nat.le_trans hoc (Nat.le_trans (Nat.pow_le_pow_right (by decide) (show i≤3 by omega)) (by decide))
  repeat' (first|refine zN ?_|refine zE ?_|refine zP ?_|refine pD ?_|refine zS ?_|refine zR ?_|refine zO ?_|refine zB ?_|refine zX ?_|refine zT ?_|refine skipI rfl ?_)
  refine condI rfl (fun c1=>?_) (fun c1=>?_)
  ·simp only [decide_eq_true_eq] at c1
   have hil:i < ns.length:=by omega
   have hin:((i:Int)).toNat=i:=by omega
   obtain ⟨x,hx⟩:∃ x:NeedT,x=getI ns tNeed.dflt i:=⟨_,rfl⟩
   have hx3:x.1.length≤3:=by rw [hx];exact hts _ (Pl.getI_mem hil)
   have hx':getI ns tNeed.dflt ((i:Int)).toNat=x:=by rw [hin];exact hx.symm
   have hnext:=chR_take hil
   rw [← hx] at hnext
   obtain ⟨out,hout⟩:∃ out,out=chR (ns.take i):=⟨_,rfl⟩
   rw [← hout] at hol hoc hoc3 hnext ⊢
   refine freezeI 3000 rfl ?_
   repeat' (first|refine zN ?_|refine zE ?_|refine zP ?_|refine zS ?_|refine zO ?_|refine zB ?_|refine zX ?_|refine zT ?_|refine skipI rfl ?_)
   refine zR ?_
   repeat' (first|with_reducible refine pN ?_|refine pD ?_|refine pC (by (rw [hx'];exact hx3)) ?_)
   repeat with_reducible refine cN ?_
   simp only [hx']
   obtain ⟨l,hl⟩:∃ l,l=pairsI x.1:=⟨_,rfl⟩
   have hl9:l.length≤9:=by rw [hl];exact pairsI_len _ hx3
   simp only [← hl]
   repeat' (first|refine zN ?_|refine zE ?_|refine zP ?_|refine pD ?_|refine zS ?_|refine zR ?_|refine zO ?_|refine zB ?_|refine zX ?_|refine zT ?_|refine skipI rfl ?_)
   refine loopI (σ:=Nat) (fun k=>[(6,.own 3001),(7,.int .i64 k)]) (fun k=>[(3001,.seq (.slice tPair) ((out.take k).flatMap fun o=>chRow o l))]) (fun k=>k≤out.length) (fun k=>out.length - k) 0 rfl (fun _=>rfl) rfl ?_ ?_ ?_
   ·exact Nat.zero_le _
   ·repeat' (first|exact trivial|with_reducible exact rfl|refine And.intro ?_ ?_)
    all_goals rfl
   ·intro k hk
    repeat' (first|refine zN ?_|refine zE ?_|refine zP ?_|refine pD ?_|refine zS ?_|refine zR ?_|refine zO ?_|refine zB ?_|refine zX ?_|refine zT ?_|refine skipI rfl ?_)
    refine condI rfl (fun c2=>?_) (fun c2=>?_)
    ·simp only [decide_eq_true_eq] at c2
     have hkl:k < out.length:=by omega
     have hkn:((k:Int)).toNat=k:=by omega
     obtain ⟨o,ho⟩:∃ o:List PairT,o=getI out (Ty.slice tPair).dflt k:=⟨_,rfl⟩
     have hon:o.length=i:=hol _ (by rw [ho];exact Pl.getI_mem hkl)
     obtain ⟨acc,hacc⟩:∃ acc,acc=(out.take k).flatMap fun o=>chRow o l:=⟨_,rfl⟩
     have haccl:acc.length≤6561:=by
      rw [hacc]
      refine Nat.le_trans (flatM_len (m:=9) fun o _=>by unfold chRow;rw [List.length_map];exact hl9) ?_
      rw [List.length_take]
      omega
     rw [← hacc]
     repeat' (first|refine zN ?_|refine zE ?_|refine zP ?_|refine pD ?_|refine zS ?_|refine zR ?_|refine zO ?_|refine zB ?_|refine zX ?_|refine zT ?_|refine skipI rfl ?_)
     refine loopI (σ:=Nat) (fun m=>[(6,.own 3001),(8,.int .i64 m)]) (fun m=>[(3001,.seq (.slice tPair) (acc++chRow o (l.take m)))]) (fun m=>m≤l.length) (fun m=>l.length - m) 0 rfl (fun _=>rfl) rfl ?_ ?_ ?_
     ·exact Nat.zero_le _
     ·repeat' (first|exact trivial|with_reducible exact rfl|refine And.intro ?_ ?_)
      all_goals simp [chRow]
     ·intro m hm
      have hcl:(acc++chRow o (l.take m)).length≤7000:=by
       unfold chRow
       rw [List.length_append,List.length_map,List.length_take]
       omega
      repeat' (first|refine zN ?_|refine zE ?_|refine zP ?_|refine pD ?_|refine zS ?_|refine zR ?_|refine zO ?_|refine zB ?_|refine zX ?_|refine zT ?_|refine skipI rfl ?_)
      refine condI rfl (fun c3=>?_) (fun c3=>?_)
      ·simp only [decide_eq_true_eq] at c3
       have hml:m < l.length:=by omega
       have hmn:((m:Int)).toNat=m:=by omega
       have hok:getI out (Ty.slice tPair).dflt ((k:Int)).toNat=o:=by rw [hkn];exact ho.symm
       repeat' (first|refine zN ?_|refine zE ?_|refine zP ?_|refine pD ?_|refine pC (by first|omega|(simp only [hok,List.length_append,List.length_cons,List.length_nil] at *;omega)) ?_|refine zS ?_|refine zR ?_|refine zO ?_|refine zB ?_|refine zX ?_|refine zT ?_|refine skipI rfl ?_)
       refine roundI (m+1) rfl ?_ ?_ ?_
       ·show m+1≤l.length
        omega
       ·show l.length - (m+1) < l.length - m
        omega
       ·repeat' (first|exact trivial|with_reducible exact rfl|refine And.intro ?_ ?_)
        all_goals (first|rfl|(unfold chRow;rw [take_getI (d:=tPair.dflt) hml,List.map_append,← List.append_assoc,hok,hmn];rfl))
      ·simp only [decide_eq_false_iff_not] at c3
       rw [List.take_of_length_le (by omega)]
       repeat' (first|refine zN ?_|refine zE ?_|refine zP ?_|refine pD ?_|refine zS ?_|refine zR ?_|refine zO ?_|refine zB ?_|refine zX ?_|refine zT ?_|refine skipI rfl ?_)
       refine roundI (k+1) rfl ?_ ?_ ?_
       ·show k+1≤out.length
        omega
       ·show out.length - (k+1) < out.length - k
        omega
       ·repeat' (first|exact trivial|with_reducible exact rfl|refine And.intro ?_ ?_)
        all_goals (first|rfl|(rw [take_getI (d:=(Ty.slice tPair).dflt) hkl,List.flatMap_append,← ho,hacc];simp))
    ·simp only [decide_eq_false_iff_not] at c2
     rw [List.take_of_length_le (by omega)]
     repeat' (first|refine zN ?_|refine zE ?_|refine zP ?_|refine pD ?_|refine zS ?_|refine zR ?_|refine zO ?_|refine zB ?_|refine zX ?_|refine zT ?_|refine skipI rfl ?_)
     refine roundI (i+1) rfl ?_ ?_ ?_
     ·show i+1≤ns.length
      omega
     ·show ns.length - (i+1) < ns.length - i
      omega
     ·repeat' (first|exact trivial|with_reducible exact rfl|refine And.intro ?_ ?_)
      all_goals (first|rfl|(rw [hnext,hl];rfl)|(rw [hnext];unfold chStep;rw [← hl]))
  ·simp only [decide_eq_false_iff_not] at c1
   rw [List.take_of_length_le (by omega)]
   repeat' (first|refine zN ?_|refine zE ?_|refine zP ?_|refine pD ?_|refine zS ?_|refine zR ?_|refine zO ?_|refine zB ?_|refine zX ?_|refine zT ?_|refine skipI rfl ?_)
   refine endR rfl ?_
   repeat' (first|exact trivial|exact rfl|refine ⟨rfl,?_⟩|refine And.intro ?_ ?_)
end Go.AM.YtmohhhbgcehnpaaGreat.Re
