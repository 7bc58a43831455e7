/- The reference's best plan, Make. -/
import Derived.Test.YtmohhhbgcehnpaaGreatReRdK
set_option linter.all false
namespace Go.AM.YtmohhhbgcehnpaaGreat.Re
open Go.Proofs
set_option maxRecDepth 100000
set_option maxHeartbeats 8000000
def rStep (d:BkL) (e b:Int) (ns:List NeedT) (ws:List tWin.El) (s:BestT) (ch:List PairT):BestT:=match stR b d e ns ch with
 | none=>s
 | some xs=>bif s.isSome&&decide (overG (lastG xs)≥overG (lastG (bStg s))) then s else bif okR e b xs ws then some (xs,overG (lastG xs)) else s
def rFold (d:BkL) (e b:Int) (ns:List NeedT) (ws:List tWin.El) (q:List (List PairT)):BestT:=q.foldl (rStep d e b ns ws) none
structure RbP (d:BkL) (e a b:Int) (ns:List tNeed.El) (ws:List tWin.El):Prop where
 cho:ChP ns
 po:∀ ch∈chR ns,PoP d e b ns ch ws
 ok:∀ ch∈chR ns,∀ xs,stR b d e ns ch=some xs→xs.length=ns.length∧Pl.validF e a b xs ws=true
def rBestS:Spec:=⟨true,fun args rows=>match args,rows with
 | [.ptr 0 0,.agg [.int .i64 e,.int .i64 a,.int .i64 b,.sl (.pair (.slice (.int .i64)) (.pair (.int .i64) (.int .i64))) ns,.sl (.pair (.int .i64) (.pair (.int .i64) (.int .i64))) ws],.sl (.int .i64) ds],[.box [.own 1],.seq (.pair (.int .i64) (.pair (.int .i64) (.pair (.int .i64) (.int .i64)))) d] =>
   some ⟨RbP d e a b ns ws∧ds=List.replicate ns.length (-1),bestV (rFold d e b ns ws (chR ns)) e a b ws,[.box [.own 1],.seq Bk d],true⟩
 | _,_=>none⟩
def sigRB:List (Nat × Spec):=[(67,choS),(68,poS),(69,rEndS),(70,rCheckS)]
theorem sigRBOk:SigOk Tryz.prog (look sigRB):=sigCons (sigCons (sigCons (sigCons sigNil
 Tryz.func70 (by kernel_rfl) (c:=body Tryz.f70) rfl rCheckOk)
 Tryz.func69 (by kernel_rfl) (c:=body Tryz.f69) rfl rEndOk)
 Tryz.func68 (by kernel_rfl) (c:=body Tryz.f68) rfl poOk)
 Tryz.func67 (by kernel_rfl) (c:=body Tryz.f67) rfl choOk
theorem valid_over {e a b:Int} {xs:List tStage.El} {ws:List tWin.El} (h:Pl.validF e a b xs ws=true):(1≤xs.length∧xs.length≤8)∧In64 (overG (lastG xs)):=by
 have F:=Pl.valid_facts h
 have hn:=F.n
 have S:=F.st (xs.length - 1) (by omega)
 refine ⟨hn,?_⟩
 have e1:lastG xs=getI xs Pl.tStage.dflt (xs.length - 1):=rfl
 rw [e1]
 generalize getI xs Pl.tStage.dflt (xs.length - 1)=x at S ⊢
 obtain ⟨mn,mx,⟨mt,ms⟩,st,ss⟩:=x
 unfold Pl.StOk at S
 unfold overG mSt sSt sMax In64
 dsimp only at S ⊢
 omega
def BsOk (s:BestT):Prop:=∀ y,s=some y→(1≤y.1.length∧y.1.length≤8)∧In64 (overG (lastG y.1))
theorem rBestOk:SpecSound Tryz.prog 37 rBestS:=by
 refine soundR (envOf sigRBOk) Tryz.func37 (c:=body Tryz.f37) rfl (by kernel_rfl) rfl ?_
 intro args rows out hf hpre
 split at hf <;> try (cases hf;done)
 rename_i e a b ns ws ds d
 cases hf
 refine ⟨Nat.le_of_ble_eq_true rfl,initI (args:=[.ptr 0 0,.agg [.int .i64 e,.int .i64 a,.int .i64 b,.sl tNeed ns,.sl tWin ws],.sl tInt ds]) (rows:=[.box [.own 1],.seq Bk d]) rfl ?_⟩
 obtain ⟨P,hds⟩:=hpre
 obtain ⟨hcho,hpo,hok⟩:=P
 have hdl:List.length (α:=Int) ds=ns.length:=by rw [hds,List.length_replicate]
 have hdg:∀ k,k < ns.length→getI ds (Ty.dflt (.int .i64)) k=(-1:Int):=fun k hk=>by rw [hds];simp [getI,List.getD,List.getElem?_replicate,hk]
 have hLn:(chR ns).length≤729:=by
  have h1:=(chR_facts (ns:=ns) hcho.2 ns.length (Nat.le_refl _)).2
  rw [List.take_of_length_le (Nat.le_refl _)] at h1
  exact Nat.le_trans h1 (Nat.le_trans (Nat.pow_le_pow_right (by decide) hcho.1) (by decide))
 have hF:∀ i,i < (chR ns).length→rFold d e b ns ws ((chR ns).take (i+1))=rStep d e b ns ws (rFold d e b ns ws ((chR ns).take i)) (getI (chR ns) (Ty.slice tPair).dflt i):=fun i hi=>by
  unfold rFold
  rw [take_getI (d:=(Ty.slice tPair).dflt) hi,List.foldl_append]
  rfl
 have h0:rFold d e b ns ws ((chR ns).take 0)=none:=rfl
 have hA:rFold d e b ns ws (chR ns)=rFold d e b ns ws ((chR ns).take (chR ns).length):=by rw [List.take_length]
 rw [hA]
 repeat' (first|refine zN ?_|refine zE ?_|refine zP ?_|refine pD ?_|refine pC (by (exact hcho)) ?_|refine zS ?_|refine zR ?_|refine zO ?_|refine zB ?_|refine zX ?_|refine zT ?_|refine skipI rfl ?_)
 generalize chR ns=L at *
 obtain ⟨F,hFd⟩:∃ F:Nat→BestT,F=fun i=>rFold d e b ns ws (L.take i):=⟨_,rfl⟩
 have hF:∀ i,i < L.length→F (i+1)=rStep d e b ns ws (F i) (getI L (Ty.slice tPair).dflt i):=fun i hi=>by rw [hFd];exact hF i hi
 have h0:F 0=none:=by rw [hFd];exact h0
 have hA:rFold d e b ns ws (L.take L.length)=F L.length:=by rw [hFd]
 rw [hA]
 refine loopI (σ:=Nat) (fun i=>[(9,.bool (F i).isSome),(11,.int .i64 i)]) (fun i=>[(8,.box [.int .i64 (sel (F i) e 0),.int .i64 (sel (F i) a 0),.int .i64 (sel (F i) b 0),.sl tStage (bStg (F i)),.sl tWin (sel (F i) ws [])])]) (fun i=>i≤L.length∧BsOk (F i)) (fun i=>L.length - i) 0 rfl (fun _=>rfl) rfl ?_ ?_ ?_
 ·exact ⟨Nat.zero_le _,by rw [h0];intro y hy;cases hy⟩
 ·repeat' (first|exact trivial|with_reducible exact rfl|refine And.intro ?_ ?_)
  all_goals (first|rfl|(rw [h0];rfl))
 rintro i ⟨hi,hbs⟩
 repeat' (first|refine zN ?_|refine zE ?_|refine zP ?_|refine pD ?_|refine zS ?_|refine zR ?_|refine zO ?_|refine zB ?_|refine zX ?_|refine zT ?_|refine skipI rfl ?_)
 refine condI rfl (fun c1=>?_) (fun c1=>?_)
 ·simp only [decide_eq_true_eq] at c1
  have hil:i < L.length:=by omega
  have hin:((i:Int)).toNat=i:=by omega
  have hnx:=hF i hil
  obtain ⟨ch,hch⟩:∃ ch:List PairT,ch=getI L (Ty.slice tPair).dflt i:=⟨_,rfl⟩
  have hmem:ch∈L:=by rw [hch];exact Pl.getI_mem hil
  have hok:=hok ch hmem
  have hci:getI L (Ty.slice tPair).dflt ((i:Int)).toNat=ch:=by rw [hin];exact hch.symm
  rw [← hch] at hnx
  generalize F i=s at *
  repeat' (first|refine zN ?_|refine zE ?_|refine zP ?_|refine zS ?_|refine zO ?_|refine zB ?_|refine zX ?_|refine zT ?_|refine skipI rfl ?_)
  refine zR ?_
  repeat' (first|with_reducible refine pN ?_|refine pD ?_|refine pC (by first|omega|(rw [hci];exact hpo ch hmem)) ?_)
  repeat with_reducible refine cN ?_
  simp only [hci]
  unfold rStep at hnx
  cases hs:stR b d e ns ch with
  | none =>
    rw [hs] at hnx
    have hnx:F (i+1)=s:=hnx
    refine tidyI [(13,.bool false)] [(12,.box [.int .i64 0,.int .i64 0,.int .i64 0,.sl tStage [],.sl tWin []])] rfl rfl ?_ ?_
    ·repeat' (first|exact trivial|exact rfl|refine ⟨rfl,?_⟩|refine And.intro ?_ ?_)
    repeat' (first|with_reducible refine cN ?_|refine zS ?_|refine skipI rfl ?_)
    refine regH [] rfl ?_
    repeat' (first|with_reducible refine pN ?_|refine pC (by first|trivial|rfl|(intro h;cases h)) ?_)
    repeat' (first|with_reducible refine cN ?_|refine zS ?_|refine skipI rfl ?_)
    refine condT rfl ?_
    repeat' (first|refine zN ?_|refine zE ?_|refine zP ?_|refine pD ?_|refine zS ?_|refine zR ?_|refine zO ?_|refine zB ?_|refine zX ?_|refine zT ?_|refine skipI rfl ?_)
    refine roundI (i+1) rfl ?_ ?_ ?_
    ·exact ⟨hil,by rw [hnx];exact hbs⟩
    ·show L.length - (i+1) < L.length - i
     omega
    ·repeat' (first|exact trivial|with_reducible exact rfl|refine And.intro ?_ ?_)
     all_goals (first|rfl|(rw [hnx]))
  | some xs =>
    obtain ⟨hxl,hxv⟩:=hok xs hs
    obtain ⟨⟨hx1,hx8⟩,hov⟩:=valid_over hxv
    rw [hs] at hnx
    have hnx:F (i+1)=bif s.isSome&&decide (overG (lastG xs)≥overG (lastG (bStg s))) then s else bif okR e b xs ws then some (xs,overG (lastG xs)) else s:=hnx
    refine tidyI [(13,.bool true)] [(12,.box [.int .i64 e,.int .i64 a,.int .i64 b,.sl tStage xs,.sl tWin ws])] rfl rfl ?_ ?_
    ·repeat' (first|exact trivial|exact rfl|refine ⟨rfl,?_⟩|refine And.intro ?_ ?_)
    have hb1:s.isSome=true→(1≤(bStg s).length∧(bStg s).length≤1000000)∧In64 (overG (lastG (bStg s))):=fun h=>by
     cases s with
     | none=>cases h
     | some y =>
       obtain ⟨⟨k1,k2⟩,k3⟩:=hbs y rfl
       exact ⟨⟨k1,Nat.le_trans k2 (by decide)⟩,k3⟩
    repeat' (first|with_reducible refine cN ?_|refine zS ?_|refine skipI rfl ?_)
    refine regH [] rfl ?_
    repeat' (first|with_reducible refine pN ?_|refine pC (by first|trivial|rfl|(intro _ _;exact ⟨⟨hx1,by omega⟩,hov⟩)|(intro _ h;exact hb1 h)|(intro _;exact ⟨⟨hx1,by omega⟩,hov⟩)|(intro h;exact hb1 h)) ?_)
    repeat' (first|with_reducible refine cN ?_|refine zS ?_|refine skipI rfl ?_)
    refine condI rfl (fun c2=>?_) (fun c2=>?_)
    ·have hc2:(s.isSome&&decide (overG (lastG xs)≥overG (lastG (bStg s))))=true:=by simpa using c2
     rw [hc2,cond_true] at hnx
     repeat' (first|refine zN ?_|refine zE ?_|refine zP ?_|refine pD ?_|refine zS ?_|refine zR ?_|refine zO ?_|refine zB ?_|refine zX ?_|refine zT ?_|refine skipI rfl ?_)
     refine roundI (i+1) rfl ?_ ?_ ?_
     ·exact ⟨hil,by rw [hnx];exact hbs⟩
     ·show L.length - (i+1) < L.length - i
      omega
     ·repeat' (first|exact trivial|with_reducible exact rfl|refine And.intro ?_ ?_)
      all_goals (first|rfl|(rw [hnx]))
    have hc2:(s.isSome&&decide (overG (lastG xs)≥overG (lastG (bStg s))))=false:=by simpa using c2
    rw [hc2,cond_false] at hnx
    repeat' (first|refine zN ?_|refine zE ?_|refine zP ?_|refine pD ?_|refine zS ?_|refine zR ?_|refine zO ?_|refine zB ?_|refine zX ?_|refine zT ?_|refine skipI rfl ?_)
    refine loopI (σ:=Nat) (fun k=>[(15,.int .i64 k)]) (fun k=>[]) (fun k=>k≤xs.length) (fun k=>xs.length - k) 0 rfl (fun _=>rfl) rfl ?_ ?_ ?_
    ·exact Nat.zero_le _
    ·repeat' (first|exact trivial|with_reducible exact rfl|refine And.intro ?_ ?_)
     all_goals rfl
    intro k hk
    repeat' (first|refine zN ?_|refine zE ?_|refine zP ?_|refine pD ?_|refine zS ?_|refine zR ?_|refine zO ?_|refine zB ?_|refine zX ?_|refine zT ?_|refine skipI rfl ?_)
    refine condI rfl (fun c3=>?_) (fun c3=>?_)
    ·simp only [decide_eq_true_eq] at c3
     have hkl:k < xs.length:=by omega
     have hkn:((k:Int)).toNat=k:=by omega
     have hdk:=hdg k (by omega)
     repeat' (first|refine zN ?_|refine zE ?_|refine zP ?_|refine zS ?_|refine zO ?_|refine zB ?_|refine zX ?_|refine zT ?_|refine skipI rfl ?_)
     refine zR ?_
     repeat' (first|with_reducible refine pN ?_|refine pD ?_|refine pC (by first|(simp only [hkn];omega)|(intros;omega)) ?_)
     repeat with_reducible refine cN ?_
     simp only [hkn,hdk]
     repeat' (first|with_reducible refine cN ?_|refine zS ?_|refine skipI rfl ?_)
     refine condI rfl (fun c4=>?_) (fun c4=>?_)
     ·exfalso
      simp at c4
     repeat' (first|refine zN ?_|refine zE ?_|refine zP ?_|refine pD ?_|refine zS ?_|refine zR ?_|refine zO ?_|refine zB ?_|refine zX ?_|refine zT ?_|refine skipI rfl ?_)
     refine roundI (k+1) rfl ?_ ?_ ?_
     ·show k+1≤xs.length
      omega
     ·show xs.length - (k+1) < xs.length - k
      omega
     ·repeat' (first|exact trivial|with_reducible exact rfl|refine And.intro ?_ ?_)
      all_goals rfl
    ·repeat' (first|with_reducible refine cN ?_|with_reducible refine lE ?_|refine zE ?_|refine zP ?_|refine zX ?_|refine zS ?_|refine skipI rfl ?_)
     repeat' (first|refine zN ?_|refine zE ?_|refine zP ?_|refine pD ?_|refine zS ?_|refine zR ?_|refine zO ?_|refine zB ?_|refine zX ?_|refine zT ?_|refine skipI rfl ?_)
     refine condF rfl ?_
     repeat' (first|refine zN ?_|refine zE ?_|refine zP ?_|refine pD ?_|refine pC (by (exact hxv)) ?_|refine zS ?_|refine zR ?_|refine zO ?_|refine zB ?_|refine zX ?_|refine zT ?_|refine skipI rfl ?_)
     cases hcr:okR e b xs ws with
     | false =>
       rw [hcr,cond_false] at hnx
       repeat' (first|refine zN ?_|refine zE ?_|refine zP ?_|refine pD ?_|refine zS ?_|refine zR ?_|refine zO ?_|refine zB ?_|refine zX ?_|refine zT ?_|refine skipI rfl ?_)
       refine condF rfl ?_
       repeat' (first|refine zN ?_|refine zE ?_|refine zP ?_|refine pD ?_|refine zS ?_|refine zR ?_|refine zO ?_|refine zB ?_|refine zX ?_|refine zT ?_|refine skipI rfl ?_)
       refine roundI (i+1) rfl ?_ ?_ ?_
       ·exact ⟨hil,by rw [hnx];exact hbs⟩
       ·show L.length - (i+1) < L.length - i
        omega
       ·repeat' (first|exact trivial|with_reducible exact rfl|refine And.intro ?_ ?_)
        all_goals (first|rfl|(rw [hnx]))
     | true =>
       rw [hcr,cond_true] at hnx
       repeat' (first|refine zN ?_|refine zE ?_|refine zP ?_|refine pD ?_|refine zS ?_|refine zR ?_|refine zO ?_|refine zB ?_|refine zX ?_|refine zT ?_|refine skipI rfl ?_)
       refine condT rfl ?_
       repeat' (first|refine zN ?_|refine zE ?_|refine zP ?_|refine pD ?_|refine zS ?_|refine zR ?_|refine zO ?_|refine zB ?_|refine zX ?_|refine zT ?_|refine skipI rfl ?_)
       refine roundI (i+1) rfl ?_ ?_ ?_
       ·refine ⟨hil,?_⟩
        rw [hnx]
        intro y hy
        cases hy
        exact ⟨⟨hx1,hx8⟩,hov⟩
       ·show L.length - (i+1) < L.length - i
        omega
       ·repeat' (first|exact trivial|with_reducible exact rfl|refine And.intro ?_ ?_)
        all_goals (first|rfl|(rw [hnx];rfl))
 ·simp only [decide_eq_false_iff_not] at c1
  rw [show L.length=i by omega]
  repeat' (first|refine zN ?_|refine zE ?_|refine zP ?_|refine pD ?_|refine zS ?_|refine zR ?_|refine zO ?_|refine zB ?_|refine zX ?_|refine zT ?_|refine skipI rfl ?_)
  refine endR rfl ?_
  repeat' (first|exact trivial|exact rfl|refine ⟨rfl,?_⟩|refine And.intro ?_ ?_)
def rMakeS:Spec:=⟨true,fun args rows=>match args,rows with
 | [.ptr 0 0,.agg [.int .i64 e,.int .i64 a,.int .i64 b,.sl (.pair (.slice (.int .i64)) (.pair (.int .i64) (.int .i64))) ns,.sl (.pair (.int .i64) (.pair (.int .i64) (.int .i64))) ws]],[.box [.own 1],.seq (.pair (.int .i64) (.pair (.int .i64) (.pair (.int .i64) (.int .i64)))) d] =>
   some ⟨(ns.length≤1000000∧ws.length≤1000000∧∀ x∈ns,List.length (α:=Int) x.1≤1000000)∧(rvalidF e a b ns ws=true→RbP d e a b ns ws),
    makeV (bif rvalidF e a b ns ws then rFold d e b ns ws (chR ns) else none) e a b ws,[.box [.own 1],.seq Bk d],true⟩
 | _,_=>none⟩
def sigRM:List (Nat × Spec):=[(10,rqS),(38,rNoneS),(37,rBestS)]
theorem sigRMOk:SigOk Tryz.prog (look sigRM):=sigCons (sigCons (sigCons sigNil
 Tryz.func37 (by kernel_rfl) (c:=body Tryz.f37) rfl rBestOk)
 Tryz.func38 (by kernel_rfl) (c:=body Tryz.f38) rfl rNoneOk)
 Tryz.func10 (by kernel_rfl) (c:=body Tryz.f10) rfl rqOk
theorem rMakeOk:SpecSound Tryz.prog 12 rMakeS:=by
 refine soundR (envOf sigRMOk) Tryz.func12 (c:=body Tryz.f12) rfl (by kernel_rfl) rfl ?_
 intro args rows out hf hpre
 split at hf <;> try (cases hf;done)
 rename_i e a b ns ws d
 cases hf
 refine ⟨Nat.le_of_ble_eq_true rfl,initI (args:=[.ptr 0 0,.agg [.int .i64 e,.int .i64 a,.int .i64 b,.sl tNeed ns,.sl tWin ws]]) (rows:=[.box [.own 1],.seq Bk d]) rfl ?_⟩
 obtain ⟨hb,hR⟩:=hpre
 obtain ⟨o,ho⟩:∃ o,o=bif rvalidF e a b ns ws then rFold d e b ns ws (chR ns) else none:=⟨_,rfl⟩
 rw [← ho]
 repeat' (first|refine zN ?_|refine zE ?_|refine zP ?_|refine pD ?_|refine pC (by exact hb) ?_|refine zS ?_|refine zR ?_|refine zO ?_|refine zB ?_|refine zX ?_|refine zT ?_|refine skipI rfl ?_)
 cases c1:rvalidF e a b ns ws with
 | true =>
   have R:=hR c1
   rw [c1,cond_true] at ho
   refine condF rfl ?_
   have hn:(((ns.length:Nat):Int)).toNat=ns.length:=by omega
   repeat' (first|refine zN ?_|refine zE ?_|refine zP ?_|refine zS ?_|refine zO ?_|refine zB ?_|refine zX ?_|refine zT ?_|refine skipI rfl ?_)
   refine zR ?_
   repeat' (first|with_reducible refine pN ?_|refine pD ?_|refine pC (by first|exact ⟨R,by rw [hn]⟩|omega) ?_)
   repeat with_reducible refine cN ?_
   rw [← ho]
   repeat' (first|refine zN ?_|refine zE ?_|refine zP ?_|refine pD ?_|refine zS ?_|refine zR ?_|refine zO ?_|refine zB ?_|refine zX ?_|refine zT ?_|refine skipI rfl ?_)
   cases o with
   | none =>
     refine condT rfl ?_
     repeat' (first|refine zN ?_|refine zE ?_|refine zP ?_|refine pD ?_|refine zS ?_|refine zR ?_|refine zO ?_|refine zB ?_|refine zX ?_|refine zT ?_|refine skipI rfl ?_)
     refine endR rfl ?_
     repeat' (first|exact trivial|exact rfl|refine ⟨rfl,?_⟩|refine And.intro ?_ ?_)
   | some x =>
     refine condF rfl ?_
     repeat' (first|refine zN ?_|refine zE ?_|refine zP ?_|refine pD ?_|refine zS ?_|refine zR ?_|refine zO ?_|refine zB ?_|refine zX ?_|refine zT ?_|refine skipI rfl ?_)
     refine endR rfl ?_
     repeat' (first|exact trivial|exact rfl|refine ⟨rfl,?_⟩|refine And.intro ?_ ?_)
 | false =>
   rw [c1,cond_false] at ho
   rw [ho]
   refine condT rfl ?_
   repeat' (first|refine zN ?_|refine zE ?_|refine zP ?_|refine pD ?_|refine zS ?_|refine zR ?_|refine zO ?_|refine zB ?_|refine zX ?_|refine zT ?_|refine skipI rfl ?_)
   refine endR rfl ?_
   repeat' (first|exact trivial|exact rfl|refine ⟨rfl,?_⟩|refine And.intro ?_ ?_)
end Go.AM.YtmohhhbgcehnpaaGreat.Re
