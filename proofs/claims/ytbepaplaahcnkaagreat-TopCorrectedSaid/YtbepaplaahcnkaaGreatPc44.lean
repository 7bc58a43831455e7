/- TpK. -/
import Derived.Test.YtbepaplaahcnkaaGreatPc33
import Derived.Test.YtbepaplaahcnkaaGreatPc37
import Derived.Test.YtbepaplaahcnkaaGreatPc43

section
set_option linter.all false
namespace Go.AM.YtbepaplaahcnkaaGreat.Tp
open Go.Proofs Go.AM.YtbepaplaahcnkaaGreat.Fc Go.AM.YtbepaplaahcnkaaGreat.Bs Go.AM.YtbepaplaahcnkaaGreat.Gn Go.AM.YtbepaplaahcnkaaGreat.Ex
set_option maxRecDepth 100000
def lotF (w:Int):FcT:=(4,0,1,0,false,0,0,w,0,1,1,0,0,0,0,0,0,0,(⟨#[]⟩:ByteArray))
def lotsN (n:Nat):List FcT:=(List.range n).map fun (i:Nat)=>lotF ((i:Int)+1)
def notSL (x:FcT):Bool:=decide (kdX x≠3)&&decide (kdX x≠4)
def l0F (x:List I6) (y:List I3):List FcT:=(someX x++gapsX y).filter notSL++lotsN 6
def swpF (one two:Int):FcT:=(3,500,1,10,false,0,0,one,two,0,0,0,0,0,0,0,0,0,(⟨#[]⟩:ByteArray))
def FL (x:FcT):Prop:=(FOk x∧dayX x≤10)∧((kdX x=1∧(1≤(x.2.1:Int)∧(x.2.1:Int)≤12)∧(1≤(x.2.2.2.2.2.2.2.1:Int)∧(x.2.2.2.2.2.2.2.1:Int)≤6))∨(kdX x=11∧1≤(x.2.1:Int)∧(x.2.1:Int)≤5)∨∃ w:Int,1≤w∧w≤6∧x=lotF w)
structure LsOk (l:List FcT):Prop where
 all:∀ x∈l,FL x
 lot:∀ w:Int,1≤w→w≤6→lotF w∈l
 len:l.length≤100
theorem LsOk.perm {l m:List FcT} (h:LsOk l) (hp:m.Perm l):LsOk m:=⟨fun x hx=>h.all x (hp.mem_iff.1 hx),fun w h1 h2=>hp.mem_iff.2 (h.lot w h1 h2),by rw [hp.length_eq];exact h.len⟩
theorem LsOk.ok {l:List FcT} (h:LsOk l):∀ x∈l,FOk x:=fun x hx=>(h.all x hx).1.1
theorem smP_ok (y:I6):FL (smP y):=by
 have h1:=pick_b (c:=Int.tdiv y.1 4) (n:=3) (by decide)
 have h2:=pick_b (c:=y.2.1) (n:=10) (by decide)
 have h3:=pick_b (c:=y.2.2.1) (n:=12) (by decide)
 have h4:=pick_b (c:=y.2.2.2.1) (n:=6) (by decide)
 have h5:=pick_b (c:=y.2.2.2.2.1) (n:=50) (by decide)
 have h6:=pick_b (c:=y.2.2.2.2.2) (n:=3) (by decide)
 have h7:=pick_b (c:=Int.tdiv y.2.2.2.2.2 3) (n:=4) (by decide)
 have hf:FOk1 (1) (1+pickF y.2.2.1 12) (1+pickF (Int.tdiv y.1 4) 3) (pickF y.2.1 10) (decide (pickF (Int.tdiv y.2.1 10) 6=0)) (pickF y.2.2.2.2.1 50) (pickF y.2.2.2.2.1 50+5) (1+pickF y.2.2.2.1 6) (0) (0) (0) (pickF y.2.2.2.2.2 3) (0) (pickF (Int.tdiv y.2.2.2.2.2 3) 4) (1) (1) (0) (0) (⟨#[]⟩):=⟨⟨by omega,by omega,by omega,by omega,rfl,rfl,rfl,by omega,by omega⟩,.inl ⟨rfl,by omega,by omega,by omega,by omega,by omega,by omega,rfl,rfl,rfl,by omega,by omega,by omega,by omega,by omega,by omega,by omega,by omega,by omega,by omega⟩⟩
 refine ⟨⟨hf,?_⟩,.inl ⟨rfl,⟨?_,?_⟩,?_,?_⟩⟩
 ·show pickF y.2.1 10≤10;omega
 ·show 1≤1+pickF y.2.2.1 12;omega
 ·show 1+pickF y.2.2.1 12≤12;omega
 ·show 1≤1+pickF y.2.2.2.1 6;omega
 ·show 1+pickF y.2.2.2.1 6≤6;omega
theorem gap_ok {i:Nat} (y:I3) (hi:i < 5):FL (gapF i y):=by
 have h1:=pick_b (c:=y.1) (n:=3) (by decide)
 have h2:=pick_b (c:=y.2.1) (n:=60) (by decide)
 have h3:=pick_b (c:=y.2.2) (n:=20) (by decide)
 have hf:FOk1 (11) (1+(i:Int)) (1) (0) (false) (pickF y.2.1 60) (pickF y.2.1 60+pickF y.2.2 20) (0) (0) (0) (0) (pickF y.1 3) (0) (0) (0) (0) (0) (0) (⟨#[]⟩):=⟨⟨by omega,by omega,by omega,by omega,rfl,rfl,rfl,by omega,by omega⟩,.inr (.inr (.inr ⟨rfl,by omega,by omega,by omega,by omega,rfl,rfl,rfl,rfl,by omega,by omega,by omega,by omega,rfl,rfl,rfl⟩))⟩
 refine ⟨⟨hf,by show (0:Int)≤10;omega⟩,.inr (.inl ⟨rfl,?_,?_⟩)⟩
 ·show 1≤1+(i:Int);omega
 ·show 1+(i:Int)≤5;omega
theorem lot_ok {w:Int} (h1:1≤w) (h2:w≤6):FL (lotF w):=by
 have hf:FOk1 (4) (0) (1) (0) (false) (0) (0) (w) (0) (1) (1) (0) (0) (0) (0) (0) (0) (0) (⟨#[]⟩):=⟨⟨by omega,by omega,by omega,by omega,rfl,rfl,rfl,by omega,by omega⟩,.inr (.inr (.inl ⟨rfl,rfl,rfl,by omega,by omega,rfl,by omega,by omega,by omega,by omega,rfl,rfl,rfl,rfl,rfl⟩))⟩
 exact ⟨⟨hf,by show (0:Int)≤10;omega⟩,.inr (.inr ⟨w,h1,h2,rfl⟩)⟩
theorem swp_ok {one two:Int} (h1:1≤one∧one≤6) (h2:1≤two∧two≤6) (h3:one≠two):FOk (swpF one two)∧dayX (swpF one two)≤10:=by
 have hf:FOk1 (3) (500) (1) (10) (false) (0) (0) (one) (two) (0) (0) (0) (0) (0) (0) (0) (0) (0) (⟨#[]⟩):=⟨⟨by omega,by omega,by omega,by omega,rfl,rfl,rfl,by omega,by omega⟩,.inr (.inl ⟨rfl,by omega,by omega,rfl,by omega,by omega,by omega,by omega,h3,rfl,rfl,rfl,rfl,rfl,rfl,rfl⟩)⟩
 exact ⟨hf,by show (10:Int)≤10;omega⟩
theorem some_kind (y:I6) (h:notSL (someF y)=true):FL (someF y):=by
 unfold someF at h ⊢
 cases hk:(decide (pickF y.1 4=0)||decide (pickF y.1 4=1))
 ·rw [hk] at h
  exfalso
  cases hk2:decide (pickF y.1 4=2)
  ·rw [hk2] at h
   have h:notSL (smL y)=true:=h
   have:notSL (smL y)=false:=rfl
   rw [this] at h;cases h
  ·rw [hk2] at h
   have h:notSL (smS y)=true:=h
   have:notSL (smS y)=false:=rfl
   rw [this] at h;cases h
 ·exact smP_ok y
theorem l0_ok (x:List I6) (y:List I3):LsOk (l0F x y):=by
 refine ⟨fun z hz=>?_,fun w h1 h2=>?_,?_⟩
 ·unfold l0F at hz
  rcases List.mem_append.1 hz with hz|hz
  ·obtain ⟨hz,hn⟩:=List.mem_filter.1 hz
   rcases List.mem_append.1 hz with hz|hz
   ·unfold someX at hz
    obtain ⟨v,_,rfl⟩:=List.mem_map.1 hz
    exact some_kind v hn
   ·unfold gapsX gapsN at hz
    obtain ⟨i,hi,rfl⟩:=List.mem_map.1 hz
    have hi:=List.mem_range.1 hi
    exact gap_ok _ (by omega)
  ·unfold lotsN at hz
   obtain ⟨i,hi,rfl⟩:=List.mem_map.1 hz
   have hi:=List.mem_range.1 hi
   exact lot_ok (by omega) (by omega)
 ·unfold l0F
  refine List.mem_append.2 (.inr ?_)
  unfold lotsN
  exact List.mem_map.2 ⟨(w - 1).toNat,List.mem_range.2 (by omega),by congr 1;omega⟩
 ·unfold l0F
  rw [List.length_append]
  have h1:=List.length_filter_le notSL (someX x++gapsX y)
  rw [List.length_append] at h1
  have h2:(someX x).length≤30:=by unfold someX;rw [List.length_map];exact List.length_take_le _ _
  have h3:(gapsX y).length≤5:=by unfold gapsX gapsN;rw [List.length_map,List.length_range];omega
  have h4:(lotsN 6).length=6:=by unfold lotsN;rw [List.length_map,List.length_range]
  omega
theorem keyX_of {x:FcT}:keyX x=kdX x::bif decide (kdX x=4) then [(x.2.2.2.2.2.2.2.1:Int),(x.2.2.2.2.2.1:Int)] else [(x.2.1:Int)]:=rfl
theorem key_kd {x y:FcT} (h:keyX x=keyX y):kdX x=kdX y:=by
 rw [keyX_of,keyX_of] at h
 exact (List.cons.inj h).1
theorem bestM_nodup (l:List FcT):(bestM l).Nodup:=(best_ok l).pw.imp fun h e=>h (by rw [e])
theorem mem_best {l:List FcT} (hl:∀ x∈l,FOk x) {e:KvT}:e∈bestM l↔e.1=kyB e.2∧Best l e.2:=by
 constructor
 ·intro h
  have h1:=((best_ok l).ky e h).1
  refine ⟨h1,(best_iff hl).1 ?_⟩
  rw [← h1]
  exact h
 ·rintro ⟨h1,h2⟩
  have:=(best_iff hl).2 h2
  rw [← h1] at this
  exact this
theorem best_perm {l m:List FcT} (hl:∀ x∈l,FOk x) (hp:m.Perm l):(bestM m).Perm (bestM l):=by
 refine (List.perm_ext_iff_of_nodup (bestM_nodup m) (bestM_nodup l)).2 fun e=>?_
 rw [mem_best hl,mem_best (fun x hx=>hl x (hp.mem_iff.1 hx))]
 have:Best m e.2↔Best l e.2:=by
  unfold Best
  rw [hp.mem_iff]
  constructor
  ·rintro ⟨h1,h2⟩
   exact ⟨h1,fun y hy=>h2 y (hp.mem_iff.2 hy)⟩
  ·rintro ⟨h1,h2⟩
   exact ⟨h1,fun y hy=>h2 y (hp.mem_iff.1 hy)⟩
 rw [this]
theorem facts_perm {l m:List FcT} (hl:∀ x∈l,FOk x) (hp:m.Perm l) (k:Int):factsF k m=factsF k l:=facts_eq hl (best_perm hl hp) k
theorem facts_mem {l:List FcT} {k:Int} {x:FcT}:x∈factsF k l↔x∈kindP k (bestM l):=sortF_perm.mem_iff
theorem kind_in {l:List FcT} {k:Int} {x:FcT} (h:x∈kindP k (bestM l)):x∈l∧kdX x=k∧goneX x=false:=by
 obtain ⟨e,he,rfl,h1,h2⟩:=kindP_mem.1 h
 exact ⟨((best_ok l).ky e he).2,h1,h2⟩
theorem facts_in {l:List FcT} {k:Int} {x:FcT} (h:x∈factsF k l):x∈l∧kdX x=k∧goneX x=false:=kind_in (facts_mem.1 h)
theorem facts_len {l:List FcT} {k:Int}:(factsF k l).length=(kindP k (bestM l)).length:=sortF_length
theorem kindP_nodup (l:List FcT) (k:Int):(kindP k (bestM l)).Nodup:=by
 have H:=best_ok l
 have h1:(bestM l).Pairwise fun a b=>a.2≠b.2:=H.pw.imp_of_mem fun {a b} ha hb h e=>h (by rw [(H.ky a ha).1,(H.ky b hb).1,e])
 unfold kindP
 exact List.pairwise_map.2 (h1.filter _)
theorem few_by {l:List FcT} {k:Int} (hl:∀ x∈l,FOk x) (N:Nat) (f:FcT→Int) (hf:∀ x∈kindP k (bestM l),∀ y∈kindP k (bestM l),f x=f y→ordK k x=ordK k y) (hr:∀ x∈kindP k (bestM l),1≤f x∧f x≤N):(kindP k (bestM l)).length≤N:=by
 have hnd:((kindP k (bestM l)).map f).Nodup:=List.pairwise_map.2 ((kindP_nodup l k).imp_of_mem fun {a b} ha hb h e=>h (ord_inj hl a ha b hb (hf a ha b hb e)))
 have hsub:(kindP k (bestM l)).map f ⊆ (List.range N).map fun (i:Nat)=>(i:Int)+1:=fun n hn=>by
  obtain ⟨x,hx,rfl⟩:=List.mem_map.1 hn
  obtain ⟨h1,h2⟩:=hr x hx
  exact List.mem_map.2 ⟨(f x - 1).toNat,List.mem_range.2 (by omega),by omega⟩
 have:=List.Nodup.length_le_of_subset hnd hsub
 rwa [List.length_map,List.length_map,List.length_range] at this
theorem FL.k1 {x:FcT} (h:FL x) (hk:kdX x=1):(1≤(x.2.1:Int)∧(x.2.1:Int)≤12)∧(1≤(x.2.2.2.2.2.2.2.1:Int)∧(x.2.2.2.2.2.2.2.1:Int)≤6):=by
 rcases h.2 with h|h|⟨w,_,_,rfl⟩
 ·exact h.2
 ·exact absurd (hk.symm.trans h.1) (by decide)
 ·exact absurd (show (4:Int)=1 from hk) (by decide)
theorem FL.k11 {x:FcT} (h:FL x) (hk:kdX x=11):1≤(x.2.1:Int)∧(x.2.1:Int)≤5:=by
 rcases h.2 with h|h|⟨w,_,_,rfl⟩
 ·exact absurd (hk.symm.trans h.1) (by decide)
 ·exact h.2
 ·exact absurd (show (4:Int)=11 from hk) (by decide)
theorem FL.k4 {x:FcT} (h:FL x) (hk:kdX x=4):∃ w:Int,1≤w∧w≤6∧x=lotF w:=by
 rcases h.2 with h|h|h
 ·exact absurd (hk.symm.trans h.1) (by decide)
 ·exact absurd (hk.symm.trans h.1) (by decide)
 ·exact h
theorem FL.kd {x:FcT} (h:FL x):kdX x=1∨kdX x=11∨kdX x=4:=by
 rcases h.2 with h|h|⟨w,_,_,rfl⟩
 ·exact .inl h.1
 ·exact .inr (.inl h.1)
 ·exact .inr (.inr rfl)
theorem few_1 {l:List FcT} (H:LsOk l):(kindP 1 (bestM l)).length≤12 :=
 few_by H.ok 12 (fun x=>(x.2.1:Int)) (fun _ _ _ _ h=>h) fun x hx=>(FL.k1 (H.all x (kind_in hx).1) (kind_in hx).2.1).1
theorem few_11 {l:List FcT} (H:LsOk l):(kindP 11 (bestM l)).length≤5 :=
 few_by H.ok 5 (fun x=>(x.2.1:Int)) (fun _ _ _ _ h=>h) fun x hx=>FL.k11 (H.all x (kind_in hx).1) (kind_in hx).2.1
theorem few_4 {l:List FcT} (H:LsOk l):(kindP 4 (bestM l)).length≤6 :=
 few_by H.ok 6 (fun x=>(x.2.2.2.2.2.2.2.1:Int)) (fun x hx y hy h=>by
  obtain ⟨w,_,_,rfl⟩:=FL.k4 (H.all x (kind_in hx).1) (kind_in hx).2.1
  obtain ⟨v,_,_,rfl⟩:=FL.k4 (H.all y (kind_in hy).1) (kind_in hy).2.1
  have h:w=v:=h
  rw [h]) fun x hx=>by
  obtain ⟨w,h1,h2,rfl⟩:=FL.k4 (H.all x (kind_in hx).1) (kind_in hx).2.1
  exact ⟨h1,h2⟩
theorem kind_no {l:List FcT} (H:LsOk l) {k:Int} (hk:¬ (k=1∨k=11∨k=4)):kindP k (bestM l)=[]:=by
 cases h:kindP k (bestM l) with
 | nil=>rfl
 | cons x r =>
   exfalso
   have hx:x∈kindP k (bestM l):=by rw [h];simp
   have h1:=FL.kd (H.all x (kind_in hx).1)
   rw [(kind_in hx).2.1] at h1
   exact hk h1
theorem few_l {l:List FcT} (H:LsOk l) (k:Int):(kindP k (bestM l)).length≤18:=by
 by_cases h1:k=1
 ·subst h1;exact Nat.le_trans (few_1 H) (by decide)
 by_cases h2:k=11
 ·subst h2;exact Nat.le_trans (few_11 H) (by decide)
 by_cases h3:k=4
 ·subst h3;exact Nat.le_trans (few_4 H) (by decide)
 rw [kind_no H (by omega)]
 exact Nat.zero_le _
theorem LsOk.ofOk {l:List FcT} (H:LsOk l):OfOk l 10:=⟨Nat.le_trans H.len (by decide),H.ok,fun x hx=>(H.all x hx).1.2,fun k=>Nat.le_trans (few_l H k) (by decide)⟩
theorem lots_mem {l:List FcT} (H:LsOk l) {w:Int} (h1:1≤w) (h2:w≤6):lotF w∈factsF 4 l:=by
 refine facts_mem.2 (kindP_mem.2 ⟨(kyB (lotF w),lotF w),(best_iff H.ok).2 ⟨H.lot w h1 h2,fun y hy hk=>?_⟩,rfl,rfl,rfl⟩)
 have hkx:=kyB_inj (H.ok y hy) (lot_ok h1 h2).1.1 hk
 have hkd:kdX y=4:=key_kd hkx
 obtain ⟨v,_,_,rfl⟩:=FL.k4 (H.all y hy) hkd
 have hkx:[(4:Int),v,0]=[4,w,0]:=hkx
 have hv:v=w:=by simpa using hkx
 rw [hv]
 exact prev_irr
theorem facts_no {l:List FcT} (H:LsOk l) {k:Int} (hk:¬ (k=1∨k=11∨k=4)):factsF k l=[]:=by
 have:=facts_len (l:=l) (k:=k)
 rw [kind_no H hk] at this
 exact List.length_eq_zero_iff.1 this
theorem insS_perm {x:ByteArray} {y:FcT}:∀ {m:List KvT},(mapIns .str tFc x y m).Perm ((x,y)::m)
 | []=>.refl _
 | e::m=>by
   unfold mapIns
   exact (insS_perm (m:=m)).cons e |>.trans (.swap _ _ _)
theorem best_swp {l:List FcT} (H:LsOk l) {s:FcT} (hs:FOk s) (hk:kdX s=3):(bestM (l++[s])).Perm ((kyB s,s)::bestM l):=by
 have h0:bestM (l++[s])=bestS (bestM l) s:=by
  unfold bestM
  rw [List.foldl_append]
  rfl
 rw [h0]
 unfold bestS
 cases h:mapFind .str tFc (kyB s) (bestM l) with
 | none =>
   show (mapSet .str tFc (kyB s) s (bestM l)).Perm _
   unfold mapSet
   rw [h]
   exact insS_perm
 | some old =>
   exfalso
   obtain ⟨h1,h2⟩:=(best_ok l).ky _ (find_some h)
   have hkd:=key_kd (kyB_inj hs (H.ok _ h2) h1)
   rw [hk] at hkd
   have:=FL.kd (H.all _ h2)
   omega
theorem swp_all {l:List FcT} (H:LsOk l) {s:FcT} (hs:FOk s):∀ x∈l++[s],FOk x:=fun x hx=>by
 rcases List.mem_append.1 hx with h|h
 ·exact H.ok x h
 ·rw [List.mem_singleton.1 h];exact hs
theorem kindP_cons {k:Int} {e:KvT} {m:List KvT}:kindP k (e::m)=bif isK k e then e.2::kindP k m else kindP k m:=by
 unfold kindP
 rw [List.filter_cons]
 cases h:isK k e <;> simp [h]
theorem facts_swp {l:List FcT} (H:LsOk l) {s:FcT} (hs:FOk s) (hk:kdX s=3) {k:Int} (h3:k≠3):factsF k (l++[s])=factsF k l:=by
 rw [← facts_eq (swp_all H hs) (best_swp H hs hk).symm k,kindP_cons]
 have:isK k (kyB s,s)=false:=by
  unfold isK
  rw [show decide (kdX s=k)=false by rw [hk];exact decide_eq_false fun h=>h3 h.symm]
  rfl
 rw [this]
 rfl
theorem facts_swp3 {l:List FcT} (H:LsOk l) {s:FcT} (hs:FOk s) (hk:kdX s=3) (hg:goneX s=false):factsF 3 (l++[s])=[s]:=by
 rw [← facts_eq (swp_all H hs) (best_swp H hs hk).symm 3,kindP_cons,kind_no H (by omega)]
 have:isK 3 (kyB s,s)=true:=by
  unfold isK
  rw [show decide (kdX s=3)=true by rw [hk];rfl,hg]
  rfl
 rw [this]
 rfl
theorem swp_ofOk {l:List FcT} (H:LsOk l) {s:FcT} (hs:FOk s) (hd:dayX s≤10) (hk:kdX s=3):OfOk (l++[s]) 10:=by
 refine ⟨by rw [List.length_append];have:=H.len;show _+1≤1000;omega,swp_all H hs,fun x hx=>?_,fun k=>?_⟩
 ·rcases List.mem_append.1 hx with h|h
  ·exact (H.all x h).1.2
  ·rw [List.mem_singleton.1 h];exact hd
 ·rw [(kindP_perm (best_swp H hs hk)).length_eq,kindP_cons]
  have:=few_l H k
  cases isK k (kyB s,s)
  ·show (kindP k (bestM l)).length≤19
   omega
  ·show (s::kindP k (bestM l)).length≤19
   rw [List.length_cons]
   omega
theorem fint_none {n:Int}:∀ {m:List (Int × Bool)},mapFind tI .bool n m=none→n ∉ Gn.keysOf m
 | [],_,h=>by cases h
 | e::m,hf,h=>by
   unfold mapFind at hf
   cases hk:keyEq tI n e.1
   ·rw [hk] at hf
    rcases List.mem_cons.1 h with h|h
    ·exact (of_decide_eq_false hk) h
    ·exact fint_none hf h
   ·rw [hk] at hf;cases hf
theorem fint_some {n:Int} {b:Bool}:∀ {m:List (Int × Bool)},mapFind tI .bool n m=some b→n∈Gn.keysOf m
 | [],h=>by cases h
 | e::m,hf=>by
   unfold mapFind at hf
   cases hk:keyEq tI n e.1
   ·rw [hk] at hf
    exact List.mem_cons_of_mem _ (fint_some hf)
   ·exact List.mem_cons.2 (.inl (of_decide_eq_true hk))
theorem put_keys {n:Int} {b:Bool}:∀ {m:List (Int × Bool)},Gn.keysOf (mapPut tI .bool n b m)=Gn.keysOf m
 | []=>rfl
 | e::m=>by
   unfold mapPut
   cases hk:keyEq tI n e.1
   ·show e.1::Gn.keysOf (mapPut tI .bool n b m)=e.1::Gn.keysOf m
    rw [put_keys]
   ·have:n=e.1:=of_decide_eq_true hk
    show n::Gn.keysOf m=e.1::Gn.keysOf m
    rw [this]
theorem keys_set {n:Int} {b:Bool} {m:List (Int × Bool)} (h:(Gn.keysOf m).Nodup):(Gn.keysOf (mapSet tI .bool n b m)).Nodup∧∀ k,k∈Gn.keysOf (mapSet tI .bool n b m)↔k=n∨k∈Gn.keysOf m:=by
 unfold mapSet
 cases hf:mapFind tI .bool n m with
 | none =>
   have hp:(Gn.keysOf (mapIns tI .bool n b m)).Perm (n::Gn.keysOf m):=(Ex.ins_perm (l:=m)).map _
   refine ⟨hp.nodup_iff.2 (List.nodup_cons.2 ⟨fint_none hf,h⟩),fun k=>?_⟩
   rw [hp.mem_iff,List.mem_cons]
 | some c =>
   show (Gn.keysOf (mapPut tI .bool n b m)).Nodup∧∀ k,k∈Gn.keysOf (mapPut tI .bool n b m)↔_
   rw [put_keys]
   refine ⟨h,fun k=>⟨.inr,?_⟩⟩
   rintro (rfl|h)
   ·exact fint_some hf
   ·exact h
theorem keys_fold (g:FcT→Int):∀ (l:List FcT) (m:List (Int × Bool)),(Gn.keysOf m).Nodup→(Gn.keysOf (l.foldl (fun m x=>mapSet tI .bool (g x) true m) m)).Nodup∧∀ n,n∈Gn.keysOf (l.foldl (fun m x=>mapSet tI .bool (g x) true m) m)↔n∈Gn.keysOf m∨∃ x∈l,g x=n
 | [],m,h=>⟨h,fun n=>by simp⟩
 | x::l,m,h=>by
   obtain ⟨h1,h2⟩:=keys_set (n:=g x) (b:=true) h
   obtain ⟨h3,h4⟩:=keys_fold g l _ h1
   refine ⟨h3,fun n=>?_⟩
   rw [List.foldl_cons,h4 n,h2 n]
   constructor
   ·rintro ((rfl|h)|⟨y,hy,rfl⟩)
    ·exact .inr ⟨x,by simp,rfl⟩
    ·exact .inl h
    ·exact .inr ⟨y,List.mem_cons_of_mem _ hy,rfl⟩
   ·rintro (h|⟨y,hy,rfl⟩)
    ·exact .inl (.inr h)
    ·rcases List.mem_cons.1 hy with rfl|hy
     ·exact .inl (.inl rfl)
     ·exact .inr ⟨y,hy,rfl⟩
theorem waf_keys {l:List FcT} (H:LsOk l) {sw:List FcT} (hw:∀ x∈factsF 1 l,1≤Gn.whoF sw x.2.2.2.2.2.2.2.1 x.2.2.2.2.2.1∧Gn.whoF sw x.2.2.2.2.2.2.2.1 x.2.2.2.2.2.1≤6):(Gn.keysOf (wfM (factsF 1 l) sw (factsF 4 l))).Perm [1,2,3,4,5,6]:=by
 obtain ⟨h1,h2⟩:=keys_fold (fun x=>(x.2.2.2.2.2.2.2.1:Int)) (factsF 4 l) [] List.nodup_nil
 obtain ⟨h3,h4⟩:=keys_fold (fun x=>Gn.whoF sw x.2.2.2.2.2.2.2.1 x.2.2.2.2.2.1) (factsF 1 l) _ h1
 refine (List.perm_ext_iff_of_nodup h3 (by decide)).2 fun n=>?_
 refine (h4 n).trans ?_
 rw [h2 n]
 have hm:n∈[(1:Int),2,3,4,5,6]↔1≤n∧n≤6:=by simp;omega
 rw [hm]
 constructor
 ·rintro ((h|⟨x,hx,rfl⟩)|⟨x,hx,rfl⟩)
  ·cases h
  ·obtain ⟨h5,h6,_⟩:=facts_in hx
   obtain ⟨w,h7,h8,rfl⟩:=FL.k4 (H.all x h5) h6
   exact ⟨h7,h8⟩
  ·exact hw x hx
 ·rintro ⟨h5,h6⟩
  exact .inl (.inr ⟨lotF n,lots_mem H h5 h6,rfl⟩)
theorem waf_ok {l:List FcT} (H:LsOk l) {sw:List FcT} (hsw:sw.length≤1) (hw:∀ x∈factsF 1 l,1≤Gn.whoF sw x.2.2.2.2.2.2.2.1 x.2.2.2.2.2.1∧Gn.whoF sw x.2.2.2.2.2.2.2.1 x.2.2.2.2.2.1≤6):WfOk (factsF 1 l) sw (factsF 4 l)∧Gn.sortI (Gn.keysOf (wfM (factsF 1 l) sw (factsF 4 l)))=[1,2,3,4,5,6]:=by
 have hp:=waf_keys H hw
 refine ⟨⟨?_,hsw,?_,?_,fun e he=>?_⟩,(Gn.sortI_perm hp).trans (by decide)⟩
 ·rw [facts_len];exact Nat.le_trans (few_1 H) (by decide)
 ·rw [facts_len];exact Nat.le_trans (few_4 H) (by decide)
 ·have:=hp.length_eq
  unfold Gn.keysOf at this
  rw [List.length_map] at this
  rw [this]
  decide
 ·have hm:e.1∈[(1:Int),2,3,4,5,6]:=hp.mem_iff.1 (List.mem_map_of_mem he)
  have:1≤e.1∧e.1≤6:=by simp at hm;omega
  unfold isIdF
  simp
  omega
def sg (one two n:Int):Int:=if n=one then two else if n=two then one else n
theorem sg_in {one two n:Int} (h1:1≤one∧one≤6) (h2:1≤two∧two≤6) (hn:1≤n∧n≤6):1≤sg one two n∧sg one two n≤6:=by
 unfold sg
 split
 ·exact h2
 ·split
  ·exact h1
  ·exact hn
theorem sg_eq {one two n w:Int} (h:one≠two):sg one two n=w↔n=sg one two w:=by
 unfold sg
 repeat' split
 all_goals omega
theorem isId_in {n:Int} (h:1≤n∧n≤6):isIdF n=true:=by unfold isIdF;simp;omega
theorem who_nil {n t:Int} (h:1≤n∧n≤6):Gn.whoF [] n t=n:=by
 unfold Gn.whoF
 rw [isId_in h]
 rfl
theorem who_swp {one two n t:Int} (h1:1≤one∧one≤6) (h2:1≤two∧two≤6) (h3:one≠two) (hn:1≤n∧n≤6) (ht:0≤t):Gn.whoF [swpF one two] n t=sg one two n:=by
 unfold Gn.whoF
 rw [isId_in hn]
 have hc:swC t (swpF one two)=true:=by
  show ((isIdF one&&isIdF two)&&decide ((0:Int)≤t))=true
  rw [isId_in h1,isId_in h2,decide_eq_true ht]
  rfl
 have hf:List.filter (swC t) [swpF one two]=[swpF one two]:=by rw [List.filter_cons,hc];rfl
 rw [hf]
 show ofF (swM one two) n=sg one two n
 have hm:swM one two=bif decide (two < one) then [(two,one),(one,two)] else [(one,two),(two,one)]:=by
  unfold swM mapSet
  have:mapFind tI tI two [(one,two)]=none:=by
   show (bif decide (two=one) then some two else none)=none
   rw [decide_eq_false (fun h=>h3 h.symm)]
   rfl
  rw [this]
  rfl
 have hg:∀ a b c d:Int,ofF [(a,b),(c,d)] n=(bif decide (n=a) then some b else bif decide (n=c) then some d else none).getD n:=fun a b c d=>rfl
 rw [hm]
 unfold sg
 cases decide (two < one)
 ·show ofF [(one,two),(two,one)] n=_
  rw [hg]
  by_cases h4:n=one
  ·simp [h4]
  ·by_cases h5:n=two
   ·subst h5;simp [h4]
   ·simp [h4,h5]
 ·show ofF [(two,one),(one,two)] n=_
  rw [hg]
  by_cases h4:n=one
  ·subst h4;simp [h3]
  ·by_cases h5:n=two
   ·subst h5;simp [h4]
   ·simp [h4,h5]
structure ExOk (tl fr to er:Int):Prop where
 tl:0≤tl∧tl≤2
 fr:0≤fr∧fr≤to
 to:to≤1000
 er:0≤er∧er≤5
theorem ids_1 {l:List FcT} (H:LsOk l):(factsF 1 l).Pairwise fun a b=>(a.2.1:Int)≠b.2.1:=by
 have h1:(kindP 1 (bestM l)).Pairwise fun a b=>(a.2.1:Int)≠b.2.1:=(kindP_nodup l 1).imp_of_mem fun {a b} ha hb h e=>h (ord_inj H.ok a ha b hb e)
 exact (sortF_perm.pairwise_iff (fun {a b} h e=>h e.symm)).2 h1
theorem ju_ok {l:List FcT} (H:LsOk l) {sw:List FcT} {tl fr to er:Int} (he:ExOk tl fr to er) (hw:WfOk (factsF 1 l) sw (factsF 4 l)):JuOk tl 0 fr to er (factsF 1 l) sw (factsF 4 l) (factsF 11 l):=by
 obtain ⟨h1,h2,h3,h4⟩:=he
 refine ⟨?_,hw,by rw [facts_len];exact few_1 H,by rw [facts_len];exact Nat.le_trans (few_11 H) (by decide),ids_1 H⟩
 unfold exV inB
 simp
 omega
def entA (tl fr to er:Int) (l:List FcT):Int→List EnT:=entF tl 0 fr to er (factsF 1 l) [] (factsF 11 l)
theorem ent_swp {l:List FcT} (H:LsOk l) {tl fr to er one two:Int} (h1:1≤one∧one≤6) (h2:1≤two∧two≤6) (h3:one≠two) (w:Int):entF tl 0 fr to er (factsF 1 l) [swpF one two] (factsF 11 l) w=entA tl fr to er l (sg one two w):=by
 unfold entA entF entW
 congr 1
 refine List.filter_congr fun p hp=>?_
 obtain ⟨h4,h5,_⟩:=facts_in hp
 have h6:=(FL.k1 (H.all p h4) h5).2
 have h7:=fok_time (H.ok p h4)
 congr 1
 refine decide_eq_decide.2 ?_
 show Gn.whoF [swpF one two] p.2.2.2.2.2.2.2.1 p.2.2.2.2.2.1=w↔Gn.whoF [] p.2.2.2.2.2.2.2.1 p.2.2.2.2.2.1=sg one two w
 rw [who_nil h6,who_swp h1 h2 h3 h6 h7.1]
 exact sg_eq h3
def verL (tl fr to er:Int) (l:List FcT) (s:Int→Int):List VdT:=[(1:Int),2,3,4,5,6].map fun w=>(w,tchF (entA tl fr to er l (s w)),Gn.sortI (whyF (entA tl fr to er l (s w))))
theorem law_a {l m:List FcT} (H:LsOk l) (hp:m.Perm l) {tl fr to er:Int} (he:ExOk tl fr to er):OfOk m 10∧JuOk tl 0 fr to er (factsF 1 m) (factsF 3 m) (factsF 4 m) (factsF 11 m)∧judF tl 0 fr to er (factsF 1 m) (factsF 3 m) (factsF 4 m) (factsF 11 m)=verL tl fr to er l id:=by
 have hw:∀ x∈factsF 1 l,1≤Gn.whoF [] x.2.2.2.2.2.2.2.1 x.2.2.2.2.2.1∧Gn.whoF [] x.2.2.2.2.2.2.2.1 x.2.2.2.2.2.1≤6:=fun x hx=>by
  obtain ⟨h4,h5,_⟩:=facts_in hx
  have h6:=(FL.k1 (H.all x h4) h5).2
  rw [who_nil h6]
  exact h6
 obtain ⟨h1,h2⟩:=waf_ok H (Nat.zero_le _) hw
 rw [facts_perm H.ok hp 1,facts_perm H.ok hp 3,facts_perm H.ok hp 4,facts_perm H.ok hp 11,facts_no H (k:=3) (by omega)]
 refine ⟨(H.perm hp).ofOk,ju_ok H he h1,?_⟩
 unfold judF
 rw [h2]
 rfl
theorem law_c {l m:List FcT} (H:LsOk l) (hp:m.Perm l) {tl fr to er one two:Int} (he:ExOk tl fr to er) (h1:1≤one∧one≤6) (h2:1≤two∧two≤6) (h3:one≠two) :
 OfOk (m++[swpF one two]) 10∧JuOk tl 0 fr to er (factsF 1 (m++[swpF one two])) (factsF 3 (m++[swpF one two])) (factsF 4 (m++[swpF one two])) (factsF 11 (m++[swpF one two])) ∧
  judF tl 0 fr to er (factsF 1 (m++[swpF one two])) (factsF 3 (m++[swpF one two])) (factsF 4 (m++[swpF one two])) (factsF 11 (m++[swpF one two]))=verL tl fr to er l (sg one two):=by
 have hs:=swp_ok h1 h2 h3
 have Hm:=H.perm hp
 have hw:∀ x∈factsF 1 l,1≤Gn.whoF [swpF one two] x.2.2.2.2.2.2.2.1 x.2.2.2.2.2.1∧Gn.whoF [swpF one two] x.2.2.2.2.2.2.2.1 x.2.2.2.2.2.1≤6:=fun x hx=>by
  obtain ⟨h4,h5,_⟩:=facts_in hx
  have h6:=(FL.k1 (H.all x h4) h5).2
  rw [who_swp h1 h2 h3 h6 (fok_time (H.ok x h4)).1]
  exact sg_in h1 h2 h6
 obtain ⟨h4,h5⟩:=waf_ok H (sw:=[swpF one two]) (Nat.le_refl _) hw
 rw [facts_swp Hm hs.1 rfl (k:=1) (by decide),facts_swp Hm hs.1 rfl (k:=4) (by decide),facts_swp Hm hs.1 rfl (k:=11) (by decide),facts_swp3 Hm hs.1 rfl rfl,facts_perm H.ok hp 1,facts_perm H.ok hp 4,facts_perm H.ok hp 11]
 refine ⟨swp_ofOk Hm hs.1 hs.2 rfl,ju_ok H he h4,?_⟩
 unfold judF
 rw [h5]
 unfold verL
 refine List.map_congr_left fun w _=>?_
 unfold verE
 rw [ent_swp H h1 h2 h3]
theorem verL_get {tl fr to er:Int} {l:List FcT} {s:Int→Int} {d:VdT} {w:Int} (h:1≤w∧w≤6):getI (verL tl fr to er l s) d (w - 1).toNat=(w,tchF (entA tl fr to er l (s w)),Gn.sortI (whyF (entA tl fr to er l (s w)))):=by
 have:w=1∨w=2∨w=3∨w=4∨w=5∨w=6:=by omega
 rcases this with rfl|rfl|rfl|rfl|rfl|rfl <;> rfl
end Go.AM.YtbepaplaahcnkaaGreat.Tp
end
