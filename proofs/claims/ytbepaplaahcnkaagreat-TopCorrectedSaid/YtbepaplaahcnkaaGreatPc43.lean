/- BsC. -/
import Derived.Test.YtbepaplaahcnkaaGreatPc42
import Derived.Test.YtbepaplaahcnkaaGreatPc30

section
set_option linter.all false
namespace Go.AM.YtbepaplaahcnkaaGreat.Bs
open Go.Proofs Go.AM.YtbepaplaahcnkaaGreat.Fc
set_option maxRecDepth 100000
set_option maxHeartbeats 8000000
def sigOf:List (Nat × Spec):=[(21,keyS),(22,prevS),(23,kindsS),(53,listS 0),(55,listS 1),(56,listS 2),(57,listS 3),(59,listS 4),(61,listS 5),(62,listS 6),(63,listS 7),(65,listS 8),(66,listS 9),(68,listS 10),(24,sortedS)]
theorem sigOfOk:SigOk Tryz.prog (look sigOf):=sigCons (sigCons (sigCons (sigCons (sigCons (sigCons (sigCons (sigCons (sigCons (sigCons (sigCons (sigCons (sigCons (sigCons (sigCons sigNil Tryz.func24 (by kernel_rfl) (c:=body Tryz.f24) rfl sortedOk) Tryz.func68 (by kernel_rfl) (c:=body Tryz.f68) rfl list10Ok) Tryz.func66 (by kernel_rfl) (c:=body Tryz.f66) rfl list9Ok) Tryz.func65 (by kernel_rfl) (c:=body Tryz.f65) rfl list8Ok) Tryz.func63 (by kernel_rfl) (c:=body Tryz.f63) rfl list7Ok) Tryz.func62 (by kernel_rfl) (c:=body Tryz.f62) rfl list6Ok) Tryz.func61 (by kernel_rfl) (c:=body Tryz.f61) rfl list5Ok) Tryz.func59 (by kernel_rfl) (c:=body Tryz.f59) rfl list4Ok) Tryz.func57 (by kernel_rfl) (c:=body Tryz.f57) rfl list3Ok) Tryz.func56 (by kernel_rfl) (c:=body Tryz.f56) rfl list2Ok) Tryz.func55 (by kernel_rfl) (c:=body Tryz.f55) rfl list1Ok) Tryz.func53 (by kernel_rfl) (c:=body Tryz.f53) rfl list0Ok) Tryz.func23 (by kernel_rfl) (c:=body Tryz.f23) rfl kindsOk) Tryz.func22 (by kernel_rfl) (c:=body Tryz.f22) rfl prevOk) Tryz.func21 (by kernel_rfl) (c:=body Tryz.f21) rfl keyOk
def ofS:Spec:=plain fun
 | [.sl (.pair (.int .i64) (.pair (.int .i64) (.pair (.int .i64) (.pair (.int .i64) (.pair .bool (.pair (.int .i64) (.pair (.int .i64) (.pair (.int .i64) (.pair (.int .i64) (.pair (.int .i64) (.pair (.int .i64) (.pair (.int .i64) (.pair (.int .i64) (.pair (.int .i64) (.pair (.int .i64) (.pair (.int .i64) (.pair (.int .i64) (.pair (.int .i64) .str)))))))))))))))))) l,.int .i64 day]=>some ⟨OfOk l day,.agg [.own 0,.own 1,.own 2,.own 3,.own 4,.own 5,.own 6,.own 7,.own 8,.own 9,.own 10],[.seq tFc (factsF 1 l),.seq tFc (factsF 2 l),.seq tFc (factsF 3 l),.seq tFc (factsF 4 l),.seq tFc (factsF 5 l),.seq tFc (factsF 6 l),.seq tFc (factsF 7 l),.seq tFc (factsF 8 l),.seq tFc (factsF 9 l),.seq tFc (factsF 10 l),.seq tFc (factsF 11 l)],false⟩
 | _=>none
theorem ofTail {l:List FcT} {day:Int} (H:OfOk l day) (hlen:List.length (α:=FcT) l≤1000) (HB:BestOk l (bestM l)):WP (envOf sigOfOk) [0,1,4,5,7,8,9,10,11,12,14,15,17,19,20,21,22,34,47,54,56,61,77,79] (inner (seqB (seqA (seqB (seqB (seqB (seqB (seqB (body Tryz.f10)))))))))
 ⟨Tryz.f10.ntmps,[(0,⟨[],.sl tFc l⟩),(1,⟨[],.int .i64 day⟩),(4,⟨[],.ptr 4 0⟩),(5,⟨[],.own 5000⟩),(11,⟨[],.ptr 11 0⟩),(12,⟨[],.own (key 52 0)⟩),(19,⟨[],.sl tFc l⟩),(20,⟨[],.int .i64 (List.length (α:=FcT) l)⟩),(21,⟨[],.int .i64 (List.length (α:=FcT) l)⟩),(22,⟨[],.bool (decide (((List.length (α:=FcT) l:Nat):Int) < (List.length (α:=FcT) l:Nat)))⟩),(54,⟨[],.own 54⟩)],[],[54,key 52 0,11,4,5000],
  [(54,.mit 5000 .str tFc (bestM l) none none),(5000,.dead),(key 52 0,.map (.int .i64) tKd kdL),(11,.box [.nilsl,.nilsl,.nilsl,.nilsl,.nilsl,.nilsl,.nilsl,.nilsl,.nilsl,.nilsl,.nilsl]),(4,.box [.nilsl,.nilsl,.nilsl,.nilsl,.nilsl,.nilsl,.nilsl,.nilsl,.nilsl,.nilsl,.nilsl])]⟩
 (contBlk 2 (contSeq (envOf sigOfOk) [0,1,4,5,7,8,9,10,11,12,14,15,17,19,20,21,22,34,47,54,56,61,77,79] (seqB (seqB (seqB (seqB (seqB (seqB (body Tryz.f10))))))) (endOf ts Tryz.f10.results.toList 0 ⟨OfOk l day,.agg [.own 0,.own 1,.own 2,.own 3,.own 4,.own 5,.own 6,.own 7,.own 8,.own 9,.own 10],[.seq tFc (factsF 1 l),.seq tFc (factsF 2 l),.seq tFc (factsF 3 l),.seq tFc (factsF 4 l),.seq tFc (factsF 5 l),.seq tFc (factsF 6 l),.seq tFc (factsF 7 l),.seq tFc (factsF 8 l),.seq tFc (factsF 9 l),.seq tFc (factsF 10 l),.seq tFc (factsF 11 l)],false⟩))):=by
 refine mitI 54 rfl (fun D lm hpm hD=>?_)
 have hml:List.length (α:=KvT) lm≤1000:=by rw [hpm.length_eq];exact Nat.le_trans bestM_len hlen
 have hmf:∀ e∈lm,FOk e.2:=fun e he=>H.ok _ (HB.ky e (hpm.mem_iff.1 he)).2
 refine loopI (σ:=Option KvT × MitG × List KvT) (fun z=>[]) (fun z=>[(54,.mit 5000 .str tFc lm z.1 (some z.2.1)),(11,.box [.own 6001,.own 6002,.own 6003,.own 6004,.own 6005,.own 6006,.own 6007,.own 6008,.own 6009,.own 6010,.own 6011]),(6001,.seq tFc (kindP 1 z.2.2)),(6002,.seq tFc (kindP 2 z.2.2)),(6003,.seq tFc (kindP 3 z.2.2)),(6004,.seq tFc (kindP 4 z.2.2)),(6005,.seq tFc (kindP 5 z.2.2)),(6006,.seq tFc (kindP 6 z.2.2)),(6007,.seq tFc (kindP 7 z.2.2)),(6008,.seq tFc (kindP 8 z.2.2)),(6009,.seq tFc (kindP 9 z.2.2)),(6010,.seq tFc (kindP 10 z.2.2)),(6011,.seq tFc (kindP 11 z.2.2))]) (fun z=>Vis lm z.2.2 z.2.1.was) (fun z=>z.2.1.left) (none,D,[]) rfl (fun _=>rfl) rfl ?_ ?_ ?_
 ·exact Vis.nil hD
 ·repeat' (first|exact trivial|with_reducible exact rfl|refine And.intro ?_ ?_)
  all_goals rfl
 rintro ⟨cur,D1,P⟩ hV
 dsimp only at hV ⊢
 have hkl:∀ k,(kindP k P).length≤1000:=fun k=>Nat.le_trans kindP_len (Nat.le_trans hV.len hml)
 refine zS ?_
 refine nextI rfl rfl rfl rfl rfl rfl (fun _ _=>rfl) (fun hall=>?_) (fun j y D2 hj hwj hD2 hleft=>?_)
 ·have hP:P.Perm (bestM l):=(hV.all hall).trans hpm
  repeat' (first|refine zN ?_|refine zE ?_|refine zP ?_|refine pD ?_|refine zQ ?_|refine zR ?_|refine zW ?_)
  refine condF rfl ?_
  repeat' (first|refine zN ?_|refine zE ?_|refine zP ?_|refine pD ?_|refine zQ ?_|refine zR ?_|refine zW ?_)
  refine mitI 77 rfl (fun E le hpe hE=>?_)
  refine loopI (σ:=Option (Int × Nat × Nat) × MitG × List (Int × Nat × Nat)) (fun z=>[]) (fun z=>[(77,.mit (key 52 0) (.int .i64) tKd le z.1 (some z.2.1)),(6001,.seq tFc (lsA 1 P z.2.2)),(6002,.seq tFc (lsA 2 P z.2.2)),(6003,.seq tFc (lsA 3 P z.2.2)),(6004,.seq tFc (lsA 4 P z.2.2)),(6005,.seq tFc (lsA 5 P z.2.2)),(6006,.seq tFc (lsA 6 P z.2.2)),(6007,.seq tFc (lsA 7 P z.2.2)),(6008,.seq tFc (lsA 8 P z.2.2)),(6009,.seq tFc (lsA 9 P z.2.2)),(6010,.seq tFc (lsA 10 P z.2.2)),(6011,.seq tFc (lsA 11 P z.2.2))]) (fun z=>Vis le z.2.2 z.2.1.was) (fun z=>z.2.1.left) (none,E,[]) rfl (fun _=>rfl) rfl ?_ ?_ ?_
  ·exact Vis.nil hE
  ·repeat' (first|exact trivial|with_reducible exact rfl|refine And.intro ?_ ?_)
   all_goals rfl
  rintro ⟨cur2,E1,Q⟩ hW
  dsimp only at hW ⊢
  refine zS ?_
  refine nextI rfl rfl rfl rfl rfl rfl (fun _ _=>rfl) (fun hall2=>?_) (fun j2 y2 E2 hj2 hw2 hE2 hleft2=>?_)
  ·have hQ:Q.Perm kdL:=(hW.all hall2).trans hpe
   repeat' (first|refine zN ?_|refine zE ?_|refine zP ?_|refine pD ?_|refine zQ ?_|refine zR ?_|refine zW ?_)
   refine condF rfl ?_
   repeat' (first|refine zN ?_|refine zE ?_|refine zP ?_|refine pD ?_|refine zQ ?_|refine zR ?_|refine zW ?_)
   refine endR rfl ?_
   repeat' (first|exact trivial|exact rfl|refine ⟨rfl,?_⟩|refine And.intro ?_ ?_)
   all_goals exact (lsA_all H.ok hP hQ rfl).symm
  ·have hW2:=hW.step hj2 hw2 (fun i hi=>hE2 i hi)
   obtain ⟨q,hq⟩:=hW.fresh hj2 hw2
   have hq:=hq.trans hpe
   have hy2:y2∈kdL:=hpe.mem_iff.1 (List.mem_of_getElem? hj2)
   have hfw:∀ k,(kindP k P).length≤19:=fun k=>by rw [(kindP_perm hP).length_eq];exact H.few k
   simp only [kdL,List.mem_cons,List.not_mem_nil,or_false] at hy2
   rcases hy2 with rfl|rfl|rfl|rfl|rfl|rfl|rfl|rfl|rfl|rfl|rfl
   ·have hfr:=lsA_fresh (k:=1) (P:=P) hq rfl
    have hfk:=hfw 1
    rw [hfr]
    repeat' (first|refine zN ?_|refine zE ?_|refine zP ?_|refine pD ?_|refine zQ ?_|refine zR ?_|refine zW ?_)
    refine condT rfl ?_
    repeat' (first|refine zN ?_|refine zE ?_|refine zP ?_|refine pD ?_|refine pC (by first|exact True.intro|exact rfl|exact ⟨hfk,isOrdB_spec rfl⟩|omega) ?_|refine zQ ?_|refine zR ?_|refine zW ?_)
    refine roundI (some (1,53,54),E2,Q++[(1,53,54)]) rfl ?_ ?_ ?_
    ·exact hW2
    ·exact hleft2
    ·repeat' (first|exact trivial|with_reducible exact rfl|refine And.intro ?_ ?_)
     all_goals first|rfl|exact lsA_new rfl|exact lsA_old rfl
   ·have hfr:=lsA_fresh (k:=2) (P:=P) hq rfl
    have hfk:=hfw 2
    rw [hfr]
    repeat' (first|refine zN ?_|refine zE ?_|refine zP ?_|refine pD ?_|refine zQ ?_|refine zR ?_|refine zW ?_)
    refine condT rfl ?_
    repeat' (first|refine zN ?_|refine zE ?_|refine zP ?_|refine pD ?_|refine pC (by first|exact True.intro|exact rfl|exact ⟨hfk,isOrdB_spec rfl⟩|omega) ?_|refine zQ ?_|refine zR ?_|refine zW ?_)
    refine roundI (some (2,55,54),E2,Q++[(2,55,54)]) rfl ?_ ?_ ?_
    ·exact hW2
    ·exact hleft2
    ·repeat' (first|exact trivial|with_reducible exact rfl|refine And.intro ?_ ?_)
     all_goals first|rfl|exact lsA_new rfl|exact lsA_old rfl
   ·have hfr:=lsA_fresh (k:=3) (P:=P) hq rfl
    have hfk:=hfw 3
    rw [hfr]
    repeat' (first|refine zN ?_|refine zE ?_|refine zP ?_|refine pD ?_|refine zQ ?_|refine zR ?_|refine zW ?_)
    refine condT rfl ?_
    repeat' (first|refine zN ?_|refine zE ?_|refine zP ?_|refine pD ?_|refine pC (by first|exact True.intro|exact rfl|exact ⟨hfk,isOrdB_spec rfl⟩|omega) ?_|refine zQ ?_|refine zR ?_|refine zW ?_)
    refine roundI (some (3,56,54),E2,Q++[(3,56,54)]) rfl ?_ ?_ ?_
    ·exact hW2
    ·exact hleft2
    ·repeat' (first|exact trivial|with_reducible exact rfl|refine And.intro ?_ ?_)
     all_goals first|rfl|exact lsA_new rfl|exact lsA_old rfl
   ·have hfr:=lsA_fresh (k:=4) (P:=P) hq rfl
    have hfk:=hfw 4
    rw [hfr]
    repeat' (first|refine zN ?_|refine zE ?_|refine zP ?_|refine pD ?_|refine zQ ?_|refine zR ?_|refine zW ?_)
    refine condT rfl ?_
    repeat' (first|refine zN ?_|refine zE ?_|refine zP ?_|refine pD ?_|refine pC (by first|exact True.intro|exact rfl|exact ⟨hfk,isOrdB_spec rfl⟩|omega) ?_|refine zQ ?_|refine zR ?_|refine zW ?_)
    refine roundI (some (4,57,58),E2,Q++[(4,57,58)]) rfl ?_ ?_ ?_
    ·exact hW2
    ·exact hleft2
    ·repeat' (first|exact trivial|with_reducible exact rfl|refine And.intro ?_ ?_)
     all_goals first|rfl|exact lsA_new rfl|exact lsA_old rfl
   ·have hfr:=lsA_fresh (k:=5) (P:=P) hq rfl
    have hfk:=hfw 5
    rw [hfr]
    repeat' (first|refine zN ?_|refine zE ?_|refine zP ?_|refine pD ?_|refine zQ ?_|refine zR ?_|refine zW ?_)
    refine condT rfl ?_
    repeat' (first|refine zN ?_|refine zE ?_|refine zP ?_|refine pD ?_|refine pC (by first|exact True.intro|exact rfl|exact ⟨hfk,isOrdB_spec rfl⟩|omega) ?_|refine zQ ?_|refine zR ?_|refine zW ?_)
    refine roundI (some (5,59,60),E2,Q++[(5,59,60)]) rfl ?_ ?_ ?_
    ·exact hW2
    ·exact hleft2
    ·repeat' (first|exact trivial|with_reducible exact rfl|refine And.intro ?_ ?_)
     all_goals first|rfl|exact lsA_new rfl|exact lsA_old rfl
   ·have hfr:=lsA_fresh (k:=6) (P:=P) hq rfl
    have hfk:=hfw 6
    rw [hfr]
    repeat' (first|refine zN ?_|refine zE ?_|refine zP ?_|refine pD ?_|refine zQ ?_|refine zR ?_|refine zW ?_)
    refine condT rfl ?_
    repeat' (first|refine zN ?_|refine zE ?_|refine zP ?_|refine pD ?_|refine pC (by first|exact True.intro|exact rfl|exact ⟨hfk,isOrdB_spec rfl⟩|omega) ?_|refine zQ ?_|refine zR ?_|refine zW ?_)
    refine roundI (some (6,61,54),E2,Q++[(6,61,54)]) rfl ?_ ?_ ?_
    ·exact hW2
    ·exact hleft2
    ·repeat' (first|exact trivial|with_reducible exact rfl|refine And.intro ?_ ?_)
     all_goals first|rfl|exact lsA_new rfl|exact lsA_old rfl
   ·have hfr:=lsA_fresh (k:=7) (P:=P) hq rfl
    have hfk:=hfw 7
    rw [hfr]
    repeat' (first|refine zN ?_|refine zE ?_|refine zP ?_|refine pD ?_|refine zQ ?_|refine zR ?_|refine zW ?_)
    refine condT rfl ?_
    repeat' (first|refine zN ?_|refine zE ?_|refine zP ?_|refine pD ?_|refine pC (by first|exact True.intro|exact rfl|exact ⟨hfk,isOrdB_spec rfl⟩|omega) ?_|refine zQ ?_|refine zR ?_|refine zW ?_)
    refine roundI (some (7,62,54),E2,Q++[(7,62,54)]) rfl ?_ ?_ ?_
    ·exact hW2
    ·exact hleft2
    ·repeat' (first|exact trivial|with_reducible exact rfl|refine And.intro ?_ ?_)
     all_goals first|rfl|exact lsA_new rfl|exact lsA_old rfl
   ·have hfr:=lsA_fresh (k:=8) (P:=P) hq rfl
    have hfk:=hfw 8
    rw [hfr]
    repeat' (first|refine zN ?_|refine zE ?_|refine zP ?_|refine pD ?_|refine zQ ?_|refine zR ?_|refine zW ?_)
    refine condT rfl ?_
    repeat' (first|refine zN ?_|refine zE ?_|refine zP ?_|refine pD ?_|refine pC (by first|exact True.intro|exact rfl|exact ⟨hfk,isOrdB_spec rfl⟩|omega) ?_|refine zQ ?_|refine zR ?_|refine zW ?_)
    refine roundI (some (8,63,64),E2,Q++[(8,63,64)]) rfl ?_ ?_ ?_
    ·exact hW2
    ·exact hleft2
    ·repeat' (first|exact trivial|with_reducible exact rfl|refine And.intro ?_ ?_)
     all_goals first|rfl|exact lsA_new rfl|exact lsA_old rfl
   ·have hfr:=lsA_fresh (k:=9) (P:=P) hq rfl
    have hfk:=hfw 9
    rw [hfr]
    repeat' (first|refine zN ?_|refine zE ?_|refine zP ?_|refine pD ?_|refine zQ ?_|refine zR ?_|refine zW ?_)
    refine condT rfl ?_
    repeat' (first|refine zN ?_|refine zE ?_|refine zP ?_|refine pD ?_|refine pC (by first|exact True.intro|exact rfl|exact ⟨hfk,isOrdB_spec rfl⟩|omega) ?_|refine zQ ?_|refine zR ?_|refine zW ?_)
    refine roundI (some (9,65,54),E2,Q++[(9,65,54)]) rfl ?_ ?_ ?_
    ·exact hW2
    ·exact hleft2
    ·repeat' (first|exact trivial|with_reducible exact rfl|refine And.intro ?_ ?_)
     all_goals first|rfl|exact lsA_new rfl|exact lsA_old rfl
   ·have hfr:=lsA_fresh (k:=10) (P:=P) hq rfl
    have hfk:=hfw 10
    rw [hfr]
    repeat' (first|refine zN ?_|refine zE ?_|refine zP ?_|refine pD ?_|refine zQ ?_|refine zR ?_|refine zW ?_)
    refine condT rfl ?_
    repeat' (first|refine zN ?_|refine zE ?_|refine zP ?_|refine pD ?_|refine pC (by first|exact True.intro|exact rfl|exact ⟨hfk,isOrdB_spec rfl⟩|omega) ?_|refine zQ ?_|refine zR ?_|refine zW ?_)
    refine roundI (some (10,66,67),E2,Q++[(10,66,67)]) rfl ?_ ?_ ?_
    ·exact hW2
    ·exact hleft2
    ·repeat' (first|exact trivial|with_reducible exact rfl|refine And.intro ?_ ?_)
     all_goals first|rfl|exact lsA_new rfl|exact lsA_old rfl
   ·have hfr:=lsA_fresh (k:=11) (P:=P) hq rfl
    have hfk:=hfw 11
    rw [hfr]
    repeat' (first|refine zN ?_|refine zE ?_|refine zP ?_|refine pD ?_|refine zQ ?_|refine zR ?_|refine zW ?_)
    refine condT rfl ?_
    repeat' (first|refine zN ?_|refine zE ?_|refine zP ?_|refine pD ?_|refine pC (by first|exact True.intro|exact rfl|exact ⟨hfk,isOrdB_spec rfl⟩|omega) ?_|refine zQ ?_|refine zR ?_|refine zW ?_)
    refine roundI (some (11,68,54),E2,Q++[(11,68,54)]) rfl ?_ ?_ ?_
    ·exact hW2
    ·exact hleft2
    ·repeat' (first|exact trivial|with_reducible exact rfl|refine And.intro ?_ ?_)
     all_goals first|rfl|exact lsA_new rfl|exact lsA_old rfl
 ·obtain ⟨ky,x⟩:=y
  have hxo:FOk x:=hmf _ (List.mem_of_getElem? hj)
  have hV2:=hV.step hj hwj (fun i hi=>hD2 i hi)
  have hsn:∀ k,kindP k (P++[(ky,x)])=bif isK k (ky,x) then kindP k P++[x] else kindP k P:=fun k=>kindP_snoc
  obtain ⟨a0,a1,a2,a3,a4,a5,a6,a7,a8,a9,a10,a11,a12,a13,a14,a15,a16,a17,a18⟩:=x
  repeat' (first|refine zN ?_|refine zE ?_|refine zP ?_|refine pD ?_|refine zQ ?_|refine zR ?_|refine zW ?_)
  refine condT rfl ?_
  repeat' (first|refine zN ?_|refine zE ?_|refine zP ?_|refine pD ?_|refine zQ ?_|refine zR ?_|refine zW ?_)
  refine condI rfl (fun c3=>?_) (fun c3=>?_)
  ·have c3:(!a4)=true:=c3
   obtain rfl:a4=false:=by simpa using c3
   rcases hxo.2 with ⟨rfl,_⟩|⟨rfl,_⟩|⟨rfl,_⟩|⟨rfl,_⟩
   ·have hk:=hkl 1
    repeat' (first|refine zN ?_|refine zE ?_|refine zP ?_|refine pD ?_|refine pC (by first|exact True.intro|exact rfl|(show (_+1) * _≤_;omega)|omega) ?_|refine zQ ?_|refine zR ?_|refine zW ?_)
    refine roundI (some (ky,(1,a1,a2,a3,false,a5,a6,a7,a8,a9,a10,a11,a12,a13,a14,a15,a16,a17,a18)),D2,P++[(ky,(1,a1,a2,a3,false,a5,a6,a7,a8,a9,a10,a11,a12,a13,a14,a15,a16,a17,a18))]) rfl ?_ ?_ ?_
    ·exact hV2
    ·exact hleft
    ·repeat' (first|exact trivial|with_reducible exact rfl|refine And.intro ?_ ?_)
     all_goals first|rfl|exact hsn _
   ·have hk:=hkl 3
    repeat' (first|refine zN ?_|refine zE ?_|refine zP ?_|refine pD ?_|refine pC (by first|exact True.intro|exact rfl|(show (_+1) * _≤_;omega)|omega) ?_|refine zQ ?_|refine zR ?_|refine zW ?_)
    refine roundI (some (ky,(3,a1,a2,a3,false,a5,a6,a7,a8,a9,a10,a11,a12,a13,a14,a15,a16,a17,a18)),D2,P++[(ky,(3,a1,a2,a3,false,a5,a6,a7,a8,a9,a10,a11,a12,a13,a14,a15,a16,a17,a18))]) rfl ?_ ?_ ?_
    ·exact hV2
    ·exact hleft
    ·repeat' (first|exact trivial|with_reducible exact rfl|refine And.intro ?_ ?_)
     all_goals first|rfl|exact hsn _
   ·have hk:=hkl 4
    repeat' (first|refine zN ?_|refine zE ?_|refine zP ?_|refine pD ?_|refine pC (by first|exact True.intro|exact rfl|(show (_+1) * _≤_;omega)|omega) ?_|refine zQ ?_|refine zR ?_|refine zW ?_)
    refine roundI (some (ky,(4,a1,a2,a3,false,a5,a6,a7,a8,a9,a10,a11,a12,a13,a14,a15,a16,a17,a18)),D2,P++[(ky,(4,a1,a2,a3,false,a5,a6,a7,a8,a9,a10,a11,a12,a13,a14,a15,a16,a17,a18))]) rfl ?_ ?_ ?_
    ·exact hV2
    ·exact hleft
    ·repeat' (first|exact trivial|with_reducible exact rfl|refine And.intro ?_ ?_)
     all_goals first|rfl|exact hsn _
   ·have hk:=hkl 11
    repeat' (first|refine zN ?_|refine zE ?_|refine zP ?_|refine pD ?_|refine pC (by first|exact True.intro|exact rfl|(show (_+1) * _≤_;omega)|omega) ?_|refine zQ ?_|refine zR ?_|refine zW ?_)
    refine roundI (some (ky,(11,a1,a2,a3,false,a5,a6,a7,a8,a9,a10,a11,a12,a13,a14,a15,a16,a17,a18)),D2,P++[(ky,(11,a1,a2,a3,false,a5,a6,a7,a8,a9,a10,a11,a12,a13,a14,a15,a16,a17,a18))]) rfl ?_ ?_ ?_
    ·exact hV2
    ·exact hleft
    ·repeat' (first|exact trivial|with_reducible exact rfl|refine And.intro ?_ ?_)
     all_goals first|rfl|exact hsn _
  ·have c3:(!a4)=false:=c3
   obtain rfl:a4=true:=by simpa using c3
   have hsame:∀ k,kindP k (P++[(ky,(a0,a1,a2,a3,true,a5,a6,a7,a8,a9,a10,a11,a12,a13,a14,a15,a16,a17,a18))])=kindP k P:=fun k=>by
    rw [hsn k]
    have:isK k (ky,(a0,a1,a2,a3,true,a5,a6,a7,a8,a9,a10,a11,a12,a13,a14,a15,a16,a17,a18))=false:=by unfold isK goneX;simp
    rw [this]
    rfl
   repeat' (first|refine zN ?_|refine zE ?_|refine zP ?_|refine pD ?_|refine zQ ?_|refine zR ?_|refine zW ?_)
   refine roundI (some (ky,(a0,a1,a2,a3,true,a5,a6,a7,a8,a9,a10,a11,a12,a13,a14,a15,a16,a17,a18)),D2,P++[(ky,(a0,a1,a2,a3,true,a5,a6,a7,a8,a9,a10,a11,a12,a13,a14,a15,a16,a17,a18))]) rfl ?_ ?_ ?_
   ·exact hV2
   ·exact hleft
   ·repeat' (first|exact trivial|with_reducible exact rfl|refine And.intro ?_ ?_)
    all_goals first|rfl|exact hsame _
theorem ofOk:SpecSound Tryz.prog 10 ofS:=by
 refine soundP (envOf sigOfOk) Tryz.func10 (c:=body Tryz.f10) rfl (by kernel_rfl) rfl ?_
 intro args out hf hpre
 split at hf <;> try (cases hf;done)
 rename_i l day
 cases hf
 refine ⟨Nat.le_of_ble_eq_true rfl,initI (args:=[.sl tFc l,.int .i64 day]) rfl ?_⟩
 have H:OfOk l day:=hpre
 have hlen:List.length (α:=FcT) l≤1000:=H.len
 repeat' (first|refine zN ?_|refine zE ?_|refine zP ?_|refine pD ?_|refine zQ ?_|refine zR ?_|refine zW ?_)
 refine loopI (σ:=Nat) (fun i=>[(5,.own 5000),(21,.int .i64 i)]) (fun i=>[(5000,.map .str tFc (bestM (List.take (α:=FcT) i l)))]) (fun i=>i≤List.length (α:=FcT) l) (fun i=>List.length (α:=FcT) l - i) 0 rfl (fun _=>rfl) rfl ?_ ?_ ?_
 ·exact Nat.zero_le _
 ·repeat' (first|exact trivial|with_reducible exact rfl|refine And.intro ?_ ?_)
  all_goals rfl
 intro i hi
 repeat' (first|refine zN ?_|refine zE ?_|refine zP ?_|refine pD ?_|refine zQ ?_|refine zR ?_|refine zW ?_)
 refine condI rfl (fun c=>?_) (fun c=>?_)
 ·simp only [decide_eq_true_eq] at c
  have hil:i < List.length (α:=FcT) l:=by omega
  have hin:((i:Int)).toNat=i:=by omega
  obtain ⟨x,hx⟩:∃ x:FcT,x=getI l tFc.dflt i:=⟨_,rfl⟩
  have hxl:x∈(l:List FcT):=by rw [hx];exact getI_mem' hil
  have hok:FOk x:=H.ok x hxl
  have hday:dayX x≤day:=H.day x hxl
  have hnext:=bestM_take hil
  have hold:(mapFind .str tFc (kyB x) (bestM (List.take (α:=FcT) i l))).isSome=true→(FOk x∧FOk ((mapFind .str tFc (kyB x) (bestM (List.take (α:=FcT) i l))).getD tFc.dflt))∧keyX x=keyX ((mapFind .str tFc (kyB x) (bestM (List.take (α:=FcT) i l))).getD tFc.dflt):=fun h=>by
   obtain ⟨y,hy⟩:=Option.isSome_iff_exists.1 h
   rw [hy]
   show (FOk x∧FOk y)∧keyX x=keyX y
   obtain ⟨h1,h2⟩:=(best_ok (List.take (α:=FcT) i l)).ky _ (find_some hy)
   have hyok:FOk y:=H.ok y (List.mem_of_mem_take h2)
   exact ⟨⟨hok,hyok⟩,kyB_inj hok hyok h1⟩
  rw [← hx] at hnext
  repeat' (first|refine zN ?_|refine zE ?_|refine zP ?_|refine pD ?_|refine zQ ?_|refine zR ?_|refine zW ?_)
  simp only [hin]
  rw [← hx]
  repeat' (first|refine zN ?_|refine zE ?_|refine zP ?_|refine pD ?_|refine pC (by exact hok) ?_|refine zQ ?_|refine zR ?_|refine zW ?_)
  refine condI rfl (fun c=>by
   have c':(decide (kyB x=⟨#[]⟩)||decide (day < dayX x))=true:=c
   rw [decide_eq_false kyB_ne,decide_eq_false (by omega)] at c'
   cases c') (fun c=>?_)
  clear c
  repeat' (first|refine zN ?_|refine zE ?_|refine zP ?_|refine pD ?_|refine pC (by first|exact hok|exact fun h=>hold (by have h:(!(mapFind .str tFc (kyB x) (bestM (List.take (α:=FcT) i l))).isSome)=false:=h;simpa using h)) ?_|refine zQ ?_|refine zR ?_|refine zW ?_)
  obtain ⟨m,hm⟩:∃ m,m=bestM (List.take (α:=FcT) i l):=⟨_,rfl⟩
  rw [← hm] at hnext hold ⊢
  refine condI rfl (fun c2=>?_) (fun c2=>?_)
  ·have c2:(!(mapFind .str tFc (kyB x) m).isSome||prevX x ((mapFind .str tFc (kyB x) m).getD tFc.dflt))=true:=c2
   have hst:bestS m x=mapSet .str tFc (kyB x) x m:=by
    unfold bestS
    cases hf:mapFind .str tFc (kyB x) m with
    | none=>rfl
    | some old =>
      rw [hf] at c2
      have c2:prevX x old=true:=c2
      show (bif prevX x old then mapSet .str tFc (kyB x) x m else m)=_
      rw [c2]
      rfl
   repeat' (first|refine zN ?_|refine zE ?_|refine zP ?_|refine pD ?_|refine zQ ?_|refine zR ?_|refine zW ?_)
   refine roundI (i+1) rfl ?_ ?_ ?_
   ·show i+1≤List.length (α:=FcT) l
    omega
   ·show List.length (α:=FcT) l - (i+1) < List.length (α:=FcT) l - i
    omega
   ·repeat' (first|exact trivial|with_reducible exact rfl|refine And.intro ?_ ?_)
    all_goals first|rfl|(rw [hnext,hst];rfl)
  ·have c2:(!(mapFind .str tFc (kyB x) m).isSome||prevX x ((mapFind .str tFc (kyB x) m).getD tFc.dflt))=false:=c2
   have hst:bestS m x=m:=by
    unfold bestS
    cases hf:mapFind .str tFc (kyB x) m with
    | none=>rw [hf] at c2;cases c2
    | some old =>
      rw [hf] at c2
      have c2:prevX x old=false:=c2
      show (bif prevX x old then mapSet .str tFc (kyB x) x m else m)=_
      rw [c2]
      rfl
   repeat' (first|refine zN ?_|refine zE ?_|refine zP ?_|refine pD ?_|refine zQ ?_|refine zR ?_|refine zW ?_)
   refine roundI (i+1) rfl ?_ ?_ ?_
   ·show i+1≤List.length (α:=FcT) l
    omega
   ·show List.length (α:=FcT) l - (i+1) < List.length (α:=FcT) l - i
    omega
   ·repeat' (first|exact trivial|with_reducible exact rfl|refine And.intro ?_ ?_)
    all_goals first|rfl|(rw [hnext,hst])
 ·simp only [decide_eq_false_iff_not] at c
  obtain rfl:i=List.length (α:=FcT) l:=by omega
  rw [List.take_length]
  have HB:=best_ok l
  repeat' (first|refine zN ?_|refine zE ?_|refine zP ?_|refine pD ?_|refine zQ ?_|refine zR ?_|refine zW ?_)
  exact ofTail H hlen HB
end Go.AM.YtbepaplaahcnkaaGreat.Bs
end
