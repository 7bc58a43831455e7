/- TpI. -/
import Derived.Test.YtbepaplaahcnkaaGreatPc44

section
set_option linter.all false
namespace Go.AM.YtbepaplaahcnkaaGreat.Tp
open Go.Proofs Go.AM.YtbepaplaahcnkaaGreat.Fc Go.AM.YtbepaplaahcnkaaGreat.Bs Go.AM.YtbepaplaahcnkaaGreat.Ex
set_option maxRecDepth 100000
set_option maxHeartbeats 8000000
def sigTc:List (Nat × Spec):=[(4,awakeS),(5,someS),(6,gapsS),(7,pickP),(8,spanS),(9,judS),(10,ofS),(11,sameTS)]
theorem sigTcOk:SigOk Tryz.prog (look sigTc):=sigCons (sigCons (sigCons (sigCons (sigCons (sigCons (sigCons (sigCons sigNil Tryz.func11 (by kernel_rfl) (c:=body Tryz.f11) rfl sameTOk) Tryz.func10 (by kernel_rfl) (c:=body Tryz.f10) rfl ofOk) Tryz.func9 (by kernel_rfl) (c:=body Tryz.f9) rfl judOk) Tryz.func8 (by kernel_rfl) (c:=body Tryz.f8) rfl spanOk) Tryz.func7 (by kernel_rfl) (c:=body Tryz.f7) rfl pickTOk) Tryz.func6 (by kernel_rfl) (c:=body Tryz.f6) rfl gapsOk) Tryz.func5 (by kernel_rfl) (c:=body Tryz.f5) rfl someOk17) Tryz.func4 (by kernel_rfl) (c:=body Tryz.f4) rfl awakeOk
def tcS:Spec:=plain fun
 | [.sl (.pair (.int .i64) (.pair (.int .i64) (.pair (.int .i64) (.pair (.int .i64) (.pair (.int .i64) (.int .i64)))))) x,.sl (.pair (.int .i64) (.pair (.int .i64) (.int .i64))) y,.agg [.int .i64 n0,.int .i64 n1,.int .i64 n2,.int .i64 n3],.int .i64 one,.int .i64 two,.sl (.int .i64) sw]=>outV True (.bool true)
 | _=>none
theorem sameL_refl (a:List Int):sameL a a=true:=by
 unfold sameL
 rw [decide_eq_true rfl]
 have:(List.range a.length).any (neAt a a)=false:=Fl.rng_no fun j _=>by unfold neAt;simp
 rw [this]
 rfl
theorem filter_next {α:Type} {c:α→Bool} {l:List α} {d:α} {i:Nat} (h:i < l.length):(l.take (i+1)).filter c=bif c (getI l d i) then (l.take i).filter c++[getI l d i] else (l.take i).filter c:=by
 rw [Bs.take_succ_getI (d:=d) h,List.filter_append]
 cases hc:c (getI l d i) <;> simp [hc]
theorem tcOk:SpecSound Tryz.prog 3 tcS:=by
 refine soundP (envOf sigTcOk) Tryz.func3 (c:=body Tryz.f3) rfl (by kernel_rfl) rfl ?_
 intro args out hf hpre
 split at hf <;> try (cases hf;done)
 rename_i x y n0 n1 n2 n3 one two sw
 cases hf
 refine ⟨Nat.le_of_ble_eq_true rfl,initI (args:=[.sl t6 x,.sl t3 y,.agg [.int .i64 n0,.int .i64 n1,.int .i64 n2,.int .i64 n3],.int .i64 one,.int .i64 two,.sl (.int .i64) sw]) rfl ?_⟩
 refine factSl (t:=5) (ty:=.int .i64) rfl (fun hxs=>?_)
 have hmx:List.length (α:=Int) sw≤9223372036854775807:=by have:=hxs.1;unfold maxLen at this;exact this
 have h2:(someX x).length≤30:=by unfold someX;rw [List.length_map];exact List.length_take_le _ _
 have h3:(gapsX y).length≤5:=by unfold gapsX gapsN;rw [List.length_map,List.length_range];omega
 obtain ⟨al,hal⟩:∃ al,al=someX x++gapsX y:=⟨_,rfl⟩
 have hall:al.length≤35:=by rw [hal,List.length_append];omega
 have HL:LsOk (al.filter notSL++lotsN 6):=by rw [hal];exact l0_ok x y
 repeat' (first|refine zN ?_|refine zE ?_|refine zP ?_|refine pD ?_|refine pC (by (show (_+_) * _≤_;omega)) ?_|refine zQ ?_|refine zR ?_|refine zW ?_)
 rw [← hal]
 refine loopI (σ:=Nat) (fun i=>[(16,.int .i64 i),(14,.own 5000)]) (fun i=>[(5000,.seq tFc (List.filter (α:=FcT) notSL (List.take (α:=FcT) i al)))]) (fun i=>i≤List.length (α:=FcT) al) (fun i=>List.length (α:=FcT) al - i) 0 rfl (fun _=>rfl) rfl ?_ ?_ ?_
 ·exact Nat.zero_le _
 ·repeat' (first|exact trivial|with_reducible exact rfl|refine And.intro ?_ ?_)
  all_goals rfl
 ·intro i hi
  have hfl:(List.filter (α:=FcT) notSL (List.take (α:=FcT) i al)).length≤35:=Nat.le_trans (List.length_filter_le _ _) (by rw [List.length_take];omega)
  repeat' (first|refine zN ?_|refine zE ?_|refine zP ?_|refine pD ?_|refine zQ ?_|refine zR ?_|refine zW ?_)
  refine condI rfl (fun c1=>?_) (fun c1=>?_)
  ·simp only [decide_eq_true_eq] at c1
   have hil:i < List.length (α:=FcT) al:=by omega
   have hin:((i:Int)).toNat=i:=by omega
   have hnx:=filter_next (c:=notSL) (d:=tFc.dflt) hil
   obtain ⟨v,hv⟩:∃ v:FcT,v=getI al tFc.dflt i:=⟨_,rfl⟩
   rw [← hv] at hnx
   repeat' (first|refine zN ?_|refine zE ?_|refine zP ?_|refine pD ?_|refine zQ ?_|refine zR ?_|refine zW ?_)
   simp only [hin]
   rw [← hv]
   refine condI rfl (fun c2=>?_) (fun c2=>?_)
   ·have c2:notSL v=true:=c2
    rw [c2] at hnx
    repeat' (first|refine zN ?_|refine zE ?_|refine zP ?_|refine pD ?_|refine pC (by first|(show (_+1) * _≤_;omega)|omega) ?_|refine zQ ?_|refine zR ?_|refine zW ?_)
    refine roundI (i+1) rfl ?_ ?_ ?_
    ·show i+1≤List.length (α:=FcT) al
     omega
    ·show List.length (α:=FcT) al - (i+1) < List.length (α:=FcT) al - i
     omega
    ·repeat' (first|exact trivial|with_reducible exact rfl|refine And.intro ?_ ?_)
     all_goals first|rfl|(simp only [hin];rw [← hv];exact hnx)|exact hnx
   ·have c2:notSL v=false:=c2
    rw [c2] at hnx
    repeat' (first|refine zN ?_|refine zE ?_|refine zP ?_|refine pD ?_|refine zQ ?_|refine zR ?_|refine zW ?_)
    refine roundI (i+1) rfl ?_ ?_ ?_
    ·show i+1≤List.length (α:=FcT) al
     omega
    ·show List.length (α:=FcT) al - (i+1) < List.length (α:=FcT) al - i
     omega
    ·repeat' (first|exact trivial|with_reducible exact rfl|refine And.intro ?_ ?_)
     all_goals first|rfl|exact hnx
  ·simp only [decide_eq_false_iff_not] at c1
   have hie:i=List.length (α:=FcT) al:=by omega
   rw [hie,List.take_length]
   rw [hie,List.take_length] at hfl
   obtain ⟨l1,hl1⟩:∃ l1,l1=List.filter (α:=FcT) notSL al:=⟨_,rfl⟩
   have HL:LsOk (l1++lotsN 6):=by rw [hl1];exact HL
   rw [← hl1] at hfl ⊢
   clear hl1 hie c1 hi hall hal h2 h3
   repeat' (first|refine zN ?_|refine zE ?_|refine zP ?_|refine pD ?_|refine zQ ?_|refine zR ?_|refine zW ?_)
   refine loopI (σ:=Nat) (fun j=>[(17,.int .i64 ((j:Int)+1)),(14,.own 5001)]) (fun j=>[(5001,.seq tFc (l1++lotsN j))]) (fun j=>j≤6) (fun j=>6 - j) 0 rfl (fun _=>rfl) rfl ?_ ?_ ?_
   ·exact Nat.zero_le _
   ·repeat' (first|exact trivial|with_reducible exact rfl|refine And.intro ?_ ?_)
    all_goals first|rfl|(rw [show lotsN 0=[] from rfl,List.append_nil])
   ·intro j hj
    have hln:(l1++lotsN j).length≤41:=by rw [List.length_append];unfold lotsN;rw [List.length_map,List.length_range];omega
    repeat' (first|refine zN ?_|refine zE ?_|refine zP ?_|refine pD ?_|refine zQ ?_|refine zR ?_|refine zW ?_)
    refine condI rfl (fun c1=>?_) (fun c1=>?_)
    ·simp only [decide_eq_true_eq] at c1
     repeat' (first|refine zN ?_|refine zE ?_|refine zP ?_|refine pD ?_|refine pC (by first|(unfold In64;omega)|(show (_+1) * _≤_;omega)) ?_|refine zQ ?_|refine zR ?_|refine zW ?_)
     refine roundI (j+1) rfl ?_ ?_ ?_
     ·show j+1≤6
      omega
     ·show 6 - (j+1) < 6 - j
      omega
     ·repeat' (first|exact trivial|with_reducible exact rfl|refine And.intro ?_ ?_)
      all_goals first|rfl|(unfold lotsN;rw [List.range_succ,List.map_append,← List.append_assoc];rfl)|(push_cast;omega)
    ·simp only [decide_eq_false_iff_not] at c1
     obtain rfl:j=6:=by omega
     obtain ⟨L,hL⟩:∃ L,L=l1++lotsN 6:=⟨_,rfl⟩
     rw [← hL] at hln HL ⊢
     clear hL
     repeat' (first|refine zN ?_|refine zE ?_|refine zP ?_|refine pD ?_|refine pC (by (show (_+_) * _≤_;simp only [List.length_nil];omega)) ?_|refine zQ ?_|refine zR ?_|refine zW ?_)
     have hL0:0 < L.length:=List.length_pos_of_mem (HL.lot 1 (by decide) (by decide))
     have p1:=pick_b (c:=one) (n:=6) (by decide)
     have p2:=pick_b (c:=two) (n:=5) (by decide)
     refine tidyI [(0,.junk),(1,.junk),(2,.junk),(12,.junk),(15,.junk),(16,.junk),(17,.junk),(37,.junk),(62,.junk)] [(33,.dead)] rfl rfl ?_ ?_
     ·repeat' (first|exact trivial|exact rfl|refine ⟨rfl,?_⟩|refine And.intro ?_ ?_)
     refine loopI (σ:=Nat × List FcT) (fun s=>[(19,.int .i64 s.1),(18,.own 5002)]) (fun s=>[(5002,.seq tFc s.2)]) (fun s=>s.1≤60∧s.2.Perm L) (fun s=>60 - s.1) (0,L) rfl (fun _=>rfl) rfl ?_ ?_ ?_
     ·exact ⟨Nat.zero_le _,List.Perm.refl _⟩
     ·repeat' (first|exact trivial|with_reducible exact rfl|refine And.intro ?_ ?_)
      all_goals rfl
     ·rintro ⟨i,m⟩ ⟨hi,hp⟩
      dsimp only at hi hp ⊢
      have hmL:=hp.length_eq
      repeat' (first|refine zN ?_|refine zE ?_|refine zP ?_|refine pD ?_|refine zQ ?_|refine zR ?_|refine zW ?_)
      refine condI rfl (fun c2=>?_) (fun c2=>?_)
      ·have c2:(decide ((i:Int) < (List.length (α:=Int) sw:Int))&&decide ((i:Int) < 60))=true:=c2
       simp only [Bool.and_eq_true,decide_eq_true_eq] at c2
       have q1:=fun c:Int=>pick_b (c:=c) (n:=m.length) (by omega)
       have hin:((i:Int)).toNat=i:=by omega
       have r1:=q1 (getI sw (Ty.dflt (.int .i64)) i)
       have r2:=q1 (Int.tdiv (getI sw (Ty.dflt (.int .i64)) i) 7)
       repeat' (first|refine zN ?_|refine zE ?_|refine zP ?_|refine zQ ?_|refine zW ?_)
       refine zR ?_
       repeat' (first|with_reducible refine pN ?_|refine pD ?_|refine pC (by first|decide|omega) ?_)
       repeat with_reducible refine cN ?_
       repeat' (first|refine zN ?_|refine zE ?_|refine zP ?_|refine zQ ?_|refine zW ?_)
       refine zR ?_
       repeat' (first|with_reducible refine pN ?_|refine pD ?_|refine pC (by first|decide|omega) ?_)
       repeat with_reducible refine cN ?_
       simp only [hin]
       generalize pickF (getI sw (Ty.dflt (.int .i64)) i) m.length=a at *
       generalize pickF (Int.tdiv (getI sw (Ty.dflt (.int .i64)) i) 7) m.length=b at *
       have ha:a.toNat < m.length:=by omega
       have hb:b.toNat < m.length:=by omega
       repeat' (first|refine zN ?_|refine zE ?_|refine zP ?_|refine pD ?_|refine pC (by (simp only [List.length_set];omega)) ?_|refine zQ ?_|refine zR ?_|refine zW ?_)
       refine roundI (i+1,(m.set a.toNat (getI m tFc.dflt b.toNat)).set b.toNat (getI m tFc.dflt a.toNat)) rfl ?_ ?_ ?_
       ·refine ⟨by show i+1≤60;omega,List.Perm.trans ?_ hp⟩
        have ea:getI m tFc.dflt a.toNat=m[a.toNat]:=by simp [getI,List.getD,List.getElem?_eq_getElem ha]
        have eb:getI m tFc.dflt b.toNat=m[b.toNat]:=by simp [getI,List.getD,List.getElem?_eq_getElem hb]
        rw [ea,eb]
        exact List.set_set_perm ha hb
       ·show 60 - (i+1) < 60 - i
        omega
       ·repeat' (first|exact trivial|with_reducible exact rfl|refine And.intro ?_ ?_)
        all_goals rfl
      ·clear c2
       repeat' (first|refine zN ?_|refine zE ?_|refine zP ?_|refine zQ ?_|refine zW ?_)
       refine zR ?_
       repeat' (first|with_reducible refine pN ?_|refine pD ?_|fail)
       repeat with_reducible refine cN ?_
       obtain ⟨on,hon⟩:∃ on,on=1+pickF one 6:=⟨_,rfl⟩
       rw [← hon]
       obtain ⟨tw,htw⟩:∃ tw,tw=1+Int.tmod (on+pickF two 5) 6:=⟨_,rfl⟩
       have ho:1≤on∧on≤6:=by omega
       have htm:tw=1+(on+pickF two 5) % 6:=by rw [htw,Int.tmod_eq_emod_of_nonneg (by omega)]
       have ht:1≤tw∧tw≤6:=by omega
       have hne:on≠tw:=by omega
       have htb:0≤Int.tmod (on+pickF two 5) 6∧Int.tmod (on+pickF two 5) 6 < 6:=by omega
       repeat' (first|refine zN ?_|refine zE ?_|refine zP ?_|refine zQ ?_|refine zW ?_)
       refine zR ?_
       repeat' (first|with_reducible refine pN ?_|refine pD ?_|refine pC (by first|decide|(unfold In64;omega)) ?_)
       repeat with_reducible refine cN ?_
       rw [← htw]
       clear htw htm htb hon p1 p2
       have e1:=pick_b (c:=n0) (n:=3) (by decide)
       have e2:=pick_b (c:=n1) (n:=60) (by decide)
       have e3:=pick_b (c:=n2) (n:=30) (by decide)
       have e4:=pick_b (c:=n3) (n:=6) (by decide)
       have he:ExOk (pickF n0 3) (pickF n1 60) (pickF n1 60+pickF n2 30) (pickF n3 6):=⟨by omega,by omega,by omega,by omega⟩
       have la:=law_a HL (List.Perm.refl L) he
       have lb:=law_a HL hp he
       have lc:=law_c HL hp he ho ht hne
       repeat' (first|refine zN ?_|refine zE ?_|refine zP ?_|refine zQ ?_|refine zW ?_)
       refine zR ?_
       repeat' (first|with_reducible refine pN ?_|refine pD ?_|fail)
       repeat with_reducible refine cN ?_
       repeat' (first|refine zN ?_|refine zE ?_|refine zP ?_|refine zQ ?_|refine zW ?_)
       refine zR ?_
       repeat' (first|with_reducible refine pN ?_|refine pD ?_|refine pC (by first|exact la.1|exact la.2.1) ?_)
       repeat with_reducible refine cN ?_
       repeat' (first|refine zN ?_|refine zE ?_|refine zP ?_|refine zQ ?_|refine zW ?_)
       refine zR ?_
       repeat' (first|with_reducible refine pN ?_|refine pD ?_|refine pC (by first|exact lb.1|exact lb.2.1) ?_)
       repeat with_reducible refine cN ?_
       repeat' (first|refine zN ?_|refine zE ?_|refine zP ?_|refine zQ ?_|refine zW ?_)
       refine zR ?_
       repeat' (first|with_reducible refine pN ?_|refine pD ?_|refine pC (by first|exact lc.1|exact lc.2.1|(show (_+1) * _≤_;omega)) ?_)
       repeat with_reducible refine cN ?_
       obtain ⟨V,hV⟩:∃ V:(Int→Int)→List VdT,V=verL (pickF n0 3) (pickF n1 60) (pickF n1 60+pickF n2 30) (pickF n3 6) L:=⟨_,rfl⟩
       rw [← hV] at la lb lc
       have hVl:∀ s,List.length (α:=VdT) (V s)=6:=fun s=>by rw [hV];rfl
       obtain ⟨T,hT⟩:∃ T:Int→Int × List Int,∀ (s:Int→Int) (d:VdT) (w:Int),1≤w∧w≤6→getI (V s) d (w - 1).toNat=(w,T (s w)):=⟨fun v=>(tchF (entA (pickF n0 3) (pickF n1 60) (pickF n1 60+pickF n2 30) (pickF n3 6) L v),Gn.sortI (whyF (entA (pickF n0 3) (pickF n1 60) (pickF n1 60+pickF n2 30) (pickF n3 6) L v))),fun s d w h=>by rw [hV];exact verL_get h⟩
       refine tidyI [(5,.junk),(8,.junk),(14,.junk),(18,.junk),(19,.junk),(22,.junk),(80,.junk),(23,.own 7001),(24,.own 7002),(25,.own 7003)] [(7001,.seq tVd (V id)),(7002,.seq tVd (V id)),(7003,.seq tVd (V (sg on tw)))] rfl rfl ?_ ?_
       ·repeat' (first|exact trivial|with_reducible exact rfl|refine And.intro ?_ ?_)
        all_goals first|exact la.2.2.symm|exact lb.2.2.symm|exact lc.2.2.symm
       clear la lb lc hV e1 e2 e3 e4 he HL hp hmL
       have hA:=hVl id
       have hC:=hVl (sg on tw)
       repeat' (first|refine zN ?_|refine zE ?_|refine zP ?_|refine zQ ?_|refine zW ?_)
       refine zR ?_
       repeat' (first|with_reducible refine pN ?_|refine pD ?_|fail)
       repeat with_reducible refine cN ?_
       refine condI rfl (fun c=>?_) (fun _=>?_)
       ·exfalso
        have c:(decide (((List.length (α:=VdT) (V id):Nat):Int)≠6)||decide (((List.length (α:=VdT) (V id):Nat):Int)≠6)||decide (((List.length (α:=VdT) (V (sg on tw)):Nat):Int)≠6))=true:=c
        simp [hA,hC] at c
       repeat' (first|refine zN ?_|refine zE ?_|refine zP ?_|refine pD ?_|refine zQ ?_|refine zR ?_|refine zW ?_)
       refine loopI (σ:=Nat) (fun j=>[(26,.int .i64 ((j:Int)+1))]) (fun j=>[]) (fun j=>j≤6) (fun j=>6 - j) 0 rfl (fun _=>rfl) rfl ?_ ?_ ?_
       ·exact Nat.zero_le _
       ·repeat' (first|exact trivial|with_reducible exact rfl|refine And.intro ?_ ?_)
        all_goals rfl
       intro j hj
       repeat' (first|refine zN ?_|refine zE ?_|refine zP ?_|refine pD ?_|refine zQ ?_|refine zR ?_|refine zW ?_)
       refine condI rfl (fun c3=>?_) (fun c3=>?_)
       ·simp only [decide_eq_true_eq] at c3
        have hw:1≤(j:Int)+1∧(j:Int)+1≤6:=by omega
        obtain ⟨w,hwj⟩:∃ w:Int,w=(j:Int)+1:=⟨_,rfl⟩
        rw [← hwj] at hw ⊢
        have hsw:=sg_in ho ht hw
        repeat' (first|refine zN ?_|refine zE ?_|refine zP ?_|refine zQ ?_|refine zW ?_)
        refine zR ?_
        repeat' (first|with_reducible refine pN ?_|refine pD ?_|fail)
        repeat with_reducible refine cN ?_
        repeat' (first|refine zN ?_|refine zE ?_|refine zP ?_|refine zQ ?_|refine zW ?_)
        refine zR ?_
        repeat' (first|with_reducible refine pN ?_|refine pD ?_|fail)
        repeat with_reducible refine cN ?_
        repeat' (first|with_reducible refine cN ?_|refine skipI rfl ?_|refine zS ?_|fail)
        refine joinC (fun _:Unit=>[(27,.int .i64 (sg on tw w))]) (fun _=>[]) (fun _=>True) (fun _=>rfl) ?_ ?_
        ·refine condI rfl (fun c4=>?_) (fun c4=>?_)
         ·have c4:decide (w=on)=true:=c4
          simp only [decide_eq_true_eq] at c4
          repeat' (first|refine zN ?_|refine zE ?_|refine zP ?_|refine pD ?_|refine zQ ?_|refine zR ?_|refine zW ?_)
          refine meetI () rfl trivial ?_
          repeat' (first|exact trivial|exact rfl|refine ⟨rfl,?_⟩|refine And.intro ?_ ?_)
          all_goals (unfold sg;rw [if_pos c4])
         ·have c4:decide (w=on)=false:=c4
          simp only [decide_eq_false_iff_not] at c4
          repeat' (first|refine zN ?_|refine zE ?_|refine zP ?_|refine pD ?_|refine zQ ?_|refine zR ?_|refine zW ?_)
          refine condI rfl (fun c5=>?_) (fun c5=>?_)
          ·have c5:decide (w=tw)=true:=c5
           simp only [decide_eq_true_eq] at c5
           repeat' (first|refine zN ?_|refine zE ?_|refine zP ?_|refine pD ?_|refine zQ ?_|refine zR ?_|refine zW ?_)
           refine meetI () rfl trivial ?_
           repeat' (first|exact trivial|exact rfl|refine ⟨rfl,?_⟩|refine And.intro ?_ ?_)
           all_goals (unfold sg;rw [if_neg c4,if_pos c5])
          ·have c5:decide (w=tw)=false:=c5
           simp only [decide_eq_false_iff_not] at c5
           repeat' (first|refine zN ?_|refine zE ?_|refine zP ?_|refine pD ?_|refine zQ ?_|refine zR ?_|refine zW ?_)
           refine meetI () rfl trivial ?_
           repeat' (first|exact trivial|exact rfl|refine ⟨rfl,?_⟩|refine And.intro ?_ ?_)
           all_goals (unfold sg;rw [if_neg c4,if_neg c5])
        ·rintro ⟨⟩ _
         repeat' (first|refine zN ?_|refine zE ?_|refine zP ?_|refine pD ?_|refine pC (by first|(unfold In64;omega)|(intros;omega)|(intros;unfold In64;omega)) ?_|refine zQ ?_|refine zR ?_|refine zW ?_)
         have t1:=fun s=>hT s (Ty.dflt tVd) w hw
         have t2:=hT id (Ty.dflt tVd) (sg on tw w) hsw
         rw [t1 id,t1 (sg on tw),t2]
         refine condI rfl (fun c=>?_) (fun _=>?_)
         ·exfalso
          have c:(decide (w≠w)||decide (w≠w)||decide ((T w).1≠(T w).1)||!sameL (T w).2 (T w).2||decide ((T (sg on tw w)).1≠(T (sg on tw w)).1)||!sameL (T (sg on tw w)).2 (T (sg on tw w)).2)=true:=c
          simp [sameL_refl] at c
         repeat' (first|refine zN ?_|refine zE ?_|refine zP ?_|refine pD ?_|refine pC (by (unfold In64;omega)) ?_|refine zQ ?_|refine zR ?_|refine zW ?_)
         refine roundI (j+1) rfl ?_ ?_ ?_
         ·show j+1≤6
          omega
         ·show 6 - (j+1) < 6 - j
          omega
         ·repeat' (first|exact trivial|with_reducible exact rfl|refine And.intro ?_ ?_)
          all_goals first|rfl|(push_cast;omega)|(rw [hwj];push_cast;rfl)
       ·simp only [decide_eq_false_iff_not] at c3
        repeat' (first|refine zN ?_|refine zE ?_|refine zP ?_|refine pD ?_|refine zQ ?_|refine zR ?_|refine zW ?_)
        refine endR rfl ?_
        repeat' (first|exact trivial|exact rfl|refine ⟨rfl,?_⟩|refine And.intro ?_ ?_)
end Go.AM.YtbepaplaahcnkaaGreat.Tp
end
