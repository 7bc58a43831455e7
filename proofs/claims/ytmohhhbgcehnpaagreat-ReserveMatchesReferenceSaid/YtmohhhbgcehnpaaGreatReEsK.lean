/- The reference's equality of plans. -/
import Derived.Test.YtmohhhbgcehnpaaGreatPm23
set_option linter.all false
namespace Go.AM.YtmohhhbgcehnpaaGreat.Re
open Go.Proofs
set_option maxRecDepth 100000
set_option maxHeartbeats 4000000
abbrev StQ:=Int × Int × (Int × Int) × (Int × Int)
abbrev WiQ:=Int × Int × Int
def same8F (e a b:Int) (xs:List StQ) (ws:List WiQ) (e' a' b':Int) (xs':List StQ) (ws':List WiQ):Bool:=decide (e=e'∧a=a'∧b=b'∧xs=xs'∧ws=ws')
theorem eq_of_getI {α:Type} {d:α} {l m:List α} (hl:l.length=m.length) (h:∀ j,j < l.length→getI l d j=getI m d j):l=m:=by
 refine List.ext_getElem hl fun i h1 h2=>?_
 have:=h i h1
 simpa [getI,List.getD,List.getElem?_eq_getElem h1,List.getElem?_eq_getElem h2] using this
def same8S:Spec:=plain fun
 | [.agg [.int .i64 e,.int .i64 a,.int .i64 b,.sl (.pair (.int .i64) (.pair (.int .i64) (.pair (.pair (.int .i64) (.int .i64)) (.pair (.int .i64) (.int .i64))))) xs,.sl (.pair (.int .i64) (.pair (.int .i64) (.int .i64))) ws],
    .agg [.int .i64 e',.int .i64 a',.int .i64 b',.sl (.pair (.int .i64) (.pair (.int .i64) (.pair (.pair (.int .i64) (.int .i64)) (.pair (.int .i64) (.int .i64))))) xs',.sl (.pair (.int .i64) (.pair (.int .i64) (.int .i64))) ws']] =>
   outV ((xs.length≤1000000∧xs'.length≤1000000)∧ws.length≤1000000∧ws'.length≤1000000) (.bool (same8F e a b xs ws e' a' b' xs' ws'))
 | _=>none
theorem same8Ok:SpecSound Tryz.prog 13 same8S:=by
 refine soundP (envOf sigNil) Tryz.func13 (c:=body Tryz.f13) rfl (by kernel_rfl) rfl ?_
 intro args out hf hpre
 split at hf <;> try (cases hf;done)
 rename_i e a b xs ws e' a' b' xs' ws'
 cases hf
 refine ⟨Nat.le_of_ble_eq_true rfl,initI (args:=[.agg [.int .i64 e,.int .i64 a,.int .i64 b,.sl tStage xs,.sl tWin ws],.agg [.int .i64 e',.int .i64 a',.int .i64 b',.sl tStage xs',.sl tWin ws']]) rfl ?_⟩
 obtain ⟨⟨h1,h2⟩,h3,h4⟩:=hpre
 obtain ⟨r,hr⟩:∃ r,r=same8F e a b xs ws e' a' b' xs' ws':=⟨_,rfl⟩
 rw [← hr]
 unfold same8F at hr
 repeat' (first|refine zN ?_|refine zE ?_|refine zP ?_|refine pD ?_|refine zS ?_|refine zR ?_|refine zO ?_|refine zB ?_|refine zX ?_|refine zT ?_|refine skipI rfl ?_)
 refine condI rfl (fun c1=>?_) (fun c1=>?_)
 ·simp only [Bool.or_eq_true,decide_eq_true_eq] at c1
  have hr:r=false:=by
   rw [hr,decide_eq_false_iff_not]
   rintro ⟨rfl,rfl,rfl,rfl,rfl⟩
   simp at c1
  rw [hr]
  repeat' (first|refine zN ?_|refine zE ?_|refine zP ?_|refine pD ?_|refine zS ?_|refine zR ?_|refine zO ?_|refine zB ?_|refine zX ?_|refine zT ?_|refine skipI rfl ?_)
  refine endR rfl ?_
  repeat' (first|exact trivial|exact rfl|refine ⟨rfl,?_⟩|refine And.intro ?_ ?_)
 simp only [Bool.or_eq_false_iff,decide_eq_false_iff_not,Decidable.not_not] at c1
 obtain ⟨⟨⟨⟨q1,q2⟩,q3⟩,q4⟩,q5⟩:=c1
 subst q1 q2 q3
 have hl1:xs.length=xs'.length:=by omega
 have hl2:ws.length=ws'.length:=by omega
 repeat' (first|refine zN ?_|refine zE ?_|refine zP ?_|refine pD ?_|refine zS ?_|refine zR ?_|refine zO ?_|refine zB ?_|refine zX ?_|refine zT ?_|refine skipI rfl ?_)
 refine loopI (σ:=Nat) (fun i=>[(5,.int .i64 i)]) (fun i=>[]) (fun i=>i≤xs.length∧∀ j,j < i→getI xs tStage.dflt j=getI xs' tStage.dflt j) (fun i=>xs.length - i) 0 rfl (fun _=>rfl) rfl ?_ ?_ ?_
 ·exact ⟨Nat.zero_le _,fun j hj=>by omega⟩
 ·repeat' (first|exact trivial|exact rfl|refine ⟨rfl,?_⟩|refine And.intro ?_ ?_)
 rintro i ⟨hi,hb⟩
 repeat' (first|refine zN ?_|refine zE ?_|refine zP ?_|refine pD ?_|refine zS ?_|refine zR ?_|refine zO ?_|refine zB ?_|refine zX ?_|refine zT ?_|refine skipI rfl ?_)
 refine condI rfl (fun c2=>?_) (fun c2=>?_)
 ·simp only [decide_eq_true_eq] at c2
  have hil:i < xs.length:=by omega
  have hin:((i:Int)).toNat=i:=by omega
  repeat' (first|refine zN ?_|refine zE ?_|refine zP ?_|refine pD ?_|refine pC (by (simp only [hin];omega)) ?_|refine zS ?_|refine zR ?_|refine zO ?_|refine zB ?_|refine zX ?_|refine zT ?_|refine skipI rfl ?_)
  refine condI rfl (fun c3=>?_) (fun c3=>?_)
  ·simp only [hin] at c3
   have hr:r=false:=by
    rw [hr,decide_eq_false_iff_not]
    rintro ⟨_,_,_,rfl,_⟩
    simp at c3
   rw [hr]
   repeat' (first|refine zN ?_|refine zE ?_|refine zP ?_|refine pD ?_|refine zS ?_|refine zR ?_|refine zO ?_|refine zB ?_|refine zX ?_|refine zT ?_|refine skipI rfl ?_)
   refine endR rfl ?_
   repeat' (first|exact trivial|exact rfl|refine ⟨rfl,?_⟩|refine And.intro ?_ ?_)
  ·simp only [hin] at c3
   have he:getI xs tStage.dflt i=getI xs' tStage.dflt i:=by
    generalize getI xs tStage.dflt i=x at c3 ⊢
    generalize getI xs' tStage.dflt i=y at c3 ⊢
    obtain ⟨x1,x2,⟨x3,x4⟩,x5,x6⟩:=x
    obtain ⟨y1,y2,⟨y3,y4⟩,y5,y6⟩:=y
    simp at c3
    simp [c3]
   repeat' (first|refine zN ?_|refine zE ?_|refine zP ?_|refine pD ?_|refine zS ?_|refine zR ?_|refine zO ?_|refine zB ?_|refine zX ?_|refine zT ?_|refine skipI rfl ?_)
   refine roundI (i+1) rfl ?_ ?_ ?_
   ·refine ⟨by show i+1≤xs.length;omega,fun j hj=>?_⟩
    by_cases hji:j=i
    ·subst hji;exact he
    ·exact hb j (by omega)
   ·show xs.length - (i+1) < xs.length - i
    omega
   ·repeat' (first|exact trivial|with_reducible exact rfl|refine And.intro ?_ ?_)
    all_goals rfl
 simp only [decide_eq_false_iff_not] at c2
 have hxx:xs=xs':=eq_of_getI hl1 fun j hj=>hb j (by omega)
 subst hxx
 repeat' (first|refine zN ?_|refine zE ?_|refine zP ?_|refine pD ?_|refine zS ?_|refine zR ?_|refine zO ?_|refine zB ?_|refine zX ?_|refine zT ?_|refine skipI rfl ?_)
 refine loopI (σ:=Nat) (fun i=>[(6,.int .i64 i)]) (fun i=>[]) (fun i=>i≤ws.length∧∀ j,j < i→getI ws tWin.dflt j=getI ws' tWin.dflt j) (fun i=>ws.length - i) 0 rfl (fun _=>rfl) rfl ?_ ?_ ?_
 ·exact ⟨Nat.zero_le _,fun j hj=>by omega⟩
 ·repeat' (first|exact trivial|exact rfl|refine ⟨rfl,?_⟩|refine And.intro ?_ ?_)
 rintro i ⟨hi,hb⟩
 repeat' (first|refine zN ?_|refine zE ?_|refine zP ?_|refine pD ?_|refine zS ?_|refine zR ?_|refine zO ?_|refine zB ?_|refine zX ?_|refine zT ?_|refine skipI rfl ?_)
 refine condI rfl (fun c4=>?_) (fun c4=>?_)
 ·simp only [decide_eq_true_eq] at c4
  have hil:i < ws.length:=by omega
  have hin:((i:Int)).toNat=i:=by omega
  repeat' (first|refine zN ?_|refine zE ?_|refine zP ?_|refine pD ?_|refine pC (by (simp only [hin];omega)) ?_|refine zS ?_|refine zR ?_|refine zO ?_|refine zB ?_|refine zX ?_|refine zT ?_|refine skipI rfl ?_)
  refine condI rfl (fun c5=>?_) (fun c5=>?_)
  ·simp only [hin] at c5
   have hr:r=false:=by
    rw [hr,decide_eq_false_iff_not]
    rintro ⟨_,_,_,_,rfl⟩
    simp at c5
   rw [hr]
   repeat' (first|refine zN ?_|refine zE ?_|refine zP ?_|refine pD ?_|refine zS ?_|refine zR ?_|refine zO ?_|refine zB ?_|refine zX ?_|refine zT ?_|refine skipI rfl ?_)
   refine endR rfl ?_
   repeat' (first|exact trivial|exact rfl|refine ⟨rfl,?_⟩|refine And.intro ?_ ?_)
  ·simp only [hin] at c5
   have he:getI ws tWin.dflt i=getI ws' tWin.dflt i:=by
    generalize getI ws tWin.dflt i=x at c5 ⊢
    generalize getI ws' tWin.dflt i=y at c5 ⊢
    obtain ⟨x1,x2,x3⟩:=x
    obtain ⟨y1,y2,y3⟩:=y
    simp at c5
    simp [c5]
   repeat' (first|refine zN ?_|refine zE ?_|refine zP ?_|refine pD ?_|refine zS ?_|refine zR ?_|refine zO ?_|refine zB ?_|refine zX ?_|refine zT ?_|refine skipI rfl ?_)
   refine roundI (i+1) rfl ?_ ?_ ?_
   ·refine ⟨by show i+1≤ws.length;omega,fun j hj=>?_⟩
    by_cases hji:j=i
    ·subst hji;exact he
    ·exact hb j (by omega)
   ·show ws.length - (i+1) < ws.length - i
    omega
   ·repeat' (first|exact trivial|with_reducible exact rfl|refine And.intro ?_ ?_)
    all_goals rfl
 ·simp only [decide_eq_false_iff_not] at c4
  have hww:ws=ws':=eq_of_getI hl2 fun j hj=>hb j (by omega)
  subst hww
  have hr:r=true:=by rw [hr];simp
  rw [hr]
  repeat' (first|refine zN ?_|refine zE ?_|refine zP ?_|refine pD ?_|refine zS ?_|refine zR ?_|refine zO ?_|refine zB ?_|refine zX ?_|refine zT ?_|refine skipI rfl ?_)
  refine endR rfl ?_
  repeat' (first|exact trivial|exact rfl|refine ⟨rfl,?_⟩|refine And.intro ?_ ?_)
end Go.AM.YtmohhhbgcehnpaaGreat.Re
