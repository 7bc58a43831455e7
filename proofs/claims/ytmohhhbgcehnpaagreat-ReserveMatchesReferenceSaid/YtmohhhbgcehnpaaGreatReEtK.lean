/- The best plan is the first of those that end earliest; requests that integers determine are valid. -/
import Derived.Test.YtmohhhbgcehnpaaGreatReEaK
import Derived.Test.YtmohhhbgcehnpaaGreatPm32
set_option linter.all false
namespace Go.AM.YtmohhhbgcehnpaaGreat.Re
open Go.Proofs
theorem chFold (ns:List NeedT) (hn:∀ x∈ns,∀ o:List PairT,(chRow o (pairsI x.1))=x.1.flatMap fun a=>rowOf x.1 a fun ab=>[o++[ab]]):∀ out:List (List PairT),ns.foldl chStep out=out.flatMap (chL ns):=by
 induction ns with
 | nil=>intro out;simp [chL]
 | cons x ns ih =>
   intro out
   rw [List.foldl_cons,ih (fun y hy=>hn y (by simp [hy]))]
   unfold chStep
   rw [List.flatMap_assoc]
   congr 1
   funext o
   rw [hn x (by simp) o,List.flatMap_assoc]
   show _=x.1.flatMap fun a=>rowOf x.1 a fun ab=>chL ns (o++[ab])
   congr 1
   funext a
   unfold rowOf
   rw [List.flatMap_assoc]
   congr 1
   funext b
   cases decide (a≠b) <;> simp
theorem flatMap_congr' {α β:Type} {f g:α→List β}:∀ {l:List α},(∀ x∈l,f x=g x)→l.flatMap f=l.flatMap g
 | [],_=>rfl
 | x::l,h=>by
   rw [List.flatMap_cons,List.flatMap_cons,h x (by simp),flatMap_congr' fun y hy=>h y (by simp [hy])]
theorem range_flat {α β:Type} (d:α) (f:α→List β):∀ l:List α,(List.range l.length).flatMap (fun i=>f (getI l d i))=l.flatMap f:=fun l=>by
 have h:l=(List.range l.length).map fun i=>getI l d i:=by
  refine List.ext_getElem (by simp) fun i h1 h2=>?_
  simp [getI,List.getD,List.getElem?_eq_getElem h1]
 conv=>rhs;rw [h]
 rw [List.flatMap_map]
theorem pairs_nodup {l:List Int} (hl:∀ i k,i < l.length→k < l.length→getI l 0 i=getI l 0 k→i=k) (o:List PairT):chRow o (pairsI l)=l.flatMap fun a=>rowOf l a fun ab=>[o++[ab]]:=by
 unfold chRow pairsI rowsI
 rw [List.map_flatMap,← range_flat (0:Int) (fun a=>rowOf l a fun ab=>[o++[ab]]) l]
 refine flatMap_congr' fun i hi=>?_
 unfold rowI rowOf
 rw [List.map_flatMap,← range_flat (0:Int) (fun b=>bif decide (getI l 0 i≠b) then [o++[(getI l 0 i,b)]] else []) l]
 refine flatMap_congr' fun k hk=>?_
 have hi:=List.mem_range.1 hi
 have hk:=List.mem_range.1 hk
 have e:decide ((i:Int)≠(k:Int))=decide (getI l 0 i≠getI l 0 k):=by
  rw [Bool.eq_iff_iff,decide_eq_true_eq,decide_eq_true_eq]
  constructor
  ·intro h h2
   have:=hl i k hi hk h2
   omega
  ·rintro h h2
   exact h (by rw [show i=k by omega])
 rw [e]
 cases decide (getI l 0 i≠getI l 0 k) <;> simp
section
variable {c:CalT} {e a b:Int} {ns:List NeedT} {ws:List tWin.El}
theorem lateAny_nil (xs:List StT):lateAny [] xs=false:=lateAny_no fun _ _=>rfl
end
theorem mkT_tools (y:Int4):(2≤(mkT y).length∧(mkT y).length≤3)∧(∀ i,i < (mkT y).length→(0≤getI (mkT y) 0 i∧getI (mkT y) 0 i≤59)∧∀ k,k < i→getI (mkT y) 0 k < getI (mkT y) 0 i):=by
 have p1:=pick_b (c:=y.1) (n:=4) (by omega)
 have p2:=pick_b (c:=y.2.1) (n:=2) (by omega)
 have p3:=pick_b (c:=y.2.1.tdiv 6) (n:=2) (by omega)
 unfold mkT mkBb mkA
 generalize pickF y.1 4=A at *
 generalize pickF y.2.1 2=B at *
 generalize pickF (y.2.1.tdiv 6) 2=D at *
 cases decide (pickF (y.2.1.tdiv 2) 3=0)
 ·refine ⟨by simp,fun i hi=>?_⟩
  have hi:i < 2:=hi
  match i,hi with
  | 0,_=>exact ⟨⟨by show 0≤A;omega,by show A≤59;omega⟩,fun k hk=>by omega⟩
  | 1,_=>exact ⟨⟨by show 0≤A+1+B;omega,by show A+1+B≤59;omega⟩,fun k hk=>by
   obtain rfl:k=0:=by omega
   show A < A+1+B;omega⟩
 ·refine ⟨by simp,fun i hi=>?_⟩
  have hi:i < 3:=hi
  match i,hi with
  | 0,_=>exact ⟨⟨by show 0≤A;omega,by show A≤59;omega⟩,fun k hk=>by omega⟩
  | 1,_=>exact ⟨⟨by show 0≤A+1+B;omega,by show A+1+B≤59;omega⟩,fun k hk=>by
   obtain rfl:k=0:=by omega
   show A < A+1+B;omega⟩
  | 2,_=>exact ⟨⟨by show 0≤A+1+B+1+D;omega,by show A+1+B+1+D≤59;omega⟩,fun k hk=>by
   match k,hk with
   | 0,_=>show A < A+1+B+1+D;omega
   | 1,_=>show A+1+B < A+1+B+1+D;omega⟩
theorem ndL_mem {X:Int4} {needs:List Int4} {x:NeedT} (h:x∈ndL X needs):∃ y,x=mkNeed y:=by
 unfold ndL at h
 obtain ⟨i,_,rfl⟩:=List.mem_map.1 h
 exact ⟨_,rfl⟩
theorem ndL_tools {X:Int4} {needs:List Int4}:∀ x∈ndL X needs,List.length (α:=Int) x.1≤3:=fun x hx=>by
 obtain ⟨y,rfl⟩:=ndL_mem hx
 exact (mkT_tools y).1.2
end Go.AM.YtmohhhbgcehnpaaGreat.Re
