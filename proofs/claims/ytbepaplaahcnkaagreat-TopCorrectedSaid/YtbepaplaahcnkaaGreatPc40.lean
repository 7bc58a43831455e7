/- AmBld. -/
import Derived.Test.YtbepaplaahcnkaaGreatPc30

section
set_option linter.all false
set_option maxRecDepth 10000
namespace Go.AM
section
variable {PG:Program} {tt:TT} {S:Nat→Option Spec} {E:Env PG tt S} {K:List Nat} {c b:Code} {st:St} {Q:AExit→St→Prop}
theorem bldNewI {id T u8:Nat} {d1 d2 d3:Nat} {y0 y1 y2:TypeId} {p0 p1 p2:String} {e0 e1 e2:Array Edge}
 (hc:c=.region id #[⟨some d1,.build T #[],y0,p0,e0,none⟩,⟨some d2,.box T (.tmp d1),y1,p1,e1,none⟩,⟨some d3,.assign (.tmp d2),y2,p2,e2,none⟩] false)
 (hb:∀ w,(Instr.build T #[]).run PG w=.ok (.agg #[.pointer none,.slice none 0 0]) w) (hgt:st.gt=[])
 (hck:(Nat.blt d1 st.n&&Nat.blt d2 st.n&&Nat.blt d3 st.n&&freshAll st.ks [d2])=true)
 {z0:St} (hz0:tidy K ⟨st.n,(d3,⟨[],.ptr d2 0⟩)::(d2,⟨[],.ptr d2 0⟩)::(d1,⟨[],.junk⟩)::st.slots,st.gt,d2::st.ks,(d2,.bld T u8 false [])::st.rows⟩ (fun s=>some s)=some z0)
 (k0:Q .normal z0):WP E K c st Q:=by
 subst hc
 intro hcode C g R a w Z hrel hq
 simp only [Bool.and_eq_true,Nat.blt_eq] at hck
 obtain ⟨⟨⟨l1,l2⟩,l3⟩,hf⟩:=hck
 refine wpIn_region ?_
 obtain ⟨ops,hops⟩:∃ ops:Array Oper,ops=#[⟨some d1,.build T #[],y0,p0,e0,none⟩,⟨some d2,.box T (.tmp d1),y1,p1,e1,none⟩,⟨some d3,.assign (.tmp d2),y2,p2,e2,none⟩]:=⟨_,rfl⟩
 rw [← hops]
 have step:∀ (o:Oper) (i:Nat) (rest:List Nat) (a:Act) (w:World),ops[i]?=some o→o.guard=none→o.wpIn (FR E.ro) 0 PG a w (wpOpsIn (FR E.ro) 0 PG ops Z rest) Z→wpOpsIn (FR E.ro) 0 PG ops Z (i::rest) a w:=fun o i rest a w h1 h2 h3=>by
  simp only [wpOpsIn,h1]
  rw [if_pos (by unfold Region.wanted;rw [h2])]
  exact h3
 rw [show List.range ops.size=[0,1,2] by rw [hops];rfl]
 have hs0:a.tmps.size=st.n:=hrel.size
 have mg:∀ d,mem st.gt d=false:=fun d=>by rw [hgt];rfl
 have hrel1:=hrel.junk hgt l1 (.agg #[.pointer none,.slice none 0 0])
 obtain ⟨a1,ha1⟩:∃ a1,a1=a.put (some d1) (.agg #[.pointer none,.slice none 0 0]):=⟨_,rfl⟩
 have e1':a1.eval (.tmp d1)=.agg #[.pointer none,.slice none 0 0]:=by rw [ha1,eval_put_same (by rw [hs0];exact l1)]
 rw [← ha1] at hrel1
 obtain ⟨w1,hw1⟩:∃ w1,w1=w.alloc (.cells #[.pointer none,.slice none 0 0] T):=⟨_,rfl⟩
 obtain ⟨x,hx⟩:∃ x:Gh,x=⟨w.heap.size,undef⟩:=⟨_,rfl⟩
 have hnew:w1.heap[w.heap.size]?=some (.cells #[.pointer none,.slice none 0 0] T (0,0)):=by
  rw [hw1]
  simpa using heap_alloc_new w (.cells #[.pointer none,.slice none 0 0] T)
 have hgb:(updG g d2 x d2).b=w.heap.size:=by rw [updG_same,hx]
 have hrel2:Rel C (updG g d2 x) R ⟨st.n,(d1,⟨[],.junk⟩)::st.slots,st.gt,d2::st.ks,(d2,.bld T u8 false [])::st.rows⟩ a1 w1:=by
  refine hrel1.new1 hf (by rw [hw1];rfl) (by rw [hw1];rfl) (by rw [hw1];rfl) (by rw [hw1];simp) (fun b hb=>by rw [hw1];exact Go.RowKit.Below.heap_alloc w _ b hb) ?_ (fun b hb=>?_)
  ·refine ⟨.slice none 0 0,?_,?_,?_⟩
   ·rw [hgb];exact hnew
   ·exact ⟨by simp,.inl ⟨none,rfl,rfl⟩⟩
   ·intro h;simp [blkOf] at h
  ·rcases hb with hb|⟨p,v,T',hb,hb2⟩
   ·rw [hgb] at hb;omega
   ·rw [hgb,hnew] at hb
    cases hb
    simp [blkOf] at hb2
 have rp:RelV (updG g d2 x) (fun r=>mem (d2::st.ks) r=true) R w1 (.ptr d2 0) (.pointer (some ⟨w.heap.size,0,none⟩)):=by
  have:=RelV.ptr (g:=updG g d2 x) (K:=fun r=>mem (d2::st.ks) r=true) (R:=R) (w:=w1) (r:=d2) (j:=0) (by simp [mem_cons])
  rw [hgb] at this
  exact this
 have hrel3:=hrel2.put d2 ⟨[],.ptr d2 0⟩ (.pointer (some ⟨w.heap.size,0,none⟩)) st.gt l2 (mg d2) (fun _ h=>h) (fun u x h=>by cases h) ⟨fun _=>rp,fun h=>absurd (fun t x h=>by cases h) h⟩
 obtain ⟨a2,ha2⟩:∃ a2,a2=a1.put (some d2) (.pointer (some ⟨w.heap.size,0,none⟩)):=⟨_,rfl⟩
 have hs1:a1.tmps.size=st.n:=hrel1.size
 have e2':a2.eval (.tmp d2)=.pointer (some ⟨w.heap.size,0,none⟩):=by rw [ha2,eval_put_same (by rw [hs1];exact l2)]
 rw [← ha2] at hrel3
 have hrel4:=hrel3.put d3 ⟨[],.ptr d2 0⟩ (.pointer (some ⟨w.heap.size,0,none⟩)) st.gt l3 (mg d3) (fun _ h=>h) (fun u x h=>by cases h) ⟨fun _=>rp,fun h=>absurd (fun t x h=>by cases h) h⟩
 refine step ⟨some d1,.build T #[],y0,p0,e0,none⟩ 0 _ _ _ (by rw [hops];rfl) rfl ?_
 refine opFR (wp_value (v:=.agg #[.pointer none,.slice none 0 0]) (w':=w) (by simp [execOp,hb w]) ?_) rfl
 show wpOpsIn _ _ _ _ _ _ (Act.put _ (some d1) _) _
 rw [← ha1]
 refine step ⟨some d2,.box T (.tmp d1),y1,p1,e1,none⟩ 1 _ _ _ (by rw [hops];rfl) rfl ?_
 refine opFR (wp_value (v:=.pointer (some ⟨w.heap.size,0,none⟩)) (w':=w1) (by simp only [execOp,e1'];rw [hw1];rfl) ?_) rfl
 show wpOpsIn _ _ _ _ _ _ (Act.put _ (some d2) _) _
 rw [← ha2]
 refine step ⟨some d3,.assign (.tmp d2),y2,p2,e2,none⟩ 2 _ _ _ (by rw [hops];rfl) rfl ?_
 refine opFR (wp_value (v:=.pointer (some ⟨w.heap.size,0,none⟩)) (w':=w1) (by simp [execOp,e2']) ?_) rfl
 simp only [wpOpsIn]
 exact hq C .normal z0 (updG g d2 x) R _ w1 (Later.refl C) k0 (by
  rw [tidy_eq] at hz0
  obtain rfl:=Option.some.inj hz0
  exact tidy_sound hrel4)
end
end Go.AM
end
