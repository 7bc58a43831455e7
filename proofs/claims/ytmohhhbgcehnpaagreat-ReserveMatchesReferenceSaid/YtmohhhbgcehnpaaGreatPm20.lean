/- CaH. -/
import Derived.Test.YtmohhhbgcehnpaaGreatPm19
import Derived.Test.YtmohhhbgcehnpaaGreatPm14

section
set_option linter.all false
namespace Go.AM.YtmohhhbgcehnpaaGreat
open Go.Proofs Go.RowKit
def longB (ln:Int) (g:Int × Int):Bool:=decide (ln≤RowKit.wrap64 (g.2 - g.1))
def firstG (gs:List (Int × Int)) (ln:Int):Int × Bool:=match gs.find? (longB ln) with
 | some g=>(g.1,true)
 | none=>(0,false)
set_option maxRecDepth 100000 in
set_option maxHeartbeats 4000000 in
theorem tool_in (m:Nat) (tl:Int) (w:World) (h:0≤tl∧tl < 60):CallsIn Fence.wide m Tryz.prog 71 #[.int .i64 tl] w fun e w'=>e=.returned (.bool true)∧w'=w:=by
 obtain ⟨h1,h2⟩:=h
 refine callsIn_of_wp Tryz.func71 rfl trivial ?_ rfl
 simp only [Tryz.ntmps71,List.size_toArray,List.length_cons,List.length_nil,Nat.reduceAdd,Nat.reduceSub,Array.replicate_succ,Array.replicate_zero,List.push_toArray,List.append_toArray,List.nil_append,List.cons_append]
 gi_wp2
 go_ret
 exact ⟨rfl,rfl⟩
set_option maxRecDepth 100000 in
set_option maxHeartbeats 4000000 in
theorem gapsF_in (m:Nat) (p:Option Addr) (tl fr:Int) (w:World):CallsIn Fence.wide m Tryz.prog 141 #[.pointer p,.int .i64 tl,.int .i64 fr] w fun e w' =>
 e=.returned (.func (.func 147) #[] #[.pointer (some ⟨w.heap.size,0,none⟩),.pointer (some ⟨w.heap.size+1,0,none⟩),.pointer (some ⟨w.heap.size+1+1,0,none⟩)]) ∧
  w'=((w.alloc (.cells #[.pointer p] 30)).alloc (.cells #[.int .i64 tl] 3)).alloc (.cells #[.int .i64 fr] 3):=by
 refine callsIn_of_wp Tryz.func141 rfl trivial ?_ rfl
 simp only [Tryz.ntmps141,List.size_toArray,List.length_cons,List.length_nil,Nat.reduceAdd,Nat.reduceSub,Array.replicate_succ,Array.replicate_zero,List.push_toArray,List.append_toArray,List.nil_append,List.cons_append]
 gi_wp2
 go_ret
 exact ⟨rfl,rfl⟩
def rfOf:Code→Option (Code × Code)
 | .rangeFunc _ _ a b=>some (a,b)
 | .seq a b=>match rfOf a with
   | some x=>some x
   | none=>rfOf b
 | .block _ c=>rfOf c
 | _=>none
def codeA (c:Code):Code:=match rfOf c with
 | some x=>x.1
 | none=>.skip
def codeB (c:Code):Code:=match rfOf c with
 | some x=>x.2
 | none=>.skip
def rfT (B B7 B8 B9 Bc Bt Bf:Nat) (tl fr ln f0:Int) (bl:Bool) (v:Value):Array Value :=
 #[.pointer (some ⟨B,0,none⟩),.int .i64 tl,.int .i64 fr,.int .i64 ln,undef,undef,undef,.pointer (some ⟨B7,0,none⟩),.pointer (some ⟨B8,0,none⟩),.pointer (some ⟨B9,0,none⟩),undef,
  .pointer (some ⟨B,0,none⟩),.bool false,.bool false,.int .i64 tl,.bool true,.bool false,.bool false,.bool false,.int .i64 ln,.bool bl,.bool bl,.pointer (some ⟨B,0,none⟩),.int .i64 tl,.int .i64 fr,.int .i64 f0,
  .func (.func 147) #[] #[.pointer (some ⟨Bc,0,none⟩),.pointer (some ⟨Bt,0,none⟩),.pointer (some ⟨Bf,0,none⟩)],v,undef,undef,undef,undef,undef,undef,undef,undef,undef]
def rfRec (c:Code) (fn:FuncId) (T:Array Value) (D:Nat) (st:LoopState) (pe:Option Code):Loop:={ state:=st,pending:=pe,fn,tmps:=T,params:=#[27],assign:=codeA c,body:=codeB c,defers:=D }
structure FAt (c:Code) (fn:FuncId) (T:Array Value) (B7 B8 B9 l D:Nat) (ln:Int) (W0:World) (a:Int) (r:Bool) (st:LoopState) (pe:Option Code) (W:World):Prop where
 c7:W.heap[B7]?=some (.cells #[.int .i64 ln] 3 (0,0))
 c8:W.heap[B8]?=some (.cells #[.int .i64 a] 3 (0,0))
 c9:W.heap[B9]?=some (.cells #[.bool r] 4 (0,0))
 L:W.heap[l]?=some (.loop (rfRec c fn T D st pe))
 K:W.heap[D]?=some (.deferred (some []))
 grown:W0.grownBy W none
theorem grown_none {w a b:World} (h:w.grownBy a none) (hsz:a.heap.size≤b.heap.size) (h1:b.os=a.os) (h2:b.tape=a.tape) (h3:b.output=a.output) (hk:∀ k,k < w.heap.size→b.heap[k]?=a.heap[k]?):w.grownBy b none :=
 ⟨h1.trans h.os,h2.trans h.tape,h3.trans h.output,Nat.le_trans h.size hsz,fun k hk' hr=>(hk k hk').trans (h.block k hk' hr)⟩
set_option maxRecDepth 100000 in
set_option maxHeartbeats 4000000 in
theorem first_round (fn:FuncId) (m B B7 B8 B9 Bc Bt Bf l D:Nat) (tl fr ln f0:Int) (bl:Bool) (W0:World) (h78:B7≠B8) (h79:B7≠B9) (h89:B8≠B9) (h7l:B7≠l) (h8l:B8≠l) (h9l:B9≠l) (hDl:D≠l) (hD8:D≠B8) (hD9:D≠B9) (hN:W0.heap.size≤B8∧W0.heap.size≤B9∧W0.heap.size≤l)
 (c:Code) (T:Array Value) (x:Int × Int) (W:World) (h:FAt c fn T B7 B8 B9 l D ln W0 0 false .ready none W) (R:Ending→World→Prop)
 (hr1:longB ln x=false→∀ W',FAt c fn T B7 B8 B9 l D ln W0 0 false .ready none W'→Keep (fun k=>k=B8∨k=B9∨k=l) W W'→R (.returned (.bool true)) W')
 (hr2:longB ln x=true→∀ W',FAt c fn T B7 B8 B9 l D ln W0 x.1 true .done (some .ret) W'→R (.returned (.bool false)) W') :
 RoundIn Fence.wide m Tryz.prog l fn (rfT B B7 B8 B9 Bc Bt Bf tl fr ln f0 bl (spanV x)) (codeA (body Tryz.f127)) (codeB (body Tryz.f127)) W R:=by
 refine roundIn_of_wpIn trivial ?_
 have hl:l < W.heap.size:=(Array.getElem?_eq_some_iff.1 h.L).1
 obtain ⟨WA,hWA⟩:∃ WA,WA=W.alloc (.cells #[.int .i64 x.1,.int .i64 x.2] 173):=⟨_,rfl⟩
 have hold:∀ k,k < W.heap.size→WA.heap[k]?=W.heap[k]?:=fun k hk=>by rw [hWA];exact Below.heap_alloc _ _ k hk
 have hnew:WA.heap[W.heap.size]?=some (.cells #[.int .i64 x.1,.int .i64 x.2] 173 (0,0)):=by rw [hWA];exact World.alloc_heap_new W _
 have hszA:WA.heap.size=W.heap.size+1:=by rw [hWA];simp
 have hLA:WA.heap[l]?=some (.loop (rfRec c fn T D .ready none)):=(hold l hl).trans h.L
 have hbr:=run_beginRound (P:=Tryz.prog) hLA rfl
 obtain ⟨W2,hW2⟩:∃ W2,WA.putObj l (.loop { rfRec c fn T D .ready none with state:=.busy })=W2:=⟨_,rfl⟩
 have hos2:W2.os=W.os∧W2.tape=W.tape∧W2.output=W.output:=by rw [← hW2,hWA];exact ⟨rfl,rfl,rfl⟩
 have hL2:W2.heap[l]?=some (.loop { rfRec c fn T D .ready none with state:=.busy }):=by rw [← hW2];exact World.putObj_heap_same (by omega)
 have ho2:∀ k,k≠l→W2.heap[k]?=WA.heap[k]?:=fun k hk=>by rw [← hW2];exact World.putObj_heap_other hk
 have hsz2:W2.heap.size=W.heap.size+1:=by rw [← hW2];simpa using hszA
 rw [hW2] at hbr
 have l7:B7 < W.heap.size:=(Array.getElem?_eq_some_iff.1 h.c7).1
 have l8:B8 < W.heap.size:=(Array.getElem?_eq_some_iff.1 h.c8).1
 have l9:B9 < W.heap.size:=(Array.getElem?_eq_some_iff.1 h.c9).1
 have lD:D < W.heap.size:=(Array.getElem?_eq_some_iff.1 h.K).1
 have c7:=(ho2 B7 h7l).trans ((hold B7 l7).trans h.c7)
 have c8:=(ho2 B8 h8l).trans ((hold B8 l8).trans h.c8)
 have c9:=(ho2 B9 h9l).trans ((hold B9 l9).trans h.c9)
 have cD:=(ho2 D hDl).trans ((hold D lD).trans h.K)
 have cN:=(ho2 W.heap.size (by omega)).trans hnew
 have k7:W2.cell? ⟨B7,0,none⟩=some (.int .i64 ln):=by simp [World.cell?,c7]
 have k8:W2.cell? ⟨B8,0,none⟩=some (.int .i64 0):=by simp [World.cell?,c8]
 have z8:W2.frozen? ⟨B8,0,none⟩=false:=by simp [World.frozen?,c8]
 have k9:W2.cell? ⟨B9,0,none⟩=some (.bool false):=by simp [World.cell?,c9]
 have z9:W2.frozen? ⟨B9,0,none⟩=false:=by simp [World.frozen?,c9]
 have kN0:W2.cell? ⟨W.heap.size,0,none⟩=some (.int .i64 x.1):=by simp [World.cell?,cN]
 have kN1:W2.cell? ⟨W.heap.size,1,none⟩=some (.int .i64 x.2):=by simp [World.cell?,cN]
 rw [hWA] at hbr
 have hgr:=h.grown
 have h2old:∀ k,k < W.heap.size→k≠l→W2.heap[k]?=W.heap[k]?:=fun k hk hkl=>(ho2 k hkl).trans (hold k hk)
 have hszg:=hgr.size
 clear hWA hold hnew hszA hLA hW2 ho2
 simp only [codeA,codeB,rfOf,body,Tryz.f127]
 simp only [rfT,spanV]
 gi_wp2_with (rw [Oper.semAt_eq _ _ _ (fun c h=>by cases h)];go_simp;try go_bits)
 ·rename_i hq
  have s8:=box_set (v:=.int .i64 x.1) c8
  have c9':=(s8.2.2.1 B9 (Ne.symm h89)).trans c9
  have s9:=box_set (v:=.bool true) c9'
  obtain ⟨W3,hW3⟩:∃ W3,W3=(W2.setCell ⟨B8,0,none⟩ (.int .i64 x.1)).setCell ⟨B9,0,none⟩ (.bool true):=⟨_,rfl⟩
  rw [← hW3] at s9 ⊢
  have ho3:∀ k,k≠B8→k≠B9→W3.heap[k]?=W2.heap[k]?:=fun k h1 h2=>(s9.2.2.1 k h2).trans (s8.2.2.1 k h1)
  have hL3:=(ho3 l (Ne.symm h8l) (Ne.symm h9l)).trans hL2
  have hl3:l < W3.heap.size:=(Array.getElem?_eq_some_iff.1 hL3).1
  have hsz3:W3.heap.size=W2.heap.size:=s9.2.2.2.trans s8.2.2.2
  refine ⟨_,_,run_endRound (some .ret) hL3,hr2 (by unfold longB;simpa using hq) _ ⟨?_,?_,?_,?_,?_,?_⟩⟩
  ·exact (World.putObj_heap_other h7l).trans ((ho3 B7 h78 h79).trans c7)
  ·exact (World.putObj_heap_other h8l).trans ((s9.2.2.1 B8 h89).trans s8.2.1)
  ·exact (World.putObj_heap_other h9l).trans s9.2.1
  ·exact World.putObj_heap_same hl3
  ·exact (World.putObj_heap_other hDl).trans ((ho3 D hD8 hD9).trans cD)
  ·refine grown_none hgr (by rw [World.putObj_size,hsz3,hsz2];omega) (s9.1.os.trans (s8.1.os.trans hos2.1)) (s9.1.tape.trans (s8.1.tape.trans hos2.2.1)) (s9.1.output.trans (s8.1.output.trans hos2.2.2)) fun k hk=>?_
   rw [World.putObj_heap_other (by omega),ho3 k (by omega) (by omega),h2old k (by omega) (by omega)]
 ·rename_i hq
  have hl2:l < W2.heap.size:=(Array.getElem?_eq_some_iff.1 hL2).1
  refine ⟨_,_,run_endRound none hL2,hr1 (by unfold longB;simpa using hq) _ ⟨?_,?_,?_,?_,?_,?_⟩ ⟨?_,?_⟩⟩
  ·exact (World.putObj_heap_other h7l).trans c7
  ·exact (World.putObj_heap_other h8l).trans c8
  ·exact (World.putObj_heap_other h9l).trans c9
  ·exact World.putObj_heap_same hl2
  ·exact (World.putObj_heap_other hDl).trans cD
  ·refine grown_none hgr (by rw [World.putObj_size,hsz2];omega) hos2.1 hos2.2.1 hos2.2.2 fun k hk=>?_
   rw [World.putObj_heap_other (by omega),h2old k (by omega) (by omega)]
  ·rw [World.putObj_size,hsz2];omega
  ·intro k hk hy
   have hkl:k≠l:=fun e=>hy (.inr (.inr e))
   rw [World.putObj_heap_other hkl,h2old k hk hkl]
theorem enters' {P : Program} {f : Nat} {fn : Func} {c : Code} (hf : P.funcs[f]? = some fn) (hname : (fn.name == "runtime.NumGoroutine") = false) (hb : fn.body = some c) (args : Array Value) (w : World) : (callFunc f args).run P w = .ok (.enter f args) w := by
 have h1 : fn.name ≠ "runtime.NumGoroutine" := by simpa using hname
 simp [callFunc,hf,h1,hb]
theorem alloc_facts (A:World) (o:Obj):(A.alloc o).heap.size=A.heap.size+1∧(A.alloc o).heap[A.heap.size]?=some o∧∀ k,k < A.heap.size→(A.alloc o).heap[k]?=A.heap[k]? :=
 ⟨by simp,World.alloc_heap_new A o,fun k hk=>Below.heap_alloc A o k hk⟩
theorem firstG_none {gs:List (Int × Int)} {ln:Int} (h:∀ x∈gs,longB ln x=false):firstG gs ln=(0,false):=by
 unfold firstG
 rw [List.find?_eq_none.2 fun x hx=>by rw [h x hx];simp]
theorem firstG_some {gs init:List (Int × Int)} {g:Int × Int} {ln:Int} (hp:(init++[g]) <+: gs) (h:∀ x∈init,longB ln x=false) (hg:longB ln g=true):firstG gs ln=(g.1,true):=by
 obtain ⟨t,rfl⟩:=hp
 unfold firstG
 rw [List.append_assoc,List.find?_append,List.find?_eq_none.2 fun x hx=>by rw [h x hx];simp]
 simp [hg]
theorem FAt.turn {c:Code} {fn:FuncId} {T:Array Value} {B7 B8 B9 l D Bf:Nat} {ln:Int} {W0:World} {a:Int} {r:Bool} {st:LoopState} {pe:Option Code} {W W':World} (h:FAt c fn T B7 B8 B9 l D ln W0 a r st pe W)
 (hg:W.grownBy W' (some Bf)) (hn:Bf≠B7∧Bf≠B8∧Bf≠B9∧Bf≠l∧Bf≠D) (hW:W0.heap.size≤Bf):FAt c fn T B7 B8 B9 l D ln W0 a r st pe W':=by
 have key:∀ {k:Nat} {o:Obj},W.heap[k]?=some o→Bf≠k→W'.heap[k]?=some o:=fun {k o} hk hne=>(hg.block k (Array.getElem?_eq_some_iff.1 hk).1 (by simpa using Ne.symm hne)).trans hk
 exact ⟨key h.c7 hn.1,key h.c8 hn.2.1,key h.c9 hn.2.2.1,key h.L hn.2.2.2.1,key h.K hn.2.2.2.2,grown_none h.grown hg.size hg.os hg.tape hg.output fun k hk=>hg.block k (Nat.lt_of_lt_of_le hk h.grown.size) (by simp;omega)⟩
set_option maxRecDepth 100000 in
set_option maxHeartbeats 4000000 in
theorem first_range (B B7 B8 B9 Bc Bt Bf b off cap:Nat) (sa:Option Addr) (tl fr ln f0:Int) (bl:Bool) (xs:List Bk.El) (W0 W:World) (Q:Exit→Act→World→Prop) (htl:0≤tl∧tl < 60) (hlen:xs.length≤1000000000)
 (h78:B7≠B8) (h79:B7≠B9) (h89:B8≠B9) (hf:Bf≠B7∧Bf≠B8∧Bf≠B9) (hN:W0.heap.size≤B8∧W0.heap.size≤B9∧W0.heap.size≤Bf) (hb0:b < W0.heap.size)
 (c7:W.heap[B7]?=some (.cells #[.int .i64 ln] 3 (0,0))) (c8:W.heap[B8]?=some (.cells #[.int .i64 0] 3 (0,0))) (c9:W.heap[B9]?=some (.cells #[.bool false] 4 (0,0)))
 (hc:W.heap[Bc]?=some (.cells #[.pointer (some ⟨B,0,none⟩)] 30 (0,0))) (ht:W.heap[Bt]?=some (.cells #[.int .i64 tl] 3 (0,0))) (hfc:W.heap[Bf]?=some (.cells #[.int .i64 f0] 3 (0,0)))
 (hs:W.cell? ⟨B,tl.toNat,none⟩=some (.slice sa xs.length cap)) (hsa:0 < xs.length→sa=some ⟨b,off,none⟩) (hBW:B < W.heap.size) (hg0:W0.grownBy W none)
 (hel:∀ (W':World),W'.heap[b]?=W0.heap[b]?→∀ k,k < xs.length→W'.cell? ⟨b,off+k * 4,none⟩=some (.int .i64 (getI xs Bk.dflt k).1)∧W'.cell? ⟨b,off+k * 4+1,none⟩=some (.int .i64 (getI xs Bk.dflt k).2.1) ∧
  W'.cell? ⟨b,off+k * 4+2,none⟩=some (.int .i64 (getI xs Bk.dflt k).2.2.1)∧W'.cell? ⟨b,off+k * 4+3,none⟩=some (.int .i64 (getI xs Bk.dflt k).2.2.2))
 (hdone:∀ (D:Nat) (W':World),firstG (gapsL xs f0) ln=(0,false)→D≠B8→D≠B9→W0.heap.size≤D→W'.heap[B8]?=some (.cells #[.int .i64 0] 3 (0,0))→W'.heap[B9]?=some (.cells #[.bool false] 4 (0,0))→W'.heap[D]?=some (.deferred (some []))→W0.grownBy W' none →
  Q .normal { tmps:=rfT B B7 B8 B9 Bc Bt Bf tl fr ln f0 bl undef,defers:=[{ target:=.collected D,args:=#[] }] } W')
 (hstop:∀ (D:Nat) (W':World) (a:Int),firstG (gapsL xs f0) ln=(a,true)→D≠B8→D≠B9→W0.heap.size≤D→W'.heap[B8]?=some (.cells #[.int .i64 a] 3 (0,0))→W'.heap[B9]?=some (.cells #[.bool true] 4 (0,0))→W'.heap[D]?=some (.deferred (some []))→W0.grownBy W' none →
  Code.ret.wpIn Fence.wide 9 Tryz.prog Q { tmps:=rfT B B7 B8 B9 Bc Bt Bf tl fr ln f0 bl undef,defers:=[{ target:=.collected D,args:=#[] }] } W') :
 (Code.rangeFunc (.tmp 26) #[27] (codeA (body Tryz.f127)) (codeB (body Tryz.f127))).wpIn Fence.wide 9 Tryz.prog Q { tmps:=rfT B B7 B8 B9 Bc Bt Bf tl fr ln f0 bl undef,defers:=[] } W:=by
 have l7:B7 < W.heap.size:=(Array.getElem?_eq_some_iff.1 c7).1
 have l8:B8 < W.heap.size:=(Array.getElem?_eq_some_iff.1 c8).1
 have l9:B9 < W.heap.size:=(Array.getElem?_eq_some_iff.1 c9).1
 have lf:Bf < W.heap.size:=(Array.getElem?_eq_some_iff.1 hfc).1
 have lc:Bc < W.heap.size:=(Array.getElem?_eq_some_iff.1 hc).1
 have lt:Bt < W.heap.size:=(Array.getElem?_eq_some_iff.1 ht).1
 have hszg:=hg0.size
 refine wpIn_rangeFunc ?_
 intro fn hfn
 obtain ⟨D,hD⟩:∃ D,D=W.heap.size:=⟨_,rfl⟩
 obtain ⟨l,hl⟩:∃ l,l=W.heap.size+1:=⟨_,rfl⟩
 obtain ⟨T,hT⟩:∃ T,T=rfT B B7 B8 B9 Bc Bt Bf tl fr ln f0 bl undef:=⟨_,rfl⟩
 obtain ⟨c,hcc⟩:∃ c,c=(body Tryz.f127):=⟨_,rfl⟩
 obtain ⟨W1,hW1⟩:∃ W1,W1=(W.alloc (.deferred (some []))).alloc (.loop (rfRec c fn T W.heap.size .ready none)):=⟨_,rfl⟩
 have hold:∀ k,k < W.heap.size→W1.heap[k]?=W.heap[k]?:=fun k hk=>by rw [hW1];exact (Below.heap_alloc _ _ k (by simp;omega)).trans (Below.heap_alloc _ _ k hk)
 have hsz1:W1.heap.size=W.heap.size+2:=by rw [hW1];simp
 have hL1:W1.heap[l]?=some (.loop (rfRec c fn T D .ready none)):=by
  rw [hW1,hl,hD];have:=World.alloc_heap_new (W.alloc (.deferred (some []))) (.loop (rfRec c fn T W.heap.size .ready none));rwa [World.size_alloc] at this
 have hK1:W1.heap[D]?=some (.deferred (some [])):=by
  rw [hW1,hD];exact (Below.heap_alloc _ _ _ (by simp)).trans (World.alloc_heap_new W _)
 have hos1:W1.os=W.os∧W1.tape=W.tape∧W1.output=W.output:=by rw [hW1];exact ⟨rfl,rfl,rfl⟩
 have hg1:W0.grownBy W1 none:=grown_none hg0 (by omega) hos1.1 hos1.2.1 hos1.2.2 fun k hk=>hold k (by omega)
 have hF1:FAt c fn T B7 B8 B9 l D ln W0 0 false .ready none W1:=⟨(hold _ l7).trans c7,(hold _ l8).trans c8,(hold _ l9).trans c9,hL1,hK1,hg1⟩
 refine ⟨l,[{ target:=.collected D,args:=#[] }],W1,{ target:=.fn (.func 147) #[.pointer (some ⟨Bc,0,none⟩),.pointer (some ⟨Bt,0,none⟩),.pointer (some ⟨Bf,0,none⟩)],args:=#[.func (.yield l) #[] #[]] },W1,147,
  #[.func (.yield l) #[] #[],.pointer (some ⟨Bc,0,none⟩),.pointer (some ⟨Bt,0,none⟩),.pointer (some ⟨Bf,0,none⟩)],W1,?_,?_,fun _ _=>trivial,?_,fun _=>by omega,?_⟩
 ·rw [hW1,hl,hD,hT,hcc];exact run_enterLoop_outer _ _ _ _ _
 ·simp [resolve,go_sem,rfT]
 ·have eg:=fun args w=>enters' Tryz.func147 (by kernel_rfl) (c:=body Tryz.f147) rfl args w
  simp [invoke,go_sem,eg]
 ·refine (gaps1_in 8 l Bc Bt Bf B b off cap sa tl f0 xs (fun k=>k=B8∨k=B9∨k=l) (fun pre W=>(∀ x∈pre,longB ln x=false)∧FAt c fn T B7 B8 B9 l D ln W0 0 false .ready none W)
   (fun pre W=>∃ init g,pre=init++[g]∧(∀ x∈init,longB ln x=false)∧longB ln g=true∧FAt c fn T B7 B8 B9 l D ln W0 g.1 true .done (some .ret) W) (by omega) ?_ ?_ W1 htl hlen ?_ ?_ ?_ ?_ ?_ ?_ ?_ ?_ hsa ?_ ?_ ⟨fun _ h=>(by simp at h),hF1⟩).mono ?_
  ·rintro pre A A' ⟨h1,h2⟩ hg
   exact ⟨h1,h2.turn hg ⟨hf.1,hf.2.1,hf.2.2,by omega,by omega⟩ hN.2.2⟩
  ·rintro pre x A ⟨h1,h2⟩
   have hy:=run_yield (P:=Tryz.prog) (args:=#[spanV x]) h2.L rfl
   refine ⟨fn,_,codeA c,codeB c,hy,?_⟩
   have e:((#[27]:Array Tmp).zip #[spanV x]).foldl (fun tmps (t,a)=>tmps.setIfInBounds t a) T=rfT B B7 B8 B9 Bc Bt Bf tl fr ln f0 bl (spanV x):=by rw [hT];simp [rfT]
   have hround:=first_round fn 7 B B7 B8 B9 Bc Bt Bf l D tl fr ln f0 bl W0 h78 h79 h89 (by omega) (by omega) (by omega) (by omega) (by omega) (by omega) ⟨hN.1,hN.2.1,by omega⟩ c T x A h2
    (fun e W'=>(e=.returned (.bool true)∧((∀ y∈pre++[x],longB ln y=false)∧FAt c fn T B7 B8 B9 l D ln W0 0 false .ready none W')∧Keep (fun k=>k=B8∨k=B9∨k=l) A W') ∨
     (e=.returned (.bool false)∧∃ init g,pre++[x]=init++[g]∧(∀ y∈init,longB ln y=false)∧longB ln g=true∧FAt c fn T B7 B8 B9 l D ln W0 g.1 true .done (some .ret) W'))
    (fun hq W' hF hK=>.inl ⟨rfl,⟨fun y hy=>by
     rcases List.mem_append.1 hy with h|h
     ·exact h1 y h
     ·rw [List.mem_singleton.1 h];exact hq,hF⟩,hK⟩)
    (fun hq W' hF=>.inr ⟨rfl,pre,x,rfl,h1,hq,hF⟩)
   rw [← hcc,← e] at hround
   exact hround
  ·intro k hk
   rcases hk with rfl|rfl|rfl <;> omega
  ·rintro (h|h|h) <;> omega
  ·rintro (h|h|h) <;> omega
  ·omega
  ·exact (hold _ lc).trans hc
  ·exact (hold _ lt).trans ht
  ·exact (hold _ lf).trans hfc
  ·exact (World.cell?_of_block (hold B hBW)).trans hs
  ·omega
  ·intro W' hW'
   exact hel W' (hW'.trans ((hold b (by omega)).trans (hg0.block b hb0 (by simp))))
  ·rintro e W2 ⟨⟨v,rfl⟩,(⟨h1,h2⟩|⟨pre,hpre,init,g,rfl,h1,h3,h2⟩)⟩
   ·have hend:=run_endLoop (P:=Tryz.prog) h2.L (by simp [rfRec])
    refine ⟨none,_,hend,?_⟩
    show Q .normal _ _
    rw [← hT]
    have:=hdone D (W2.putObj l (.loop { rfRec c fn T D .ready none with state:=.exhausted })) (firstG_none h1) (by omega) (by omega) (by omega)
     ((World.putObj_heap_other (by omega)).trans h2.c8) ((World.putObj_heap_other (by omega)).trans h2.c9) ((World.putObj_heap_other (by omega)).trans h2.K)
     (grown_none h2.grown (by rw [World.putObj_size];exact Nat.le_refl _) rfl rfl rfl fun k hk=>World.putObj_heap_other (by omega))
    rw [← hT] at this
    exact this
   ·have hend:=run_endLoop (P:=Tryz.prog) h2.L (by simp [rfRec])
    refine ⟨some .ret,_,hend,?_⟩
    have:=hstop D (W2.putObj l (.loop { rfRec c fn T D .done (some .ret) with state:=.exhausted })) g.1 (firstG_some hpre h1 h3) (by omega) (by omega) (by omega)
     ((World.putObj_heap_other (by omega)).trans h2.c8) ((World.putObj_heap_other (by omega)).trans h2.c9) ((World.putObj_heap_other (by omega)).trans h2.K)
     (grown_none h2.grown (by rw [World.putObj_size];exact Nat.le_refl _) rfl rfl rfl fun k hk=>World.putObj_heap_other (by omega))
    rw [← hT] at this ⊢
    exact this
set_option maxRecDepth 100000 in
set_option maxHeartbeats 4000000 in
theorem first_in (B b off cap:Nat) (sa:Option Addr) (tl fr ln:Int) (xs:List Bk.El) (W:World) (htl:0≤tl∧tl < 60) (hln:1≤ln) (hlen:xs.length≤1000000000)
 (hs:W.cell? ⟨B,tl.toNat,none⟩=some (.slice sa xs.length cap)) (hsa:0 < xs.length→sa=some ⟨b,off,none⟩) (hbs:b < W.heap.size)
 (hel:∀ (W':World),W'.heap[b]?=W.heap[b]?→∀ k,k < xs.length→W'.cell? ⟨b,off+k * 4,none⟩=some (.int .i64 (getI xs Bk.dflt k).1)∧W'.cell? ⟨b,off+k * 4+1,none⟩=some (.int .i64 (getI xs Bk.dflt k).2.1) ∧
  W'.cell? ⟨b,off+k * 4+2,none⟩=some (.int .i64 (getI xs Bk.dflt k).2.2.1)∧W'.cell? ⟨b,off+k * 4+3,none⟩=some (.int .i64 (getI xs Bk.dflt k).2.2.2)) :
 CallsIn Fence.wide 9 Tryz.prog 127 #[.pointer (some ⟨B,0,none⟩),.int .i64 tl,.int .i64 fr,.int .i64 ln] W fun e W' =>
  e=.returned (.tuple #[.int .i64 (firstG (gapsL xs (max fr 0)) ln).1,.bool (firstG (gapsL xs (max fr 0)) ln).2])∧W.grownBy W' none:=by
 obtain ⟨r,hr0⟩:∃ r,r=firstG (gapsL xs (max fr 0)) ln:=⟨_,rfl⟩
 rw [← hr0]
 have hBW:B < W.heap.size:=block_lt_of_cell hs
 have six:∀ f0:Int,∃ W6,W6=(((((W.alloc (.cells #[.int .i64 ln] 3)).alloc (.cells #[.int .i64 0] 3)).alloc (.cells #[.bool false] 4)).alloc (.cells #[.pointer (some ⟨B,0,none⟩)] 30)).alloc (.cells #[.int .i64 tl] 3)).alloc (.cells #[.int .i64 f0] 3) ∧
  W6.heap[W.heap.size]?=some (.cells #[.int .i64 ln] 3 (0,0))∧W6.heap[W.heap.size+1]?=some (.cells #[.int .i64 0] 3 (0,0))∧W6.heap[W.heap.size+1+1]?=some (.cells #[.bool false] 4 (0,0)) ∧
  W6.heap[W.heap.size+1+1+1]?=some (.cells #[.pointer (some ⟨B,0,none⟩)] 30 (0,0))∧W6.heap[W.heap.size+1+1+1+1]?=some (.cells #[.int .i64 tl] 3 (0,0))∧W6.heap[W.heap.size+1+1+1+1+1]?=some (.cells #[.int .i64 f0] 3 (0,0))∧W.grownBy W6 none:=fun f0=>by
  obtain ⟨s1,n1,k1⟩:=alloc_facts W (.cells #[.int .i64 ln] 3)
  obtain ⟨s2,n2,k2⟩:=alloc_facts (W.alloc (.cells #[.int .i64 ln] 3)) (.cells #[.int .i64 0] 3)
  obtain ⟨s3,n3,k3⟩:=alloc_facts ((W.alloc (.cells #[.int .i64 ln] 3)).alloc (.cells #[.int .i64 0] 3)) (.cells #[.bool false] 4)
  obtain ⟨s4,n4,k4⟩:=alloc_facts (((W.alloc (.cells #[.int .i64 ln] 3)).alloc (.cells #[.int .i64 0] 3)).alloc (.cells #[.bool false] 4)) (.cells #[.pointer (some ⟨B,0,none⟩)] 30)
  obtain ⟨s5,n5,k5⟩:=alloc_facts ((((W.alloc (.cells #[.int .i64 ln] 3)).alloc (.cells #[.int .i64 0] 3)).alloc (.cells #[.bool false] 4)).alloc (.cells #[.pointer (some ⟨B,0,none⟩)] 30)) (.cells #[.int .i64 tl] 3)
  obtain ⟨s6,n6,k6⟩:=alloc_facts (((((W.alloc (.cells #[.int .i64 ln] 3)).alloc (.cells #[.int .i64 0] 3)).alloc (.cells #[.bool false] 4)).alloc (.cells #[.pointer (some ⟨B,0,none⟩)] 30)).alloc (.cells #[.int .i64 tl] 3)) (.cells #[.int .i64 f0] 3)
  rw [s1] at n2
  rw [s2,s1] at n3
  rw [s3,s2,s1] at n4
  rw [s4,s3,s2,s1] at n5
  rw [s5,s4,s3,s2,s1] at n6
  refine ⟨_,rfl,?_,?_,?_,?_,?_,n6,?_⟩
  ·rw [k6 _ (by omega),k5 _ (by omega),k4 _ (by omega),k3 _ (by omega),k2 _ (by omega)];exact n1
  ·rw [k6 _ (by omega),k5 _ (by omega),k4 _ (by omega),k3 _ (by omega)];exact n2
  ·rw [k6 _ (by omega),k5 _ (by omega),k4 _ (by omega)];exact n3
  ·rw [k6 _ (by omega),k5 _ (by omega)];exact n4
  ·rw [k6 _ (by omega)];exact n5
  exact grown_alloc (grown_alloc (grown_alloc (grown_alloc (grown_alloc (World.grownBy_alloc W _ none) _) _) _) _) _
 obtain ⟨htl1,htl2⟩:=htl
 have hl1:¬ ln < 1:=by omega
 have fin:∀ (D:Nat) (W':World) (a:Int) (r:Bool) (T:Array Value) (dfs:List Deferred) (R:Ending→World→Prop),T[8]?=some (.pointer (some ⟨W.heap.size+1,0,none⟩))→T[9]?=some (.pointer (some ⟨W.heap.size+1+1,0,none⟩))→D≠W.heap.size+1→D≠W.heap.size+1+1→W.heap.size≤D →
  W'.heap[W.heap.size+1]?=some (.cells #[.int .i64 a] 3 (0,0))→W'.heap[W.heap.size+1+1]?=some (.cells #[.bool r] 4 (0,0))→W'.heap[D]?=some (.deferred (some []))→W.grownBy W' none →
  LeavesInM Fence.wide 9 Tryz.prog Tryz.f127 T (fun e W'=>e=.returned (.tuple #[.int .i64 a,.bool r])∧W.grownBy W' none) [{ target:=.collected D,args:=#[] }] .returning W':=by
  intro D W' a r T dfs R hT8 hT9 hD1 hD2 hD3 h8 h9 hK hg
  refine ⟨by simp,.inl ⟨_,_,rfl,run_takeDeferred hK,?_⟩⟩
  have h8':=(World.putObj_heap_other (w:=W') (o:=.deferred none) (Ne.symm hD1)).trans h8
  have h9':=(World.putObj_heap_other (w:=W') (o:=.deferred none) (Ne.symm hD2)).trans h9
  have k8:(W'.putObj D (.deferred none)).cell? ⟨W.heap.size+1,0,none⟩=some (.int .i64 a):=by simp [World.cell?,h8']
  have k9:(W'.putObj D (.deferred none)).cell? ⟨W.heap.size+1+1,0,none⟩=some (.bool r):=by simp [World.cell?,h9']
  refine ⟨_,?_,rfl,grown_none hg (by rw [World.putObj_size];exact Nat.le_refl _) rfl rfl rfl fun k hk=>World.putObj_heap_other (by omega)⟩
  simp [results,Tryz.f127,go_sem,hT8,hT9,k8,k9]
 refine callsIn_of_wp_marks Tryz.func127 rfl trivial ?_ rfl
 simp only [Tryz.ntmps127,List.size_toArray,List.length_cons,List.length_nil,Nat.reduceAdd,Nat.reduceSub,Array.replicate_succ,Array.replicate_zero,List.push_toArray,List.append_toArray,List.nil_append,List.cons_append]
 gi_wp2
 refine ⟨trivial,(tool_in _ tl _ ⟨htl1,htl2⟩).mono ?_⟩
 rintro e w' ⟨rfl,rfl⟩
 by_cases hfr:fr < 0
 ·have hm:max fr 0=0:=by omega
  gi_wp2
  refine ⟨trivial,(gapsF_in _ _ _ _ _).mono ?_⟩
  rintro e w' ⟨rfl,rfl⟩
  gi_wp2
  rename_i K hK
  obtain ⟨W6,hW6,d7,d8,d9,dc,dt,df,dg⟩:=six 0
  rw [← hW6]
  have hB6:W6.heap[B]?=W.heap[B]?:=dg.block B hBW (by simp)
  refine first_range B W.heap.size (W.heap.size+1) (W.heap.size+1+1) (W.heap.size+1+1+1) (W.heap.size+1+1+1+1) (W.heap.size+1+1+1+1+1) b off cap sa tl fr ln 0 (decide (ln < 1)) xs W W6 _ ⟨htl1,htl2⟩ hlen (by omega) (by omega) (by omega) ⟨by omega,by omega,by omega⟩ ⟨by omega,by omega,by omega⟩ hbs
   d7 d8 d9 dc dt df ((World.cell?_of_block hB6).trans hs) hsa (Nat.lt_of_lt_of_le hBW dg.size) dg hel ?_ ?_
  ·intro D W' hr hD8 hD9 hDN h8 h9 hKD hg
   refine hK _ _ ?_
   have k8:W'.cell? ⟨W.heap.size+1,0,none⟩=some (.int .i64 0):=by simp [World.cell?,h8]
   have z8:W'.frozen? ⟨W.heap.size+1,0,none⟩=false:=by simp [World.frozen?,h8]
   have k9:W'.cell? ⟨W.heap.size+1+1,0,none⟩=some (.bool false):=by simp [World.cell?,h9]
   have z9:W'.frozen? ⟨W.heap.size+1+1,0,none⟩=false:=by simp [World.frozen?,h9]
   have s8:=box_set (v:=.int .i64 0) h8
   have h9':=(s8.2.2.1 (W.heap.size+1+1) (by omega)).trans h9
   have s9:=box_set (v:=.bool false) h9'
   have hfin:=fin D ((W'.setCell ⟨W.heap.size+1,0,none⟩ (.int .i64 0)).setCell ⟨W.heap.size+1+1,0,none⟩ (.bool false)) 0 false (rfT B W.heap.size (W.heap.size+1) (W.heap.size+1+1) (W.heap.size+1+1+1) (W.heap.size+1+1+1+1) (W.heap.size+1+1+1+1+1) tl fr ln 0 (decide (ln < 1)) undef) [] (fun _ _=>True) rfl rfl hD8 hD9 hDN
    ((s9.2.2.1 _ (by omega)).trans s8.2.1) s9.2.1 ((s9.2.2.1 D hD9).trans ((s8.2.2.1 D hD8).trans hKD))
    (grown_none hg (by rw [s9.2.2.2,s8.2.2.2];exact Nat.le_refl _) (s9.1.os.trans s8.1.os) (s9.1.tape.trans s8.1.tape) (s9.1.output.trans s8.1.output) fun k hk=>(s9.2.2.1 k (by omega)).trans (s8.2.2.1 k (by omega)))
   clear s8 s9 h9'
   unfold rfT
   gi_wp2
   obtain rfl:r=(0,false):=by rw [hr0,hm,hr]
   exact hfin
  ·intro D W' a hr hD8 hD9 hDN h8 h9 hKD hg
   refine wpIn_ret ?_
   have hfin:=fin D W' a true (rfT B W.heap.size (W.heap.size+1) (W.heap.size+1+1) (W.heap.size+1+1+1) (W.heap.size+1+1+1+1) (W.heap.size+1+1+1+1+1) tl fr ln 0 (decide (ln < 1)) undef) [] (fun _ _=>True) rfl rfl hD8 hD9 hDN h8 h9 hKD hg
   obtain rfl:r=(a,true):=by rw [hr0,hm,hr]
   exact hfin
 ·have hm:max fr 0=fr:=by omega
  gi_wp2
  refine ⟨trivial,(gapsF_in _ _ _ _ _).mono ?_⟩
  rintro e w' ⟨rfl,rfl⟩
  gi_wp2
  rename_i K hK
  obtain ⟨W6,hW6,d7,d8,d9,dc,dt,df,dg⟩:=six fr
  rw [← hW6]
  have hB6:W6.heap[B]?=W.heap[B]?:=dg.block B hBW (by simp)
  refine first_range B W.heap.size (W.heap.size+1) (W.heap.size+1+1) (W.heap.size+1+1+1) (W.heap.size+1+1+1+1) (W.heap.size+1+1+1+1+1) b off cap sa tl fr ln fr (decide (ln < 1)) xs W W6 _ ⟨htl1,htl2⟩ hlen (by omega) (by omega) (by omega) ⟨by omega,by omega,by omega⟩ ⟨by omega,by omega,by omega⟩ hbs
   d7 d8 d9 dc dt df ((World.cell?_of_block hB6).trans hs) hsa (Nat.lt_of_lt_of_le hBW dg.size) dg hel ?_ ?_
  ·intro D W' hr hD8 hD9 hDN h8 h9 hKD hg
   refine hK _ _ ?_
   have k8:W'.cell? ⟨W.heap.size+1,0,none⟩=some (.int .i64 0):=by simp [World.cell?,h8]
   have z8:W'.frozen? ⟨W.heap.size+1,0,none⟩=false:=by simp [World.frozen?,h8]
   have k9:W'.cell? ⟨W.heap.size+1+1,0,none⟩=some (.bool false):=by simp [World.cell?,h9]
   have z9:W'.frozen? ⟨W.heap.size+1+1,0,none⟩=false:=by simp [World.frozen?,h9]
   have s8:=box_set (v:=.int .i64 0) h8
   have h9':=(s8.2.2.1 (W.heap.size+1+1) (by omega)).trans h9
   have s9:=box_set (v:=.bool false) h9'
   have hfin:=fin D ((W'.setCell ⟨W.heap.size+1,0,none⟩ (.int .i64 0)).setCell ⟨W.heap.size+1+1,0,none⟩ (.bool false)) 0 false (rfT B W.heap.size (W.heap.size+1) (W.heap.size+1+1) (W.heap.size+1+1+1) (W.heap.size+1+1+1+1) (W.heap.size+1+1+1+1+1) tl fr ln fr (decide (ln < 1)) undef) [] (fun _ _=>True) rfl rfl hD8 hD9 hDN
    ((s9.2.2.1 _ (by omega)).trans s8.2.1) s9.2.1 ((s9.2.2.1 D hD9).trans ((s8.2.2.1 D hD8).trans hKD))
    (grown_none hg (by rw [s9.2.2.2,s8.2.2.2];exact Nat.le_refl _) (s9.1.os.trans s8.1.os) (s9.1.tape.trans s8.1.tape) (s9.1.output.trans s8.1.output) fun k hk=>(s9.2.2.1 k (by omega)).trans (s8.2.2.1 k (by omega)))
   clear s8 s9 h9'
   unfold rfT
   gi_wp2
   obtain rfl:r=(0,false):=by rw [hr0,hm,hr]
   exact hfin
  ·intro D W' a hr hD8 hD9 hDN h8 h9 hKD hg
   refine wpIn_ret ?_
   have hfin:=fin D W' a true (rfT B W.heap.size (W.heap.size+1) (W.heap.size+1+1) (W.heap.size+1+1+1) (W.heap.size+1+1+1+1) (W.heap.size+1+1+1+1+1) tl fr ln fr (decide (ln < 1)) undef) [] (fun _ _=>True) rfl rfl hD8 hD9 hDN h8 h9 hKD hg
   obtain rfl:r=(a,true):=by rw [hr0,hm,hr]
   exact hfin
end Go.AM.YtmohhhbgcehnpaaGreat
end
