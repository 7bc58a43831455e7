/- The theorem TopReserved: her function. -/
import Derived.Test.YtkgmmmhokgdcaaaGreatTpFK
set_option linter.all false
namespace Go.AM.YtkgmmmhokgdcaaaGreat.Tp
open Go.Proofs
open Go.AM.YtkgmmmhokgdcaaaGreat.Re
open Go.AM.YtkgmmmhokgdcaaaGreat.Fl (StepT tStep mkSs mkWs Int6 Int3 tS6 tS3 hasI lineB argB hasB reqB reqF reqE reqW needsF needAt winAll linksF segF lateQ openQ watL watA TimeOk)
set_option maxRecDepth 100000
set_option maxHeartbeats 8000000
noncomputable def sigTv:List (Nat × Spec):=[(6,awakeS),(17,routedS),(11,pickP),(18,Fl.segS),(19,Fl.reqS),(7,bookedTS),(20,lenS),(9,makeS),(10,reBookS),
 (13,Pl.chosenS),(12,Pl.runS),(21,hasIS),(22,apS),(23,listS),(25,Fl.lateS),(24,Fl.openS)]
theorem sigTvOk:SigOk Tryz.prog (look sigTv):=sigCons (sigCons (sigCons (sigCons (sigCons (sigCons (sigCons (sigCons (sigCons (sigCons (sigCons (sigCons (sigCons (sigCons (sigCons (sigCons sigNil
 Tryz.func24 (by kernel_rfl) (c:=body Tryz.f24) rfl Fl.openOk)
 Tryz.func25 (by kernel_rfl) (c:=body Tryz.f25) rfl Fl.lateOk)
 Tryz.func23 (by kernel_rfl) (c:=body Tryz.f23) rfl listOk)
 Tryz.func22 (by kernel_rfl) (c:=body Tryz.f22) rfl apOk)
 Tryz.func21 (by kernel_rfl) (c:=body Tryz.f21) rfl hasIOk)
 Tryz.func12 (by kernel_rfl) (c:=body Tryz.f12) rfl Pl.runOk)
 Tryz.func13 (by kernel_rfl) (c:=body Tryz.f13) rfl Pl.chosenOk)
 Tryz.func10 (by kernel_rfl) (c:=body Tryz.f10) rfl reBookOk)
 Tryz.func9 (by kernel_rfl) (c:=body Tryz.f9) rfl makeOk)
 Tryz.func20 (by kernel_rfl) (c:=body Tryz.f20) rfl lenOk)
 Tryz.func7 (by kernel_rfl) (c:=body Tryz.f7) rfl bookedTOk)
 Tryz.func19 (by kernel_rfl) (c:=body Tryz.f19) rfl Fl.reqOk)
 Tryz.func18 (by kernel_rfl) (c:=body Tryz.f18) rfl Fl.segOk)
 Tryz.func11 (by kernel_rfl) (c:=body Tryz.f11) rfl pickTOk)
 Tryz.func17 (by kernel_rfl) (c:=body Tryz.f17) rfl routedOk)
 Tryz.func6 (by kernel_rfl) (c:=body Tryz.f6) rfl awakeOk
def ltvS:Spec:=plain fun
 | [.sl (.pair (.int .i64) (.pair (.int .i64) (.pair (.int .i64) (.pair (.int .i64) (.pair (.int .i64) (.int .i64)))))) _,.sl (.pair (.int .i64) (.pair (.int .i64) (.int .i64))) _,.agg [.int .i64 _,.int .i64 _,.int .i64 _],.sl (.pair (.int .i64) (.pair (.int .i64) (.pair (.int .i64) (.int .i64)))) _,.int .i64 _,.int .i64 _,.sl (.pair (.int .i64) (.int .i64)) _,.int .i64 _,.int .i64 _]=>outV True (.bool true)
 | _=>none
theorem ltvOk:SpecSound Tryz.prog 4 ltvS:=by
 refine soundP (envOf sigTvOk) Tryz.func4 (c:=body Tryz.f4) rfl (by kernel_rfl) rfl ?_
 intro args out hf hpre
 split at hf <;> try (cases hf;done)
 rename_i x w k0 k1 k2 bk stage entry ya tool at'
 cases hf
 refine ⟨Nat.le_of_ble_eq_true rfl,initI (args:=[.sl tS6 x,.sl tS3 w,.agg [.int .i64 k0,.int .i64 k1,.int .i64 k2],.sl t4 bk,.int .i64 stage,.int .i64 entry,.sl tP2 ya,.int .i64 tool,.int .i64 at']) rfl ?_⟩
 obtain ⟨c,hc⟩:∃ c,c=calT bk:=⟨_,rfl⟩
 obtain ⟨hcg,hcl⟩:=calT_good bk
 have hce:=calT_ends bk
 rw [← hc] at hcg hcl hce
 have hv:=wd_valid (k:=1) (by omega) (by omega) (x:=x) (w:=w)
 have F:=Fl.flow_sm hv
 have htwo:=fun i (h:i < (wdSs 1 x).length)=>wd_two (k:=1) (x:=x) (i:=i) h
 have hwl4:=mkWs_len (x:=x) (w:=w)
 repeat' (first|refine zN ?_|refine zE ?_|refine zP ?_|refine zS ?_|refine zO ?_|refine zB ?_|refine zX ?_|refine zT ?_|refine skipI rfl ?_)
 refine zR ?_
 repeat' (first|with_reducible refine pN ?_|refine pD ?_|fail)
 repeat with_reducible refine cN ?_
 repeat' (first|refine zN ?_|refine zE ?_|refine zP ?_|refine zS ?_|refine zO ?_|refine zB ?_|refine zX ?_|refine zT ?_|refine skipI rfl ?_)
 refine zR ?_
 repeat' (first|with_reducible refine pN ?_|refine pD ?_|fail)
 repeat with_reducible refine cN ?_
 repeat' (first|refine zN ?_|refine zE ?_|refine zP ?_|refine zS ?_|refine zO ?_|refine zB ?_|refine zX ?_|refine zT ?_|refine skipI rfl ?_)
 refine zR ?_
 repeat' (first|with_reducible refine pN ?_|refine pD ?_|fail)
 repeat with_reducible refine cN ?_
 generalize wdSs 1 x=ss at *
 generalize mkWs x w=ws at *
 obtain ⟨hRi,hR1,hR4⟩:=rt_in F (c0:=k0) (c1:=k1) (c2:=k2) (i:=3)
 generalize rtN ss k0 k1 k2 3=R at *
 have hp:=pick_b (c:=stage) (n:=(List.length (α:=Int) R:Int)) (by omega)
 repeat' (first|refine zN ?_|refine zE ?_|refine zP ?_|refine zS ?_|refine zO ?_|refine zB ?_|refine zX ?_|refine zT ?_|refine skipI rfl ?_)
 refine zR ?_
 repeat' (first|with_reducible refine pN ?_|refine pD ?_|refine pC (by omega) ?_)
 repeat with_reducible refine cN ?_
 obtain ⟨f,hf⟩:∃ s:Nat,pickF stage (List.length (α:=Int) R:Int)=(s:Int):=⟨(pickF stage (List.length (α:=Int) R:Int)).toNat,by omega⟩
 rw [hf] at hp ⊢
 have hlB:lineB 2 5 ss ws R=true:=by
  unfold lineB
  rw [hv,show R.any (Fl.badN ss.length)=false by
   rw [List.any_eq_false]
   intro y hy
   have:=hRi y hy
   unfold Fl.badN
   rw [decide_eq_false (by omega),decide_eq_false (by omega)]
   exact Bool.false_ne_true]
  rfl
 obtain ⟨⟨hs1,hs2,_⟩,hs3⟩:=Fl.segF_is hlB (s:=(f:Int)) (by omega) (by omega)
 repeat' (first|refine zN ?_|refine zE ?_|refine zP ?_|refine zS ?_|refine zO ?_|refine zB ?_|refine zX ?_|refine zT ?_|refine skipI rfl ?_)
 refine zR ?_
 repeat' (first|with_reducible refine pN ?_|refine pD ?_|fail)
 repeat with_reducible refine cN ?_
 obtain ⟨t,ht⟩:∃ t:Nat,segF 2 5 ss ws R (f:Int)=(t:Int):=⟨(segF 2 5 ss ws R (f:Int)).toNat,by omega⟩
 rw [ht] at hs1 hs2 hs3 ⊢
 have hft:f≤t∧t < List.length (α:=Int) R∧t - f < 8:=by omega
 have hpe:=pick_b (c:=entry) (n:=200) (by omega)
 obtain ⟨e,he⟩:∃ e,e=pickF entry 200:=⟨_,rfl⟩
 rw [← he] at hpe
 have hn:((t:Int) - (f:Int)+1).toNat=t+1 - f:=by omega
 have hWl:(winAll (linksF R ws) (f:Int) (t+1 - f) (t+1 - f)).length≤20:=by
  have h9:=Fl.winAll_ws (fun u hu=>Fl.win_ne F hu) (rt:=R) (f:=(f:Int)) (n:=t+1 - f) (k:=t+1 - f)
  have h8:(t+1 - f) * ws.length≤4 * 4:=Nat.mul_le_mul (by omega) hwl4
  omega
 have hB:reqB 2 5 ss ws R (f:Int) (t:Int) e=true:=by
  have h2:argB R (f:Int) (t:Int) e=true:=by
   unfold argB hasB
   simp only [Bool.and_eq_true,decide_eq_true_eq]
   omega
  have h3:decide ((reqW R ws (f:Int) (t:Int)).length≤20)=true:=by
   unfold reqW
   rw [hn]
   exact decide_eq_true hWl
  unfold reqB
  rw [hlB,h2,h3]
  rfl
 have e1:reqF 2 5 ss ws R (f:Int) (t:Int) e=(e,2,5,needsF ss R (f:Int) (t+1 - f),winAll (linksF R ws) (f:Int) (t+1 - f) (t+1 - f)):=by unfold reqF reqW;rw [hB,hn];rfl
 have e2:reqE 2 5 ss ws R (f:Int) (t:Int) e=0:=by unfold reqE;rw [hB];rfl
 have hnl:(needsF ss R (f:Int) (t+1 - f)).length=t+1 - f:=by unfold needsF;rw [List.length_map,List.length_range]
 have hlate:=fun (out:List VisT)=>dv_late hv (out:=out) hft.1 hft.2.1
 have hdue:=fun (l:List VisT) (h1:l.map Prod.fst=(R.take (t+1)).drop f) (h2:l.length=t+1 - f) (h3:TimeOk l) (d:Int × Int) (hd:d∈openQ (watL l 0 ws))=>Fl.due_seg hv h1 hft.1 h2 h3 hs2 hd
 have hndt:∀ j,j < t+1 - f→(getI (needsF ss R (f:Int) (t+1 - f)) tNeed.dflt j).1=(getI ss tStep.dflt (getI R 0 (f+j)).toNat).2.1:=fun j hj=>by
  unfold needsF
  rw [show getI ((List.range (t+1 - f)).map (needAt ss R (f:Int))) tNeed.dflt j=needAt ss R (f:Int) j by simp [getI,List.getD,List.getElem?_map,List.getElem?_range hj]]
  rfl
 repeat' (first|refine zN ?_|refine zE ?_|refine zP ?_|refine zS ?_|refine zO ?_|refine zB ?_|refine zX ?_|refine zT ?_|refine skipI rfl ?_)
 refine zR ?_
 repeat' (first|with_reducible refine pN ?_|refine pD ?_|refine pC (by omega) ?_)
 repeat with_reducible refine cN ?_
 rw [← he,e1,e2]
 dsimp only
 generalize needsF ss R (f:Int) (t+1 - f)=ns at *
 generalize winAll (linksF R ws) (f:Int) (t+1 - f) (t+1 - f)=W at *
 repeat' (first|refine zN ?_|refine zE ?_|refine zP ?_|refine zS ?_|refine zO ?_|refine zB ?_|refine zX ?_|refine zT ?_|refine skipI rfl ?_)
 refine zR ?_
 repeat' (first|with_reducible refine pN ?_|refine pD ?_|fail)
 repeat with_reducible refine cN ?_
 rw [← hc]
 repeat' (first|refine zN ?_|refine zE ?_|refine zP ?_|refine pD ?_|refine zS ?_|refine zR ?_|refine zO ?_|refine zB ?_|refine zX ?_|refine zT ?_|refine skipI rfl ?_)
 refine condI rfl (fun c1=>?_) (fun c1=>?_)
 ·exfalso
  simp only [Bool.or_eq_true,decide_eq_true_eq] at c1
  rcases c1 with (c1|c1)|c1
  ·exact absurd c1 (by decide)
  ·cases c1
  ·omega
 have hcal:=hcg.cal (by omega)
 repeat' (first|refine zN ?_|refine zE ?_|refine zP ?_|refine zS ?_|refine zO ?_|refine zB ?_|refine zX ?_|refine zT ?_|refine skipI rfl ?_)
 refine zR ?_
 repeat' (first|with_reducible refine pN ?_|refine pD ?_|refine pC (by exact hcal) ?_)
 repeat with_reducible refine cN ?_
 repeat' (first|refine zN ?_|refine zE ?_|refine zP ?_|refine zS ?_|refine zO ?_|refine zB ?_|refine zX ?_|refine zT ?_|refine skipI rfl ?_)
 refine zR ?_
 repeat' (first|with_reducible refine pN ?_|refine pD ?_|refine pC (by (show (CalG c∧lenF c≤800000)∧ns.length≤1000000∧W.length≤1000000;exact ⟨⟨hcg,by omega⟩,by omega,by omega⟩)) ?_)
 repeat with_reducible refine cN ?_
 cases ho:makeG c e 2 5 ns W with
 | none =>
   repeat' (first|refine zN ?_|refine zE ?_|refine zP ?_|refine pD ?_|refine zS ?_|refine zR ?_|refine zO ?_|refine zB ?_|refine zX ?_|refine zT ?_|refine skipI rfl ?_)
   refine condT rfl ?_
   repeat' (first|refine zN ?_|refine zE ?_|refine zP ?_|refine pD ?_|refine zS ?_|refine zR ?_|refine zO ?_|refine zB ?_|refine zX ?_|refine zT ?_|refine skipI rfl ?_)
   refine endR rfl ?_
   repeat' (first|exact trivial|exact rfl|refine ⟨rfl,?_⟩|refine And.intro ?_ ?_)
 | some y =>
   have m:=made hcg ho
   have hlow:=made_low hcg hce hpe.1 (by omega) (by omega) ho
   have htl:=made_tools ho
   obtain ⟨xs,ov⟩:=y
   dsimp only at m hlow htl
   have hxl:xs.length=t+1 - f:=by rw [m.len];exact hnl
   have hn8:=(Pl.valid_facts m.valid).n
   obtain ⟨hE1,hC1⟩:=m.book hcg (ow:=7) (by omega) (by omega)
   obtain ⟨c1,hc1⟩:∃ c1,c1=bookAll (bks xs 7) c:=⟨_,rfl⟩
   rw [← hc1] at hC1
   have hlen1:lenF c1=lenF c+2 * xs.length:=by
    rw [hc1,(all_book hcg (m.free 7 (by omega) (by omega))).2.1,bks_len]
   have hc1g:CalG c1:=by rw [hc1];exact (bookAll_good (l:=bks xs 7) hcg).1
   have hcal1:=hc1g.cal (by omega)
   refine tidyI [(29,.int .i64 0)] [(28,.box [.int .i64 e,.int .i64 2,.int .i64 5,.sl tStage xs,.sl tWin W])] rfl rfl ?_ ?_
   ·repeat' (first|exact trivial|exact rfl|refine ⟨rfl,?_⟩|refine And.intro ?_ ?_)
   repeat' (first|refine zN ?_|refine zE ?_|refine zP ?_|refine pD ?_|refine zS ?_|refine zR ?_|refine zO ?_|refine zB ?_|refine zX ?_|refine zT ?_|refine skipI rfl ?_)
   refine condF rfl ?_
   repeat' (first|with_reducible refine cN ?_|refine zS ?_|refine skipI rfl ?_)
   refine regH [(96,false)] rfl ?_
   repeat' (first|with_reducible refine pN ?_|refine pC (by first|exact True.intro|exact ⟨hcg,by omega⟩|(rw [hE1];rfl)|(rw [hC1];exact hcal1)|(intros;rw [hC1];exact hcal1)|(unfold In64;omega)|(intros;unfold In64;omega)) ?_)
   rw [hC1]
   repeat' (first|with_reducible refine cN ?_|refine zS ?_|refine skipI rfl ?_)
   refine condI rfl (fun c2=>?_) (fun c2=>?_)
   ·exfalso
    simp [hlen1] at c2
   have hp:=chosen_low m.valid hlow ya tool at'
   obtain ⟨du,hdu⟩:∃ du,du=Pl.cDu xs ya xs.length:=⟨_,rfl⟩
   obtain ⟨mo,hmo⟩:∃ mo,mo=Pl.cMo 2 5 ya xs.length:=⟨_,rfl⟩
   obtain ⟨de,hde⟩:∃ de,de=Pl.cDe 2 5 ya:=⟨_,rfl⟩
   obtain ⟨tl,htl'⟩:∃ tl,tl=Pl.cTl xs tool:=⟨_,rfl⟩
   obtain ⟨fa,hfa⟩:∃ fa,fa=Pl.cFa xs tool at':=⟨_,rfl⟩
   rw [← hdu,← hmo,← hde,← htl',← hfa] at hp
   have C:=Pl.poss_facts hp
   obtain ⟨out,hro,hol,hvk⟩:=run_never m.safe hp
   have hvw:=(vis_win (out:=out) m.safe C hvk).2
   have hvt:=vis_time (out:=out) C hvk
   have hoR:out.length=t+1 - f:=by omega
   have hxn:xs.length≤1000000:=by omega
   repeat' (first|with_reducible refine cN ?_|refine zS ?_|refine skipI rfl ?_)
   repeat' (first|refine zN ?_|refine zE ?_|refine zP ?_|refine zS ?_|refine zO ?_|refine zB ?_|refine zX ?_|refine zT ?_|refine skipI rfl ?_)
   refine zR ?_
   repeat' (first|with_reducible refine pN ?_|refine pD ?_|refine pC (by first|exact m.valid|exact hxn) ?_)
   repeat with_reducible refine cN ?_
   simp only [← hdu,← hmo,← hde,← htl',← hfa,hro]
   have htm:TimeOk (dvL out R f (t+1 - f)):=dv_time (fun j hj=>hvt j (by omega))
   have hla:=hlate out htm (fun k hk w hw=>by
    obtain ⟨⟨a1,a2,a3,a4⟩,a5⟩:=hvw k hk w hw
    exact ⟨⟨a1,by omega,a3,by omega⟩,a5⟩)
   have hop:=hdue _ (dv_fst (out:=out) hft.1 hft.2.1) dv_len htm
   repeat' (first|refine zN ?_|refine zE ?_|refine zP ?_|refine pD ?_|refine zS ?_|refine zR ?_|refine zO ?_|refine zB ?_|refine zX ?_|refine zT ?_|refine skipI rfl ?_)
   refine condI rfl (fun c3=>?_) (fun c3=>?_)
   ·exfalso
    simp only [Bool.or_eq_true,decide_eq_true_eq] at c3
    rcases c3 with (c3|c3)|c3
    ·exact absurd c3 (by decide)
    ·exact absurd c3 (by decide)
    ·omega
   repeat' (first|refine zN ?_|refine zE ?_|refine zP ?_|refine pD ?_|refine zS ?_|refine zR ?_|refine zO ?_|refine zB ?_|refine zX ?_|refine zT ?_|refine skipI rfl ?_)
   refine loopI (σ:=Nat) (fun i=>[(33,.own 4000),(34,.int .i64 i)]) (fun i=>[(4000,.seq Fl.tVis (dvL out R f i))]) (fun i=>i≤out.length) (fun i=>out.length - i) 0 rfl (fun _=>rfl) rfl ?_ ?_ ?_
   ·exact Nat.zero_le _
   ·repeat' (first|exact trivial|with_reducible exact rfl|refine And.intro ?_ ?_)
    all_goals rfl
   intro i hi
   repeat' (first|refine zN ?_|refine zE ?_|refine zP ?_|refine pD ?_|refine zS ?_|refine zR ?_|refine zO ?_|refine zB ?_|refine zX ?_|refine zT ?_|refine skipI rfl ?_)
   refine condI rfl (fun c4=>?_) (fun c4=>?_)
   ·simp only [decide_eq_true_eq] at c4
    have hil:i < out.length:=by omega
    have hii:((i:Int)).toNat=i:=by omega
    have hfi:((f:Int)+(i:Int)).toNat=f+i:=by omega
    have hfl:f+i < List.length (α:=Int) R:=by omega
    have hrs:=hRi _ (Fl.fl_mem (d:=(0:Int)) hfl)
    have hsl:(getI (α:=Int) R 0 (f+i)).toNat < List.length (α:=StepT) ss:=by omega
    obtain ⟨t0,t00,t05,ht2⟩:=htwo _ hsl
    have hnt:=hndt i (by omega)
    rw [ht2] at hnt
    have V:=hvk i (by omega)
    have htt:=htl i (by omega)
    rw [hnt] at htt
    have hdl:(dvL out R f i).length=i:=dv_len
    have hnx:dvL out R f (i+1)=dvL out R f i++[dvA out R f i]:=dv_take
    repeat' (first|refine zN ?_|refine zE ?_|refine zP ?_|refine zS ?_|refine zO ?_|refine zB ?_|refine zX ?_|refine zT ?_|refine skipI rfl ?_)
    refine zR ?_
    repeat' (first|with_reducible refine pN ?_|refine pD ?_|refine pC (by (simp only [hii];omega)) ?_)
    repeat with_reducible refine cN ?_
    simp only [hii]
    unfold dvA at hnx
    obtain ⟨v,hvv⟩:∃ v:VisT,v=getI out Pl.tVisit.dflt i:=⟨_,rfl⟩
    rw [← hvv] at V hnx ⊢
    have hvt2:v.2.1=t0∨v.2.1=t0+1:=by
     unfold VisOk at V
     rcases V.2.2 with h|h
     ·rw [h.1];simpa using htt.1
     ·rw [h.1];simpa using htt.2
    repeat' (first|refine zN ?_|refine zE ?_|refine zP ?_|refine zS ?_|refine zO ?_|refine zB ?_|refine zX ?_|refine zT ?_|refine skipI rfl ?_)
    refine zR ?_
    repeat' (first|with_reducible refine pN ?_|refine pD ?_|refine pC (by (simp only [hfi];omega)) ?_)
    repeat with_reducible refine cN ?_
    simp only [hfi]
    repeat' (first|refine zN ?_|refine zE ?_|refine zP ?_|refine zS ?_|refine zO ?_|refine zB ?_|refine zX ?_|refine zT ?_|refine skipI rfl ?_)
    refine zR ?_
    repeat' (first|with_reducible refine pN ?_|refine pD ?_|refine pC (by (simp only [hdl,List.length_cons,List.length_nil];omega)) ?_)
    repeat with_reducible refine cN ?_
    obtain ⟨s0,hs0⟩:∃ s:Int,s=getI R Fl.tInt.dflt (f+i):=⟨_,rfl⟩
    have hs0':s0=getI (α:=Int) R 0 (f+i):=hs0
    rw [← hs0'] at hrs hsl ht2 hnx
    rw [← hs0,show dvL out R f i++[(s0,v.2.1,v.2.2.1,v.2.2.2)]=dvL out R f (i+1) from hnx.symm]
    have hT0:0≤v.2.1:=by omega
    have hT1:v.2.1 < 60:=by omega
    have hLs:listF c1 v.2.1=toolL c1 v.2.1:=by
     unfold listF
     rw [if_pos (toolB_of hT0 hT1)]
    have hap:=ap_good (hc1g.tool hT0 hT1)
    rw [← hLs] at hap
    have hhas:hasI (getI ss tStep.dflt s0.toNat).2.1 v.2.1=true:=by
     rw [ht2]
     unfold hasI
     refine decide_eq_true ?_
     rcases hvt2 with h|h <;> rw [h] <;> simp
    repeat' (first|with_reducible refine cN ?_|refine zS ?_|refine skipI rfl ?_)
    refine regH [(166,false)] rfl ?_
    repeat' (first|with_reducible refine pN ?_|refine pC (by first|exact True.intro|exact hcal1|(rw [hhas];rfl)|omega) ?_)
    rw [hap]
    repeat' (first|with_reducible refine cN ?_|refine zS ?_|refine skipI rfl ?_)
    refine condI rfl (fun c5=>?_) (fun _=>?_)
    ·exact absurd c5 (by decide)
    repeat' (first|refine zN ?_|refine zE ?_|refine zP ?_|refine pD ?_|refine zS ?_|refine zR ?_|refine zO ?_|refine zB ?_|refine zX ?_|refine zT ?_|refine skipI rfl ?_)
    refine roundI (i+1) rfl ?_ ?_ ?_
    ·show i+1≤out.length
     omega
    ·show out.length - (i+1) < out.length - i
     omega
    ·repeat' (first|exact trivial|with_reducible exact rfl|refine And.intro ?_ ?_)
     all_goals rfl
   ·have hie:i=t+1 - f:=by simp only [decide_eq_false_iff_not] at c4;omega
    rw [hie]
    refine freezeI 4000 rfl ?_
    generalize dvL out R f (t+1 - f)=l at *
    have ew:watA 2 5 ss ws l=watL l 0 ws:=by unfold watA;rw [hv];rfl
    repeat' (first|with_reducible refine cN ?_|refine zS ?_|refine skipI rfl ?_)
    repeat' (first|refine zN ?_|refine zE ?_|refine zP ?_|refine zS ?_|refine zO ?_|refine zB ?_|refine zX ?_|refine zT ?_|refine skipI rfl ?_)
    refine zR ?_
    repeat' (first|with_reducible refine pN ?_|refine pD ?_|fail)
    repeat with_reducible refine cN ?_
    rw [ew]
    refine freezeI (key 176 0) rfl ?_
    have hDl:List.length (α:=Int × Int) (openQ (watL l 0 ws))≤4:=by
     have h1:=Fl.openQ_len (q:=watL l 0 ws)
     have h2:(watL l 0 ws).length=ws.length:=Fl.watL_len
     omega
    generalize openQ (watL l 0 ws)=D at *
    repeat' (first|refine zN ?_|refine zE ?_|refine zP ?_|refine pD ?_|refine zS ?_|refine zR ?_|refine zO ?_|refine zB ?_|refine zX ?_|refine zT ?_|refine skipI rfl ?_)
    refine loopI (σ:=Nat) (fun k=>[(37,.int .i64 k)]) (fun k=>[]) (fun k=>k≤List.length (α:=Int × Int) D) (fun k=>List.length (α:=Int × Int) D - k) 0 rfl (fun _=>rfl) rfl ?_ ?_ ?_
    ·exact Nat.zero_le _
    ·repeat' (first|exact trivial|with_reducible exact rfl|refine And.intro ?_ ?_)
     all_goals rfl
    intro k hk
    repeat' (first|refine zN ?_|refine zE ?_|refine zP ?_|refine pD ?_|refine zS ?_|refine zR ?_|refine zO ?_|refine zB ?_|refine zX ?_|refine zT ?_|refine skipI rfl ?_)
    refine condI rfl (fun c6=>?_) (fun c6=>?_)
    ·simp only [decide_eq_true_eq] at c6
     have hkl:k < List.length (α:=Int × Int) D:=by omega
     have hk4:k < 4:=by omega
     have hkn:((k:Int)).toNat=k:=by omega
     obtain ⟨d,hd⟩:∃ d:Int × Int,d=getI D (Ty.pair Fl.tInt Fl.tInt).dflt k:=⟨_,rfl⟩
     obtain ⟨q,hq1,hq2,hq3⟩:=hop d (by rw [hd];exact Fl.fl_mem hkl)
     have hqn:d.1.toNat=q:=by omega
     have htn:((t:Int)+1).toNat=t+1:=by omega
     obtain ⟨u,hu⟩:∃ u:Fl.WinT,u=getI ws Fl.tWin.dflt q:=⟨_,rfl⟩
     rw [← hu] at hq3
     have eT:List.take ((List.length (α:=Int) R:Int)).toNat R=R:=by rw [Int.toNat_natCast,List.take_length]
     have hrest:∀ z,hasI (R.drop (t+1)) z=true↔z∈R.drop (t+1):=fun z=>by unfold hasI;exact decide_eq_true_iff
     repeat' (first|refine zN ?_|refine zE ?_|refine zP ?_|refine zS ?_|refine zO ?_|refine zB ?_|refine zX ?_|refine zT ?_|refine skipI rfl ?_)
     by_cases hto:u.2.1∈R.drop (t+1)
     ·have h1:=(hrest _).2 hto
      have h2:=(hrest _).2 (hq3 hto)
      refine regH [(198,true)] rfl ?_
      simp only [hkn,← hd,hqn,← hu,htn,eT,h1,h2]
      repeat' (first|with_reducible refine pN ?_|refine pC (by first|exact True.intro|omega|(unfold In64;omega)|exact Eq.refl true|exact Eq.refl false) ?_)
      repeat' (first|with_reducible refine cN ?_|refine zS ?_|refine skipI rfl ?_)
      refine condI rfl (fun c7=>?_) (fun _=>?_)
      ·exact absurd c7 (by decide)
      repeat' (first|refine zN ?_|refine zE ?_|refine zP ?_|refine pD ?_|refine zS ?_|refine zR ?_|refine zO ?_|refine zB ?_|refine zX ?_|refine zT ?_|refine skipI rfl ?_)
      refine roundI (k+1) rfl ?_ ?_ ?_
      ·show k+1≤List.length (α:=Int × Int) D
       omega
      ·show List.length (α:=Int × Int) D - (k+1) < List.length (α:=Int × Int) D - k
       omega
      ·repeat' (first|exact trivial|with_reducible exact rfl|refine And.intro ?_ ?_)
       all_goals rfl
     ·have h1:hasI (R.drop (t+1)) u.2.1=false:=by unfold hasI;exact decide_eq_false hto
      refine regH [(198,false)] rfl ?_
      simp only [hkn,← hd,hqn,← hu,htn,eT,h1]
      repeat' (first|with_reducible refine pN ?_|refine pC (by first|exact True.intro|omega|(unfold In64;omega)|exact Eq.refl true|exact Eq.refl false) ?_)
      repeat' (first|with_reducible refine cN ?_|refine zS ?_|refine skipI rfl ?_)
      refine condI rfl (fun c7=>?_) (fun _=>?_)
      ·exact absurd c7 (by decide)
      repeat' (first|refine zN ?_|refine zE ?_|refine zP ?_|refine pD ?_|refine zS ?_|refine zR ?_|refine zO ?_|refine zB ?_|refine zX ?_|refine zT ?_|refine skipI rfl ?_)
      refine roundI (k+1) rfl ?_ ?_ ?_
      ·show k+1≤List.length (α:=Int × Int) D
       omega
      ·show List.length (α:=Int × Int) D - (k+1) < List.length (α:=Int × Int) D - k
       omega
      ·repeat' (first|exact trivial|with_reducible exact rfl|refine And.intro ?_ ?_)
       all_goals rfl
    ·repeat' (first|refine zN ?_|refine zE ?_|refine zP ?_|refine zS ?_|refine zO ?_|refine zB ?_|refine zX ?_|refine zT ?_|refine skipI rfl ?_)
     refine regH [(217,true)] rfl ?_
     repeat' (first|with_reducible refine pN ?_|refine pC (by first|exact True.intro|exact Eq.refl true) ?_)
     rw [ew,hla]
     repeat' (first|refine zN ?_|refine zE ?_|refine zP ?_|refine pD ?_|refine zS ?_|refine zR ?_|refine zO ?_|refine zB ?_|refine zX ?_|refine zT ?_|refine skipI rfl ?_)
     refine endR rfl ?_
     repeat' (first|exact trivial|exact rfl|refine ⟨rfl,?_⟩|refine And.intro ?_ ?_)
end Go.AM.YtkgmmmhokgdcaaaGreat.Tp
