/- The theorem TopFilled: her function. -/
import Derived.Test.YtkgmmmhokgdcaaaGreatTpCK
import Derived.Test.YtkgmmmhokgdcaaaGreatPb28
import Derived.Test.YtkgmmmhokgdcaaaGreatReWK
set_option linter.all false
namespace Go.AM.YtkgmmmhokgdcaaaGreat.Tp
open Go.Proofs
open Go.AM.YtkgmmmhokgdcaaaGreat.Re
set_option maxRecDepth 100000
set_option maxHeartbeats 8000000
abbrev VisT:=Int × Int × Int × Int
def sigTf:List (Nat × Spec):=[(6,awakeS),(11,pickP),(7,bookedTS),(26,waitS),(22,apS),(8,mkReqS.norm [.any,.any,.sl tP2]),(9,makeS),(10,reBookS),
  (13,Pl.chosenS),(12,Pl.runS),(27,dpickS),(29,lengthS),(28,bookS),(23,listS)]
theorem sigTfOk:SigOk Tryz.prog (look sigTf):=sigCons (sigCons (sigCons (sigCons (sigCons (sigCons (sigCons (sigCons (sigCons (sigCons (sigCons (sigCons (sigCons (sigCons sigNil
  Tryz.func23 (by kernel_rfl) (c:=body Tryz.f23) rfl listOk)
  Tryz.func28 (by kernel_rfl) (c:=body Tryz.f28) rfl bookOk)
  Tryz.func29 (by kernel_rfl) (c:=body Tryz.f29) rfl lengthOk)
  Tryz.func27 (by kernel_rfl) (c:=body Tryz.f27) rfl dpickOk)
  Tryz.func12 (by kernel_rfl) (c:=body Tryz.f12) rfl Pl.runOk)
  Tryz.func13 (by kernel_rfl) (c:=body Tryz.f13) rfl Pl.chosenOk)
  Tryz.func10 (by kernel_rfl) (c:=body Tryz.f10) rfl reBookOk)
  Tryz.func9 (by kernel_rfl) (c:=body Tryz.f9) rfl makeOk)
  Tryz.func8 (by kernel_rfl) (c:=body Tryz.f8) rfl (mkReqOk.norm _))
  Tryz.func22 (by kernel_rfl) (c:=body Tryz.f22) rfl apOk)
  Tryz.func26 (by kernel_rfl) (c:=body Tryz.f26) rfl waitOk)
  Tryz.func7 (by kernel_rfl) (c:=body Tryz.f7) rfl bookedTOk)
  Tryz.func11 (by kernel_rfl) (c:=body Tryz.f11) rfl pickTOk)
  Tryz.func6 (by kernel_rfl) (c:=body Tryz.f6) rfl awakeOk
def ltfS:Spec:=plain fun
  | [.sl (.pair (.int .i64) (.pair (.int .i64) (.pair (.int .i64) (.int .i64)))) _,.agg [.int .i64 _,.int .i64 _,.int .i64 _,.int .i64 _],.sl (.pair (.int .i64) (.pair (.int .i64) (.pair (.int .i64) (.int .i64)))) _,.agg [.int .i64 _,.int .i64 _,.int .i64 _,.int .i64 _],.sl (.pair (.int .i64) (.pair (.int .i64) (.pair (.int .i64) (.int .i64)))) _,.sl (.pair (.int .i64) (.int .i64)) _,.sl (.pair (.int .i64) (.int .i64)) _,.int .i64 _,.int .i64 _]=>outV True (.bool true)
  | _=>none
theorem ltfOk:SpecSound Tryz.prog 5 ltfS:=by
  refine soundP (envOf sigTfOk) Tryz.func5 (c:=body Tryz.f5) rfl (by kernel_rfl) rfl ?_
  intro args out hf hpre
  split at hf <;> try (cases hf;done)
  rename_i bk y0 y1 y2 y3 needs x0 x1 x2 x3 jobs asks ya tool at'
  cases hf
  refine ⟨Nat.le_of_ble_eq_true rfl,initI (args:=[.sl t4 bk,.agg [.int .i64 y0,.int .i64 y1,.int .i64 y2,.int .i64 y3],.sl t4 needs,.agg [.int .i64 x0,.int .i64 x1,.int .i64 x2,.int .i64 x3],.sl t4 jobs,.sl tP2 asks,.sl tP2 ya,.int .i64 tool,.int .i64 at']) rfl ?_⟩
  obtain ⟨c,hc⟩:∃ c,c=calT bk:=⟨_,rfl⟩
  obtain ⟨hcg,hcl⟩:=calT_good bk
  have hce:=calT_ends bk
  rw [← hc] at hcg hcl hce
  obtain ⟨ns,hns⟩:∃ ns,ns=ndL (y0,y1,y2,y3) needs:=⟨_,rfl⟩
  obtain ⟨wl,hwl⟩:∃ wl,wl=winL (ndN needs) []:=⟨_,rfl⟩
  obtain ⟨e,he⟩:∃ e,e=rqE (y0,y1,y2,y3):=⟨_,rfl⟩
  obtain ⟨a,ha⟩:∃ a,a=rqA (y0,y1,y2,y3):=⟨_,rfl⟩
  obtain ⟨b,hb⟩:∃ b,b=rqB (y0,y1,y2,y3):=⟨_,rfl⟩
  have heb:0≤e∧e≤339:=by
    have:=pick_b (c:=y0) (n:=100) (by omega)
    rw [he]
    show 0≤pickF y0 100∧pickF y0 100≤339
    omega
  have hnl:=ndL_len (y0,y1,y2,y3) needs
  have hnl2:=ndL_len (x0,x1,x2,x3) needs
  have hwll:=winL_len (ndN needs) []
  rw [← hns] at hnl
  rw [← hwl] at hwll
  repeat' (first|with_reducible (first|apply pN|apply cN|apply bN|apply cE|apply cR|apply bR|apply lE|apply lR|apply jE|apply jR)|refine zE ?_|refine zP ?_|refine zS ?_|refine zO ?_|refine zB ?_|refine zX ?_|refine zT ?_|refine skipI rfl ?_)
  refine zR ?_
  repeat' (first|with_reducible refine pN ?_|refine pD ?_|fail)
  repeat with_reducible refine cN ?_
  repeat' (first|with_reducible (first|apply pN|apply cN|apply bN|apply cE|apply cR|apply bR|apply lE|apply lR|apply jE|apply jR)|refine zE ?_|refine zP ?_|refine zS ?_|refine zO ?_|refine zB ?_|refine zX ?_|refine zT ?_|refine skipI rfl ?_)
  refine zR ?_
  repeat' (first|with_reducible refine pN ?_|refine pD ?_|fail)
  repeat with_reducible refine cN ?_
  repeat' (first|with_reducible (first|apply pN|apply cN|apply bN|apply cE|apply cR|apply bR|apply lE|apply lR|apply jE|apply jR)|refine zE ?_|refine zP ?_|refine zS ?_|refine zO ?_|refine zB ?_|refine zX ?_|refine zT ?_|refine skipI rfl ?_)
  refine zR ?_
  repeat' (first|with_reducible refine pN ?_|refine pD ?_|fail)
  repeat with_reducible refine cN ?_
  rw [← hc]
  repeat' (first|with_reducible (first|apply pN|apply cN|apply bN|apply cE|apply cR|apply bR|apply lE|apply lR|apply jE|apply jR)|refine zE ?_|refine zP ?_|refine zS ?_|refine zO ?_|refine zB ?_|refine zX ?_|refine zT ?_|refine skipI rfl ?_)
  refine zR ?_
  repeat' (first|with_reducible refine pN ?_|refine pD ?_|refine pC (by (show (CalG c∧lenF c≤800000)∧_;rw [← hns,← hwl];exact ⟨⟨hcg,by omega⟩,by omega,by omega⟩)) ?_)
  repeat with_reducible refine cN ?_
  rw [← hns,← hwl,← he,← ha,← hb]
  cases ho:makeG c e a b ns wl with
  | none =>
    repeat' (first|with_reducible (first|apply pN|apply cN|apply bN|apply cE|apply cR|apply bR|apply lE|apply lR|apply jE|apply jR)|refine zE ?_|refine zP ?_|refine pD ?_|refine zS ?_|refine zR ?_|refine zO ?_|refine zB ?_|refine zX ?_|refine zT ?_|refine skipI rfl ?_)
    refine condT rfl ?_
    repeat' (first|with_reducible (first|apply pN|apply cN|apply bN|apply cE|apply cR|apply bR|apply lE|apply lR|apply jE|apply jR)|refine zE ?_|refine zP ?_|refine pD ?_|refine zS ?_|refine zR ?_|refine zO ?_|refine zB ?_|refine zX ?_|refine zT ?_|refine skipI rfl ?_)
    refine endR rfl ?_
    repeat' (first|exact trivial|exact rfl|refine ⟨rfl,?_⟩|refine And.intro ?_ ?_)
  | some y =>
    have m:=made hcg ho
    have hlow:=made_low hcg hce heb.1 heb.2 (by omega) ho
    obtain ⟨xs,ov⟩:=y
    dsimp only at m hlow
    have F:=Pl.valid_facts m.valid
    have hn8:=F.n
    obtain ⟨hE1,hC1⟩:=m.book hcg (ow:=1) (by omega) (by omega)
    obtain ⟨l,hl⟩:∃ l,l=bks xs 1:=⟨_,rfl⟩
    have hll:l.length=2 * xs.length:=by rw [hl];exact bks_len xs 1
    have hmem:∀ d:Bk.El,d∈l↔∃ x∈xs,d=Pl.bk1 x 1∨d=Pl.bk2 x 1:=fun d=>by
      rw [hl]
      unfold bks
      simp [List.mem_flatMap]
    have how:∀ d∈l,owB d=1:=fun d hd=>by
      obtain ⟨x,_,rfl|rfl⟩:=(hmem d).1 hd <;> rfl
    obtain ⟨c1,hc1⟩:∃ c1,c1=bookAll (bks xs 1) c:=⟨_,rfl⟩
    rw [← hc1] at hC1
    have hH:Pl.Has l 100 c1:=by
      obtain ⟨k1,k2⟩:=bookAll_good (l:=bks xs 1) hcg
      rw [bks_len] at k2
      have k3:=has_bks hcg (m.free 1 (by omega) (by omega))
      rw [← hc1] at k1 k2 k3
      exact ⟨k1,by omega,fun d hd=>k3 d (by rw [← hl];exact hd)⟩
    refine tidyI [(22,.int .i64 0)] [(21,.box [.int .i64 e,.int .i64 a,.int .i64 b,.sl tStage xs,.sl tWin wl])] rfl rfl ?_ ?_
    · repeat' (first|exact trivial|exact rfl|refine ⟨rfl,?_⟩|refine And.intro ?_ ?_)
    repeat' (first|with_reducible (first|apply pN|apply cN|apply bN|apply cE|apply cR|apply bR|apply lE|apply lR|apply jE|apply jR)|refine zE ?_|refine zP ?_|refine pD ?_|refine zS ?_|refine zR ?_|refine zO ?_|refine zB ?_|refine zX ?_|refine zT ?_|refine skipI rfl ?_)
    refine condF rfl ?_
    repeat' (first|with_reducible refine cN ?_|refine zS ?_|refine skipI rfl ?_)
    repeat' (first|with_reducible (first|apply pN|apply cN|apply bN|apply cE|apply cR|apply bR|apply lE|apply lR|apply jE|apply jR)|refine zE ?_|refine zP ?_|refine zS ?_|refine zO ?_|refine zB ?_|refine zX ?_|refine zT ?_|refine skipI rfl ?_)
    refine zR ?_
    repeat' (first|with_reducible refine pN ?_|refine pD ?_|refine pC (by exact ⟨hcg,by omega⟩) ?_)
    repeat with_reducible refine cN ?_
    rw [hE1,hC1]
    repeat' (first|with_reducible refine cN ?_|refine zS ?_|refine skipI rfl ?_)
    refine condF rfl ?_
    have hjl:=waitF_len jobs
    have hlots:=waitF_lots jobs
    have hjok:=waitF_ok jobs
    repeat' (first|with_reducible (first|apply pN|apply cN|apply bN|apply cE|apply cR|apply bR|apply lE|apply lR|apply jE|apply jR)|refine zE ?_|refine zP ?_|refine pD ?_|refine zS ?_|refine zR ?_|refine zO ?_|refine zB ?_|refine zX ?_|refine zT ?_|refine skipI rfl ?_)
    generalize waitF jobs=jl at *
    have hr:RulesOk [1,2]:=by decide
    refine loopI (σ:=Nat × List (List Bk.El)) (fun s=>[(20,.ptr 20000 0),(24,.int .i64 s.1)]) (fun s=>[(20000,.arr Bk s.2 none)]) (fun s=>s.1≤asks.length∧s.1≤20∧Pl.Has l (100+s.1) s.2) (fun s=>20 - s.1) (0,c1) rfl (fun _=>rfl) rfl ?_ ?_ ?_
    · exact ⟨Nat.zero_le _,by omega,hH⟩
    · repeat' (first|exact trivial|exact rfl|refine ⟨rfl,?_⟩|refine And.intro ?_ ?_)
    clear hH
    rintro ⟨i,xss⟩ ⟨hi,hi20,hH⟩
    dsimp only at hi hi20 hH ⊢
    have hHl:=hH.len
    have hcal:=hH.g.cal (by omega)
    repeat' (first|with_reducible (first|apply pN|apply cN|apply bN|apply cE|apply cR|apply bR|apply lE|apply lR|apply jE|apply jR)|refine zE ?_|refine zP ?_|refine pD ?_|refine zS ?_|refine zR ?_|refine zO ?_|refine zB ?_|refine zX ?_|refine zT ?_|refine skipI rfl ?_)
    refine condI rfl (fun c3=>?_) (fun c3=>?_)
    · have c3':(decide ((i:Int) < asks.length)&&decide ((i:Int) < 20))=true:=c3
      simp only [Bool.and_eq_true,decide_eq_true_eq] at c3'
      have hil:i < asks.length:=by omega
      have hin:((i:Int)).toNat=i:=by omega
      have p1:=pick_b (c:=(getI asks tP2.dflt i).1) (n:=9) (by omega)
      have p2:=pick_b (c:=(getI asks tP2.dflt i).2) (n:=400) (by omega)
      repeat' (first|with_reducible (first|apply pN|apply cN|apply bN|apply cE|apply cR|apply bR|apply lE|apply lR|apply jE|apply jR)|refine zE ?_|refine zP ?_|refine zS ?_|refine zO ?_|refine zB ?_|refine zX ?_|refine zT ?_|refine skipI rfl ?_)
      refine zR ?_
      repeat' (first|with_reducible refine pN ?_|refine pD ?_|refine pC (by first|exact ⟨hcal,by decide,by omega⟩) ?_)
      repeat with_reducible refine cN ?_
      repeat' (first|with_reducible (first|apply pN|apply cN|apply bN|apply cE|apply cR|apply bR|apply lE|apply lR|apply jE|apply jR)|refine zE ?_|refine zP ?_|refine zS ?_|refine zO ?_|refine zB ?_|refine zX ?_|refine zT ?_|refine skipI rfl ?_)
      refine zR ?_
      repeat' (first|with_reducible refine pN ?_|refine pD ?_|refine pC (by first|exact ⟨hcal,by decide,by omega⟩) ?_)
      repeat with_reducible refine cN ?_
      repeat' (first|with_reducible (first|apply pN|apply cN|apply bN|apply cE|apply cR|apply bR|apply lE|apply lR|apply jE|apply jR)|refine zE ?_|refine zP ?_|refine zS ?_|refine zO ?_|refine zB ?_|refine zX ?_|refine zT ?_|refine skipI rfl ?_)
      refine zR ?_
      repeat' (first|with_reducible refine pN ?_|refine pD ?_|refine pC (by first|exact ⟨hcal,by decide,by omega⟩) ?_)
      repeat with_reducible refine cN ?_
      rw [hin]
      generalize pickF (getI asks tP2.dflt i).1 9=tool2 at *
      generalize pickF (getI asks tP2.dflt i).2 400=now at *
      have hyes:=pick_spec (xss:=xss) (tool:=tool2) (now:=now) (rc:=1) hr hlots
      generalize pickJ xss tool2 now [1,2] 1 jl=q at *
      obtain ⟨j,ok⟩:=q
      dsimp only at hyes ⊢
      cases ok with
      | false =>
        repeat' (first|with_reducible refine cN ?_|refine zS ?_|refine skipI rfl ?_)
        refine regH [(93,false)] rfl ?_
        repeat' (first|with_reducible refine pN ?_|refine pC (by first|exact True.intro|rfl) ?_)
        repeat' (first|with_reducible refine cN ?_|refine zS ?_|refine skipI rfl ?_)
        refine condF rfl ?_
        repeat' (first|with_reducible (first|apply pN|apply cN|apply bN|apply cE|apply cR|apply bR|apply lE|apply lR|apply jE|apply jR)|refine zE ?_|refine zP ?_|refine pD ?_|refine zS ?_|refine zR ?_|refine zO ?_|refine zB ?_|refine zX ?_|refine zT ?_|refine skipI rfl ?_)
        refine roundI (i+1,xss) rfl ?_ ?_ ?_
        · exact ⟨by show i+1≤asks.length;omega,by show i+1≤20;omega,⟨hH.g,by show lenF xss≤100+(i+1);omega,hH.all⟩⟩
        · show 20 - (i+1) < 20 - i
          omega
        · repeat' (first|exact trivial|exact rfl|refine ⟨rfl,?_⟩|refine And.intro ?_ ?_)
      | true =>
        obtain ⟨hm,hf,_⟩:=hyes rfl
        have hj:=hjok _ hm
        have hlb:=length_b 1 j
        have hfree:=fit_free (o:=50) hH.g (by omega) (by omega) (by omega) (by omega) (by omega) (by omega) hf
        have hsame:=hH.same ((tool2,now,now+lengthF 1 j,50):Bk.El)
        repeat' (first|with_reducible refine cN ?_|refine zS ?_|refine skipI rfl ?_)
        refine regH [(93,true)] rfl ?_
        repeat' (first|with_reducible refine pN ?_|refine pC (by first|exact True.intro|rfl|(intros;show In64 (jLen j+20);unfold In64;omega)|(intros;show In64 (now+lengthF 1 j);unfold In64;omega)|exact fun _=>⟨hcal,hH.g.sorted⟩|exact ⟨hcal,hH.g.sorted⟩) ?_)
        repeat' (first|with_reducible refine cN ?_|refine zS ?_|refine skipI rfl ?_)
        refine condI rfl (fun c4=>?_) (fun c4=>?_)
        · exfalso
          have c4':(true&&decide (errF xss (tool2,now,now+lengthF 1 j,50)≠0))=true:=c4
          rw [errF_zero.2 hfree] at c4'
          cases c4'
        clear c4
        repeat' (first|with_reducible (first|apply pN|apply cN|apply bN|apply cE|apply cR|apply bR|apply lE|apply lR|apply jE|apply jR)|refine zE ?_|refine zP ?_|refine pD ?_|refine zS ?_|refine zR ?_|refine zO ?_|refine zB ?_|refine zX ?_|refine zT ?_|refine skipI rfl ?_)
        refine roundI (i+1,Go.AM.YtkgmmmhokgdcaaaGreat.bookF xss (tool2,now,now+lengthF 1 j,50)) rfl ?_ ?_ ?_
        · exact ⟨by show i+1≤asks.length;omega,by show i+1≤20;omega,hsame⟩
        · show 20 - (i+1) < 20 - i
          omega
        · repeat' (first|exact trivial|exact rfl|refine ⟨rfl,?_⟩|refine And.intro ?_ ?_)
    · clear c3
      have hnl3:(ndL (x0,x1,x2,x3) needs).length≤1000000:=by omega
      repeat' (first|with_reducible refine cN ?_|refine skipI rfl ?_)
      repeat' (first|with_reducible (first|apply pN|apply cN|apply bN|apply cE|apply cR|apply bR|apply lE|apply lR|apply jE|apply jR)|refine zE ?_|refine zP ?_|refine zS ?_|refine zO ?_|refine zB ?_|refine zX ?_|refine zT ?_|refine skipI rfl ?_)
      refine zR ?_
      repeat' (first|with_reducible refine pN ?_|refine pD ?_|refine pC (by (show (CalG xss∧lenF xss≤800000)∧_;rw [← hwl];exact ⟨⟨hH.g,by omega⟩,by omega,by omega⟩)) ?_)
      repeat with_reducible refine cN ?_
      rw [← hwl]
      generalize rqE (x0,x1,x2,x3)=e2 at *
      generalize rqA (x0,x1,x2,x3)=a2 at *
      generalize rqB (x0,x1,x2,x3)=b2 at *
      generalize ndL (x0,x1,x2,x3) needs=ns2 at *
      refine zS ?_
      refine joinC (fun _:CalT=>[]) (fun c3=>[(20000,.arr Bk c3 none)]) (fun c3=>Pl.Has l 200 c3) (fun _=>rfl) ?_ (fun c3 hH3=>?_)
      · refine zS ?_
        cases hq:makeG xss e2 a2 b2 ns2 wl with
        | none =>
          refine regH [(115,false)] rfl ?_
          repeat' (first|with_reducible refine pN ?_|refine pC (by first|exact True.intro|rfl|decide) ?_)
          repeat' (first|with_reducible refine cN ?_|refine zS ?_|refine skipI rfl ?_)
          refine condI rfl (fun c4=>?_) (fun _=>?_)
          · exact absurd c4 (by decide)
          repeat' (first|with_reducible (first|apply pN|apply cN|apply bN|apply cE|apply cR|apply bR|apply lE|apply lR|apply jE|apply jR)|refine zE ?_|refine zP ?_|refine pD ?_|refine zS ?_|refine zR ?_|refine zO ?_|refine zB ?_|refine zX ?_|refine zT ?_|refine skipI rfl ?_)
          refine meetI xss rfl ⟨hH.g,by omega,hH.all⟩ ?_
          repeat' (first|exact trivial|with_reducible exact rfl|refine And.intro ?_ ?_)
          all_goals rfl
        | some z =>
          have m2:=made hH.g hq
          obtain ⟨zs,ov2⟩:=z
          dsimp only at m2
          have hz8:=(Pl.valid_facts m2.valid).n
          obtain ⟨hE2,hC2⟩:=m2.book hH.g (ow:=2) (by omega) (by omega)
          have hmore:=Has_more (m:=bks zs 2) hH
          rw [bks_len] at hmore
          refine tidyI [(30,.int .i64 0)] [(29,.box [.int .i64 e2,.int .i64 a2,.int .i64 b2,.sl tStage zs,.sl tWin wl])] rfl rfl ?_ ?_
          · repeat' (first|exact trivial|exact rfl|refine ⟨rfl,?_⟩|refine And.intro ?_ ?_)
          refine regH [(115,true)] rfl ?_
          repeat' (first|with_reducible refine pN ?_|refine pC (by first|exact True.intro|rfl|decide|exact fun _=>⟨hH.g,by omega⟩|exact ⟨hH.g,by omega⟩) ?_)
          rw [hE2,hC2]
          repeat' (first|with_reducible refine cN ?_|refine zS ?_|refine skipI rfl ?_)
          refine condI rfl (fun c4=>?_) (fun _=>?_)
          · exact absurd c4 (by decide)
          repeat' (first|with_reducible (first|apply pN|apply cN|apply bN|apply cE|apply cR|apply bR|apply lE|apply lR|apply jE|apply jR)|refine zE ?_|refine zP ?_|refine pD ?_|refine zS ?_|refine zR ?_|refine zO ?_|refine zB ?_|refine zX ?_|refine zT ?_|refine skipI rfl ?_)
          refine meetI (bookAll (bks zs 2) xss) rfl ⟨hmore.g,by have:=hmore.len;omega,hmore.all⟩ ?_
          repeat' (first|exact trivial|with_reducible exact rfl|refine And.intro ?_ ?_)
          all_goals rfl
      · clear hH hcal hHl
        have hHl:=hH3.len
        have hcal:=hH3.g.cal (by omega)
        have hp:=chosen_low m.valid hlow ya tool at'
        obtain ⟨du,hdu⟩:∃ du,du=Pl.cDu xs ya xs.length:=⟨_,rfl⟩
        obtain ⟨mo,hmo⟩:∃ mo,mo=Pl.cMo a b ya xs.length:=⟨_,rfl⟩
        obtain ⟨de,hde⟩:∃ de,de=Pl.cDe a b ya:=⟨_,rfl⟩
        obtain ⟨tl,htl⟩:∃ tl,tl=Pl.cTl xs tool:=⟨_,rfl⟩
        obtain ⟨fa,hfa⟩:∃ fa,fa=Pl.cFa xs tool at':=⟨_,rfl⟩
        rw [← hdu,← hmo,← hde,← htl,← hfa] at hp
        have C:=Pl.poss_facts hp
        obtain ⟨out,hro,hol,hv⟩:=run_never m.safe hp
        repeat' (first|with_reducible refine cN ?_|refine zS ?_|refine skipI rfl ?_)
        repeat' (first|with_reducible (first|apply pN|apply cN|apply bN|apply cE|apply cR|apply bR|apply lE|apply lR|apply jE|apply jR)|refine zE ?_|refine zP ?_|refine zS ?_|refine zO ?_|refine zB ?_|refine zX ?_|refine zT ?_|refine skipI rfl ?_)
        refine zR ?_
        repeat' (first|with_reducible refine pN ?_|refine pD ?_|refine pC (by first|exact m.valid|(show xs.length≤_;omega)) ?_)
        repeat with_reducible refine cN ?_
        simp only [← hdu,← hmo,← hde,← htl,← hfa,hro]
        repeat' (first|with_reducible (first|apply pN|apply cN|apply bN|apply cE|apply cR|apply bR|apply lE|apply lR|apply jE|apply jR)|refine zE ?_|refine zP ?_|refine pD ?_|refine zS ?_|refine zR ?_|refine zO ?_|refine zB ?_|refine zX ?_|refine zT ?_|refine skipI rfl ?_)
        refine condI rfl (fun c4=>?_) (fun _=>?_)
        · exact absurd c4 (by decide)
        repeat' (first|with_reducible (first|apply pN|apply cN|apply bN|apply cE|apply cR|apply bR|apply lE|apply lR|apply jE|apply jR)|refine zE ?_|refine zP ?_|refine pD ?_|refine zS ?_|refine zR ?_|refine zO ?_|refine zB ?_|refine zX ?_|refine zT ?_|refine skipI rfl ?_)
        refine loopI (σ:=Nat) (fun j=>[(34,.int .i64 j)]) (fun j=>[]) (fun j=>j≤out.length) (fun j=>out.length - j) 0 rfl (fun _=>rfl) rfl ?_ ?_ ?_
        · exact Nat.zero_le _
        · repeat' (first|exact trivial|exact rfl|refine ⟨rfl,?_⟩|refine And.intro ?_ ?_)
        intro j hj
        repeat' (first|with_reducible (first|apply pN|apply cN|apply bN|apply cE|apply cR|apply bR|apply lE|apply lR|apply jE|apply jR)|refine zE ?_|refine zP ?_|refine pD ?_|refine zS ?_|refine zR ?_|refine zO ?_|refine zB ?_|refine zX ?_|refine zT ?_|refine skipI rfl ?_)
        refine condI rfl (fun c4=>?_) (fun c4=>?_)
        · simp only [decide_eq_true_eq] at c4
          have hjr:j < out.length:=by omega
          have hjn:((j:Int)).toNat=j:=by omega
          have V:=hv j (by omega)
          unfold VisOk at V
          have hA:=C.at' j (by omega)
          unfold Pl.AtOk at hA
          obtain ⟨x,hx⟩:∃ x:StT,x=getI xs tStage.dflt j:=⟨_,rfl⟩
          have hxm:x∈xs:=by rw [hx];exact Pl.getI_mem (by omega)
          have hA2:getI du 0 j≤sMax x:=by rw [hx];exact hA.1.2
          obtain ⟨v,hvv⟩:∃ v:VisT,v=getI out Pl.tVisit.dflt j:=⟨_,rfl⟩
          rw [← hx,← hvv] at V
          obtain ⟨d,hd,hdt,hds,hde2⟩:∃ d∈l,tlB d=v.2.1∧stB d≤v.2.2.1∧enB d≥v.2.2.2:=by
            rcases V.2.2 with h|h
            · refine ⟨Pl.bk1 x 1,(hmem _).2 ⟨x,hxm,.inl rfl⟩,h.1.symm,?_,?_⟩
              · show mSt x≤_
                omega
              · show _≤mSt x+sMax x
                omega
            · refine ⟨Pl.bk2 x 1,(hmem _).2 ⟨x,hxm,.inr rfl⟩,h.1.symm,?_,?_⟩
              · show sSt x≤_
                omega
              · show _≤sSt x+sMax x
                omega
          obtain ⟨hin,hgo⟩:=hH3.all d hd
          have h1:=how d hd
          have t0:=hgo.t0
          have t1:=hgo.t1
          have hl1:listF c3 v.2.1=toolL c3 (tlB d):=by
            unfold listF
            rw [← hdt,if_pos (toolB_of t0 t1)]
          have hT:=hH3.g.tool t0 t1
          have hdT:d∈toolL c3 (tlB d):=hin
          repeat' (first|with_reducible (first|apply pN|apply cN|apply bN|apply cE|apply cR|apply bR|apply lE|apply lR|apply jE|apply jR)|refine zE ?_|refine zP ?_|refine zS ?_|refine zO ?_|refine zB ?_|refine zX ?_|refine zT ?_|refine skipI rfl ?_)
          refine zR ?_
          repeat' (first|with_reducible refine pN ?_|refine pD ?_|refine pC (by exact hcal) ?_)
          repeat with_reducible refine cN ?_
          simp only [hjn,← hvv,hl1]
          have hT6:(toolL c3 (tlB d)).length≤1000000:=by
            have hlt:(tlB d).toNat < c3.length:=by have:=hcal.1;omega
            refine hcal.2 _ ?_
            unfold toolL getI
            rw [List.getD_eq_getElem?_getD,List.getElem?_eq_getElem hlt]
            exact List.getElem_mem _
          have hap:=ap_good hT
          generalize toolL c3 (tlB d)=T at *
          repeat' (first|with_reducible (first|apply pN|apply cN|apply bN|apply cE|apply cR|apply bR|apply lE|apply lR|apply jE|apply jR)|refine zE ?_|refine zP ?_|refine pD ?_|refine zS ?_|refine zR ?_|refine zO ?_|refine zB ?_|refine zX ?_|refine zT ?_|refine skipI rfl ?_)
          refine loopI (σ:=Nat) (fun k=>[(36,.int .i64 k)]) (fun k=>[]) (fun k=>k≤T.length) (fun k=>T.length - k) 0 rfl (fun _=>rfl) rfl ?_ ?_ ?_
          · exact Nat.zero_le _
          · repeat' (first|exact trivial|exact rfl|refine ⟨rfl,?_⟩|refine And.intro ?_ ?_)
          intro k hk
          repeat' (first|with_reducible (first|apply pN|apply cN|apply bN|apply cE|apply cR|apply bR|apply lE|apply lR|apply jE|apply jR)|refine zE ?_|refine zP ?_|refine pD ?_|refine zS ?_|refine zR ?_|refine zO ?_|refine zB ?_|refine zX ?_|refine zT ?_|refine skipI rfl ?_)
          refine condI rfl (fun c5=>?_) (fun c5=>?_)
          · simp only [decide_eq_true_eq] at c5
            have hkl:k < T.length:=by omega
            have hkn:((k:Int)).toNat=k:=by omega
            repeat' (first|with_reducible (first|apply pN|apply cN|apply bN|apply cE|apply cR|apply bR|apply lE|apply lR|apply jE|apply jR)|refine zE ?_|refine zP ?_|refine pD ?_|refine pC (by first|(simp only [hkn,hjn];omega)|(intros;omega)) ?_|refine zS ?_|refine zR ?_|refine zO ?_|refine zB ?_|refine zX ?_|refine zT ?_|refine skipI rfl ?_)
            refine condI rfl (fun c6=>?_) (fun c6=>?_)
            · exfalso
              simp only [hkn,hjn,← hvv] at c6
              have c6':((decide (owB (getI T Bk.dflt k)≠1)&&decide (stB (getI T Bk.dflt k) < v.2.2.2))&&decide (v.2.2.1 < enB (getI T Bk.dflt k)))=true:=c6
              simp only [Bool.and_eq_true,decide_eq_true_eq] at c6'
              obtain ⟨⟨k1,k2⟩,k3⟩:=c6'
              refine Pl.apartL hT (Pl.getB_memP hkl) hdT (fun e=>?_) ⟨by omega,by omega⟩
              rw [e] at k1
              exact k1 h1
            repeat' (first|with_reducible (first|apply pN|apply cN|apply bN|apply cE|apply cR|apply bR|apply lE|apply lR|apply jE|apply jR)|refine zE ?_|refine zP ?_|refine pD ?_|refine zS ?_|refine zR ?_|refine zO ?_|refine zB ?_|refine zX ?_|refine zT ?_|refine skipI rfl ?_)
            refine roundI (k+1) rfl ?_ ?_ ?_
            · show k+1≤T.length
              omega
            · show T.length - (k+1) < T.length - k
              omega
            · repeat' (first|exact trivial|with_reducible exact rfl|refine And.intro ?_ ?_)
              all_goals rfl
          · repeat' (first|with_reducible refine cN ?_|refine zS ?_|refine skipI rfl ?_)
            repeat' (first|with_reducible (first|apply pN|apply cN|apply bN|apply cE|apply cR|apply bR|apply lE|apply lR|apply jE|apply jR)|refine zE ?_|refine zP ?_|refine zS ?_|refine zO ?_|refine zB ?_|refine zX ?_|refine zT ?_|refine skipI rfl ?_)
            refine zR ?_
            repeat' (first|with_reducible refine pN ?_|refine pD ?_|fail)
            repeat with_reducible refine cN ?_
            rw [hap]
            repeat' (first|with_reducible (first|apply pN|apply cN|apply bN|apply cE|apply cR|apply bR|apply lE|apply lR|apply jE|apply jR)|refine zE ?_|refine zP ?_|refine pD ?_|refine zS ?_|refine zR ?_|refine zO ?_|refine zB ?_|refine zX ?_|refine zT ?_|refine skipI rfl ?_)
            refine condI rfl (fun c6=>?_) (fun _=>?_)
            · exact absurd c6 (by decide)
            repeat' (first|with_reducible (first|apply pN|apply cN|apply bN|apply cE|apply cR|apply bR|apply lE|apply lR|apply jE|apply jR)|refine zE ?_|refine zP ?_|refine pD ?_|refine zS ?_|refine zR ?_|refine zO ?_|refine zB ?_|refine zX ?_|refine zT ?_|refine skipI rfl ?_)
            refine roundI (j+1) rfl ?_ ?_ ?_
            · show j+1≤out.length
              omega
            · show out.length - (j+1) < out.length - j
              omega
            · repeat' (first|exact trivial|with_reducible exact rfl|refine And.intro ?_ ?_)
              all_goals rfl
        · repeat' (first|with_reducible (first|apply pN|apply cN|apply bN|apply cE|apply cR|apply bR|apply lE|apply lR|apply jE|apply jR)|refine zE ?_|refine zP ?_|refine pD ?_|refine zS ?_|refine zR ?_|refine zO ?_|refine zB ?_|refine zX ?_|refine zT ?_|refine skipI rfl ?_)
          refine endR rfl ?_
          repeat' (first|exact trivial|exact rfl|refine ⟨rfl,?_⟩|refine And.intro ?_ ?_)
end Go.AM.YtkgmmmhokgdcaaaGreat.Tp
