/- ReD, ReE, ReG. -/
import Derived.Test.YtmohhhbgcehnpaaGreatPm25
import Derived.Test.YtmohhhbgcehnpaaGreatPm23

section
set_option linter.all false
namespace Go.AM.YtmohhhbgcehnpaaGreat.Re
open Go.Proofs
set_option maxRecDepth 100000
set_option maxHeartbeats 4000000
def critS:Spec:=⟨true,fun args rows=>match args,rows with
 | [.agg [.int .i64 e,.int .i64 a,.int .i64 b,.sl (.pair (.int .i64) (.pair (.int .i64) (.pair (.pair (.int .i64) (.int .i64)) (.pair (.int .i64) (.int .i64))))) xs,.sl (.pair (.int .i64) (.pair (.int .i64) (.int .i64))) ws]],[] =>
   some ⟨True,.fn 131 [] [.ptr 0 0],[.box [.int .i64 e,.int .i64 a,.int .i64 b,.sl tStage xs,.sl tWin ws]],true⟩
 | _,_=>none⟩
theorem critOk:SpecSound Tryz.prog 104 critS:=by
 refine soundR (envOf sigNil) Tryz.func104 (c:=body Tryz.f104) rfl (by kernel_rfl) rfl ?_
 intro args rows out hf hpre
 split at hf <;> try (cases hf;done)
 rename_i e a b xs ws
 cases hf
 refine ⟨Nat.le_of_ble_eq_true rfl,initI (args:=[.agg [.int .i64 e,.int .i64 a,.int .i64 b,.sl tStage xs,.sl tWin ws]]) (rows:=[]) rfl ?_⟩
 repeat' (first|refine zN ?_|refine zE ?_|refine zP ?_|refine pD ?_|refine zS ?_|refine zR ?_|refine zO ?_|refine zB ?_|refine zX ?_|refine zT ?_|refine skipI rfl ?_)
 refine endR rfl ?_
 repeat' (first|exact trivial|exact rfl|refine ⟨rfl,?_⟩|refine And.intro ?_ ?_)
def sigCheck:List (Nat × Spec):=[(103,isSafeS),(51,Pl.validS),(104,critS),(131,critItS),(19,Pl.runS)]
theorem sigCheckOk:SigOk Tryz.prog (look sigCheck):=sigCons (sigCons (sigCons (sigCons (sigCons sigNil
 Tryz.func19 (by kernel_rfl) (c:=body Tryz.f19) rfl Pl.runOk)
 Tryz.func131 (by kernel_rfl) (c:=body Tryz.f131) rfl critItOk)
 Tryz.func104 (by kernel_rfl) (c:=body Tryz.f104) rfl critOk)
 Tryz.func51 (by kernel_rfl) (c:=body Tryz.f51) rfl Pl.validOk)
 Tryz.func103 (by kernel_rfl) (c:=body Tryz.f103) rfl isSafeOk
def lateSc (e a b:Int) (xs:List tStage.El) (ws:List tWin.El) (s:ScT):Bool:=decide ((Pl.runF e a b xs ws s.1 s.2.1 s.2.2.1 s.2.2.2.1 s.2.2.2.2).2.1.1≠0)
def lateJ (e a b:Int) (xs:List tStage.El) (ws:List tWin.El) (q:List ScT):Option AExit:=match q.getLast? with
 | some s=>bif lateSc e a b xs ws s then some .ret else none
 | none=>none
def lastSc (e a b:Int) (xs:List tStage.El) (ws:List tWin.El) (q:List ScT):ScT:=match lateJ e a b xs ws q with
 | some _=>q.getLast?.getD ([],[],0,0,0)
 | none=>([],[],0,0,0)
def checkS:Spec:=plain fun
 | [.agg [.int .i64 e,.int .i64 a,.int .i64 b,.sl (.pair (.int .i64) (.pair (.int .i64) (.pair (.pair (.int .i64) (.int .i64)) (.pair (.int .i64) (.int .i64))))) xs,.sl (.pair (.int .i64) (.pair (.int .i64) (.int .i64))) ws]] =>
   outV True (.tup [.agg [.ext .any,.ext .any,.ext .any,.ext .any,.ext .any],.bool (safeF e a b xs ws)])
 | _=>none
theorem checkOk:SpecSound Tryz.prog 66 checkS:=by
 refine soundP (envOf sigCheckOk) Tryz.func66 (c:=body Tryz.f66) rfl (by kernel_rfl) rfl ?_
 intro args out hf hpre
 split at hf <;> try (cases hf;done)
 rename_i e a b xs ws
 cases hf
 refine ⟨Nat.le_of_ble_eq_true rfl,initI (args:=[.agg [.int .i64 e,.int .i64 a,.int .i64 b,.sl tStage xs,.sl tWin ws]]) rfl ?_⟩
 repeat' (first|refine zN ?_|refine zE ?_|refine zP ?_|refine pD ?_|refine zS ?_|refine zR ?_|refine zO ?_|refine zB ?_|refine zX ?_|refine zT ?_|refine skipI rfl ?_)
 refine condI rfl (fun c1=>?_) (fun c1=>?_)
 ·repeat' (first|refine zN ?_|refine zE ?_|refine zP ?_|refine pD ?_|refine zS ?_|refine zR ?_|refine zO ?_|refine zB ?_|refine zX ?_|refine zT ?_|refine skipI rfl ?_)
  refine endR rfl ?_
  repeat' (first|exact trivial|exact rfl|refine ⟨rfl,?_⟩|refine And.intro ?_ ?_)
  exact c1
 repeat' (first|refine zN ?_|refine zE ?_|refine zP ?_|refine pD ?_|refine zS ?_|refine zR ?_|refine zO ?_|refine zB ?_|refine zX ?_|refine zT ?_|refine skipI rfl ?_)
 refine condI rfl (fun c2=>?_) (fun c2=>?_)
 ·have F:=Pl.valid_facts c2
  obtain ⟨hs1,hs2⟩:=facts_slots F
  repeat' (first|refine zN ?_|refine zE ?_|refine zP ?_|refine pD ?_|refine zS ?_|refine zR ?_|refine zO ?_|refine zB ?_|refine zX ?_|refine zT ?_|refine skipI rfl ?_)
  refine rangeI (tSc) false (fun q=>[(2,.box [.sl tInt (lastSc e a b xs ws q).1,.sl tInt (lastSc e a b xs ws q).2.1,.int .i64 (lastSc e a b xs ws q).2.2.1,.int .i64 (lastSc e a b xs ws q).2.2.2.1,.int .i64 (lastSc e a b xs ws q).2.2.2.2])]) (lateJ e a b xs ws) (critL b xs ws) 14 rfl rfl rfl rfl rfl rfl rfl rfl rfl (fun _=>rfl) (fun _=>rfl) (fun _=>rfl) rfl rfl rfl ?_ ?_ ?_ ?_ ?_ ?_
  ·exact ⟨rfl,rfl,rfl,by repeat' (first|exact trivial|exact rfl|refine And.intro ?_ ?_),by repeat' (first|exact trivial|exact rfl|refine And.intro ?_ ?_),rfl,rfl,rfl⟩
  ·repeat' (first|exact trivial|exact rfl|refine ⟨rfl,?_⟩|refine And.intro ?_ ?_)
  ·rfl
  ·intro J
   exact ⟨_,_,rfl,fun h=>⟨⟨F.n,hs2⟩,h⟩,rfl,rfl⟩
  ·intro l q x hq hjq hok
   refine ⟨_,rfl,?_⟩
   have hlast:lateJ e a b xs ws (q++[x])=bif lateSc e a b xs ws x then some .ret else none:=by unfold lateJ;rw [List.getLast?_concat]
   repeat' (first|refine zN ?_|refine zE ?_|refine zP ?_|refine pD ?_|refine zS ?_|refine zR ?_|refine zO ?_|refine zB ?_|refine zX ?_|refine zT ?_|refine skipI rfl ?_)
   refine asN ?_
   repeat' (first|refine zN ?_|refine zE ?_|refine zP ?_|refine pD ?_|refine pC (by (show xs.length≤_;have:=F.n;omega)) ?_|refine zS ?_|refine zR ?_|refine zO ?_|refine zB ?_|refine zX ?_|refine zT ?_|refine skipI rfl ?_)
   refine condI rfl (fun c3=>?_) (fun c3=>?_)
   ·have hl:lateJ e a b xs ws (q++[x])=some .ret:=by rw [hlast];unfold lateSc;rw [show decide ((Pl.runF e a b xs ws x.1 x.2.1 x.2.2.1 x.2.2.2.1 x.2.2.2.2).2.1.1≠0)=true from c3];rfl
    have hls:lastSc e a b xs ws (q++[x])=x:=by unfold lastSc;rw [hl,List.getLast?_concat];rfl
    repeat' (first|refine zN ?_|refine zE ?_|refine zP ?_|refine pD ?_|refine zS ?_|refine zR ?_|refine zO ?_|refine zB ?_|refine zX ?_|refine zT ?_|refine skipI rfl ?_)
    refine yR rfl hl ?_
    rw [hls]
    repeat' (first|exact trivial|exact rfl|refine ⟨rfl,?_⟩|refine And.intro ?_ ?_)
   ·have hl:lateJ e a b xs ws (q++[x])=none:=by rw [hlast];unfold lateSc;rw [show decide ((Pl.runF e a b xs ws x.1 x.2.1 x.2.2.1 x.2.2.2.1 x.2.2.2.2).2.1.1≠0)=false from c3];rfl
    have hls:lastSc e a b xs ws (q++[x])=lastSc e a b xs ws q:=by unfold lastSc;rw [hl,hjq]
    repeat' (first|refine zN ?_|refine zE ?_|refine zP ?_|refine pD ?_|refine zS ?_|refine zR ?_|refine zO ?_|refine zB ?_|refine zX ?_|refine zT ?_|refine skipI rfl ?_)
    refine yN rfl hl ?_
    rw [hls]
    repeat' (first|exact trivial|exact rfl|refine ⟨rfl,?_⟩|refine And.intro ?_ ?_)
  ·obtain ⟨pf,hpf⟩:∃ pf,pf=(cut (contOf (lateJ e a b xs ws)) [] (critL b xs ws)).1:=⟨_,rfl⟩
   rw [← hpf]
   cases hjf:lateJ e a b xs ws pf with
   | none =>
     repeat' (first|refine zN ?_|refine zE ?_|refine zP ?_|refine pD ?_|refine zS ?_|refine zR ?_|refine zO ?_|refine zB ?_|refine zX ?_|refine zT ?_|refine skipI rfl ?_)
     refine endR rfl ?_
     repeat' (first|exact trivial|exact rfl|refine ⟨rfl,?_⟩|refine And.intro ?_ ?_)
     exact c1
   | some ex =>
     have hex:ex=.ret:=by
      unfold lateJ at hjf
      split at hjf
      ·rename_i s _
       cases hl:lateSc e a b xs ws s
       ·rw [hl] at hjf;cases hjf
       ·rw [hl] at hjf;exact (Option.some.inj hjf).symm
      ·cases hjf
     subst hex
     repeat' (first|refine zN ?_|refine zE ?_|refine zP ?_|refine pD ?_|refine zS ?_|refine zR ?_|refine zO ?_|refine zB ?_|refine zX ?_|refine zT ?_|refine skipI rfl ?_)
     refine endR rfl ?_
     repeat' (first|exact trivial|exact rfl|refine ⟨rfl,?_⟩|refine And.intro ?_ ?_)
     exact c1
 ·repeat' (first|refine zN ?_|refine zE ?_|refine zP ?_|refine pD ?_|refine zS ?_|refine zR ?_|refine zO ?_|refine zB ?_|refine zX ?_|refine zT ?_|refine skipI rfl ?_)
  refine endR rfl ?_
  repeat' (first|exact trivial|exact rfl|refine ⟨rfl,?_⟩|refine And.intro ?_ ?_)
  exact c1
end Go.AM.YtmohhhbgcehnpaaGreat.Re
end

section
set_option linter.all false
namespace Go.AM.YtmohhhbgcehnpaaGreat.Re
open Go.Proofs
set_option maxRecDepth 100000
set_option maxHeartbeats 4000000
abbrev tNeed:Ty:=.pair (.slice (.int .i64)) (.pair (.int .i64) (.int .i64))
abbrev tPair:Ty:=.pair (.int .i64) (.int .i64)
abbrev NeedT:=List Int × Int × Int
abbrev PairT:=Int × Int
def rowOf (tools:List Int) (a:Int) (rest:PairT→List (List PairT)):List (List PairT):=tools.flatMap fun b=>bif decide (a≠b) then rest (a,b) else []
def chL:List NeedT→List PairT→List (List PairT)
 | [],l=>[l]
 | x::r,l=>x.1.flatMap fun a=>rowOf x.1 a fun ab=>chL r (l++[ab])
def clipS:Spec:=⟨true,fun args rows=>match args,rows with
 | [.sl (.pair (.int .i64) (.int .i64)) xs],[]=>some ⟨xs.length≤1000000,.ext (.full tPair xs),[],true⟩
 | _,_=>none⟩
theorem clipOk:SpecSound Tryz.prog 100 clipS:=by
 refine soundR (envOf sigNil) Tryz.func100 (c:=body Tryz.f100) rfl (by kernel_rfl) rfl ?_
 intro args rows out hf hpre
 split at hf <;> try (cases hf;done)
 rename_i xs
 cases hf
 refine ⟨Nat.le_of_ble_eq_true rfl,initI (args:=[.sl tPair xs]) (rows:=[]) rfl ?_⟩
 repeat' (first|refine zN ?_|refine zE ?_|refine zP ?_|refine pD ?_|refine zS ?_|refine zR ?_|refine zO ?_|refine zB ?_|refine zX ?_|refine zT ?_|refine skipI rfl ?_)
 refine endR rfl ?_
 repeat' (first|exact trivial|exact rfl|refine ⟨rfl,?_⟩|refine And.intro ?_ ?_)
 simp
def NeedsSm (ns:List tNeed.El):Prop:=ns.length≤1000∧∀ x∈ns,List.length (α:=Int) x.1≤1000
def extS (n:Nat):Spec:=⟨true,fun args rows=>match args,rows with
 | [.sl (.pair (.int .i64) (.int .i64)) l,.ptr 0 0,.ptr 1 0,.ptr 2 0],[.box [.sl (.pair (.slice (.int .i64)) (.pair (.int .i64) (.int .i64))) ns],.box [.own 3],.box [.fn 99 [] [.ptr 0 0,.ptr 1 0,.ptr 2 0]],.yp 4,.yld (.slice (.pair (.int .i64) (.int .i64))) false Y p] =>
   some ⟨((l.length≤ns.length∧ns.length < l.length+n)∧NeedsSm ns)∧YGo Y p (chL (ns.drop l.length) l),.bool (cut Y.cont p (chL (ns.drop l.length) l)).2,
    [.box [.sl tNeed ns],.box [.own 3],.box [.fn 99 [] [.ptr 0 0,.ptr 1 0,.ptr 2 0]],.yp 5,.dead,.yld (.slice tPair) false Y (cut Y.cont p (chL (ns.drop l.length) l)).1],true⟩
 | [.own 0,.ptr 1 0,.ptr 2 0,.ptr 3 0],[.seq (.pair (.int .i64) (.int .i64)) l,.box [.sl (.pair (.slice (.int .i64)) (.pair (.int .i64) (.int .i64))) ns],.box [.own 4],.box [.fn 99 [] [.ptr 1 0,.ptr 2 0,.ptr 3 0]],.yp 5,.yld (.slice (.pair (.int .i64) (.int .i64))) false Y p] =>
   some ⟨((l.length≤ns.length∧ns.length < l.length+n)∧NeedsSm ns)∧YGo Y p (chL (ns.drop l.length) l),.bool (cut Y.cont p (chL (ns.drop l.length) l)).2,
    [.dead,.box [.sl tNeed ns],.box [.own 4],.box [.fn 99 [] [.ptr 1 0,.ptr 2 0,.ptr 3 0]],.yp 6,.dead,.yld (.slice tPair) false Y (cut Y.cont p (chL (ns.drop l.length) l)).1],true⟩
 | _,_=>none⟩
def sigExt (n:Nat):List (Nat × Spec):=[(99,extS n),(100,clipS)]
theorem sigExtOk {n:Nat} (h:SpecSound Tryz.prog 99 (extS n)):SigOk Tryz.prog (look (sigExt n)):=sigCons (sigCons sigNil
 Tryz.func100 (by kernel_rfl) (c:=body Tryz.f100) rfl clipOk)
 Tryz.func99 (by kernel_rfl) (c:=body Tryz.f99) rfl h
theorem ext_base:SpecSound Tryz.prog 99 (extS 0):=by
 intro args rows out hf hpre
 exfalso
 dsimp only [extS] at hf
 split at hf <;> try (cases hf;done)
 ·cases hf
  obtain ⟨⟨⟨h1,h2⟩,_⟩,_⟩:=hpre
  omega
 ·cases hf
  obtain ⟨⟨⟨h1,h2⟩,_⟩,_⟩:=hpre
  omega
theorem ext_step {n:Nat} (ih:SpecSound Tryz.prog 99 (extS n)):SpecSound Tryz.prog 99 (extS (n+1)):=by
 refine soundR (envOf (sigExtOk ih)) Tryz.func99 (c:=body Tryz.f99) rfl (by kernel_rfl) rfl ?_
 intro args rows out hf hpre
 unfold extS at hf
 split at hf <;> try (cases hf;done)
 ·rename_i l ns Y p
  cases hf
  obtain ⟨⟨⟨hl1,hl2⟩,hns⟩,hgo⟩:=hpre
  have hnl:=hns.1
  obtain ⟨tot,htot⟩:∃ tot,tot=cut Y.cont p (chL (ns.drop l.length) l):=⟨_,rfl⟩
  rw [← htot]
  refine ⟨Nat.le_of_ble_eq_true rfl,initI (args:=[.sl tPair l,.ptr 0 0,.ptr 1 0,.ptr 2 0]) (rows:=[.box [.sl tNeed ns],.box [.own 3],.box [.fn 99 [] [.ptr 0 0,.ptr 1 0,.ptr 2 0]],.yp 4,.yld (.slice tPair) false Y p]) rfl ?_⟩
  refine renameI 100004 3000 rfl ?_
  repeat' (first|refine zN ?_|refine zE ?_|refine zP ?_|refine pD ?_|refine zS ?_|refine zR ?_|refine zO ?_|refine zB ?_|refine zX ?_|refine zT ?_|refine skipI rfl ?_)
  refine condI rfl (fun c1=>?_) (fun c1=>?_)
  ·simp only [decide_eq_true_eq] at c1
   have hd:ns.drop l.length=[]:=List.drop_eq_nil_of_le (by omega)
   rw [hd] at hgo htot
   obtain ⟨hg1,_⟩:=hgo
   have hg1:Y.ok (p++[l]):=hg1
   have htot:tot=(bif Y.cont (p++[l]) then (p++[l],true) else (p++[l],false)):=htot
   have ht1:tot.1=p++[l]:=by rw [htot];cases Y.cont (p++[l]) <;> rfl
   have ht2:tot.2=Y.cont (p++[l]):=by rw [htot];cases Y.cont (p++[l]) <;> rfl
   repeat' (first|refine zN ?_|refine zE ?_|refine zP ?_|refine pD ?_|refine pC (by exact hg1) ?_|refine zS ?_|refine zR ?_|refine zO ?_|refine zB ?_|refine zX ?_|refine zT ?_|refine skipI rfl ?_)
   refine endR rfl ?_
   rw [ht1,ht2]
   repeat' (first|exact trivial|exact rfl|refine ⟨rfl,?_⟩|refine And.intro ?_ ?_)
  simp only [decide_eq_false_iff_not] at c1
  have hll:l.length < ns.length:=by omega
  obtain ⟨tools,htools⟩:∃ tools:List Int,tools=(getI ns tNeed.dflt l.length).1:=⟨_,rfl⟩
  have htl:tools.length≤1000:=by rw [htools];exact hns.2 _ (Pl.getI_mem hll)
  obtain ⟨rest,hrest⟩:∃ rest:PairT→List (List PairT),rest=fun ab=>chL (ns.drop (l.length+1)) (l++[ab]):=⟨_,rfl⟩
  have hch:chL (ns.drop l.length) l=tools.flatMap fun a=>rowOf tools a rest:=by rw [drop_getI (d:=tNeed.dflt) hll,htools,hrest];rfl
  rw [hch] at hgo htot
  repeat' (first|refine zN ?_|refine zE ?_|refine zP ?_|refine pD ?_|refine pC (by (simp only [Int.toNat_natCast];omega)) ?_|refine zS ?_|refine zR ?_|refine zO ?_|refine zB ?_|refine zX ?_|refine zT ?_|refine skipI rfl ?_)
  simp only [Int.toNat_natCast,← htools]
  refine loopI (σ:=Nat × List (List PairT)) (fun s=>[(27,.int .i64 s.1)]) (fun s=>[(100003,.yp 3000),(3000,.yld (.slice tPair) false Y s.2)]) (fun s=>s.1≤tools.length∧YGo Y s.2 ((tools.drop s.1).flatMap fun a=>rowOf tools a rest)∧tot=cut Y.cont s.2 ((tools.drop s.1).flatMap fun a=>rowOf tools a rest)) (fun s=>tools.length - s.1) (0,p) rfl (fun _=>rfl) rfl ?_ ?_ ?_
  ·exact ⟨Nat.zero_le _,hgo,htot⟩
  ·repeat' (first|exact trivial|with_reducible exact rfl|refine And.intro ?_ ?_)
   all_goals rfl
  rintro ⟨i,q⟩ ⟨hi,hq1,hq2⟩
  dsimp only at hi hq1 hq2 ⊢
  repeat' (first|refine zN ?_|refine zE ?_|refine zP ?_|refine pD ?_|refine zS ?_|refine zR ?_|refine zO ?_|refine zB ?_|refine zX ?_|refine zT ?_|refine skipI rfl ?_)
  refine condI rfl (fun c2=>?_) (fun c2=>?_)
  ·simp only [decide_eq_true_eq] at c2
   have hil:i < tools.length:=by omega
   have hin:((i:Int)).toNat=i:=by omega
   obtain ⟨a,ha⟩:∃ a:Int,a=getI tools (Ty.int .i64).dflt i:=⟨_,rfl⟩
   rw [drop_getI (d:=(Ty.int .i64).dflt) hil,List.flatMap_cons,← ha] at hq1 hq2
   repeat' (first|refine zN ?_|refine zE ?_|refine zP ?_|refine pD ?_|refine zS ?_|refine zR ?_|refine zO ?_|refine zB ?_|refine zX ?_|refine zT ?_|refine skipI rfl ?_)
   simp only [hin]
   refine loopI (σ:=Nat × List (List PairT)) (fun s=>[(33,.int .i64 s.1)]) (fun s=>[(100003,.yp 3001),(3001,.yld (.slice tPair) false Y s.2)]) (fun s=>s.1≤tools.length∧YGo Y s.2 (rowOf (tools.drop s.1) a rest++(tools.drop (i+1)).flatMap fun a=>rowOf tools a rest)∧tot=cut Y.cont s.2 (rowOf (tools.drop s.1) a rest++(tools.drop (i+1)).flatMap fun a=>rowOf tools a rest)) (fun s=>tools.length - s.1) (0,q) rfl (fun _=>rfl) rfl ?_ ?_ ?_
   ·exact ⟨Nat.zero_le _,hq1,hq2⟩
   ·repeat' (first|exact trivial|with_reducible exact rfl|refine And.intro ?_ ?_)
    all_goals rfl
   rintro ⟨j,r⟩ ⟨hj,hr1,hr2⟩
   dsimp only at hj hr1 hr2 ⊢
   repeat' (first|refine zN ?_|refine zE ?_|refine zP ?_|refine pD ?_|refine zS ?_|refine zR ?_|refine zO ?_|refine zB ?_|refine zX ?_|refine zT ?_|refine skipI rfl ?_)
   refine condI rfl (fun c3=>?_) (fun c3=>?_)
   ·simp only [decide_eq_true_eq] at c3
    have hjl:j < tools.length:=by omega
    have hjn:((j:Int)).toNat=j:=by omega
    obtain ⟨b,hb⟩:∃ b:Int,b=getI tools (Ty.int .i64).dflt j:=⟨_,rfl⟩
    rw [drop_getI (d:=(Ty.int .i64).dflt) hjl,← hb] at hr1 hr2
    have hrow:rowOf (b::tools.drop (j+1)) a rest=(bif decide (a≠b) then rest (a,b) else [])++rowOf (tools.drop (j+1)) a rest:=rfl
    rw [hrow] at hr1 hr2
    repeat' (first|refine zN ?_|refine zE ?_|refine zP ?_|refine zS ?_|refine zO ?_|refine zB ?_|refine zX ?_|refine zT ?_|refine skipI rfl ?_)
    refine zR ?_
    repeat' (first|with_reducible refine pN ?_|refine pD ?_|fail)
    repeat with_reducible refine cN ?_
    by_cases hab:a=b
    ·rw [show decide (a≠b)=false by simpa using hab] at hr1 hr2
     have hab':(decide (getI tools (Ty.int .i64).dflt i≠getI tools (Ty.int .i64).dflt j))=false:=by rw [← ha,← hb];simpa using hab
     repeat' (first|with_reducible refine cN ?_|refine zS ?_|fail)
     refine regH [(40,false)] rfl ?_
     repeat' (first|with_reducible refine pN ?_|refine pC (by first|(simp only [hin,hjn];exact hab')|rfl|trivial) ?_)
     repeat' (first|with_reducible refine cN ?_|refine zS ?_|fail)
     refine condF rfl ?_
     repeat' (first|refine zN ?_|refine zE ?_|refine zP ?_|refine pD ?_|refine zS ?_|refine zR ?_|refine zO ?_|refine zB ?_|refine zX ?_|refine zT ?_|refine skipI rfl ?_)
     refine roundI (j+1,r) rfl ?_ ?_ ?_
     ·exact ⟨by show j+1≤tools.length;omega,hr1,hr2⟩
     ·show tools.length - (j+1) < tools.length - j
      omega
     ·repeat' (first|exact trivial|with_reducible exact rfl|refine And.intro ?_ ?_)
      all_goals rfl
    ·rw [show decide (a≠b)=true by simpa using hab,cond_true,List.append_assoc] at hr1 hr2
     have hab':(decide (getI tools (Ty.int .i64).dflt i≠getI tools (Ty.int .i64).dflt j))=true:=by rw [← ha,← hb];simpa using hab
     rw [YGo_app] at hr1
     rw [cut_app] at hr2
     obtain ⟨hs1,hs2⟩:=hr1
     obtain ⟨ct,hct⟩:∃ ct,ct=cut Y.cont r (rest (a,b)):=⟨_,rfl⟩
     have hct':cut Y.cont r (chL (ns.drop (l++[(a,b)]).length) (l++[(a,b)]))=ct:=by rw [hct,hrest,List.length_append];rfl
     have hpx:((((l++[(a,b)]).length≤ns.length∧ns.length < (l++[(a,b)]).length+n)∧NeedsSm ns)∧YGo Y r (chL (ns.drop (l++[(a,b)]).length) (l++[(a,b)]))):=by
      refine ⟨⟨⟨?_,?_⟩,hns⟩,?_⟩
      ·rw [List.length_append];show l.length+1≤_;omega
      ·rw [List.length_append];show _ < l.length+1+n;omega
      ·rw [hrest] at hs1;rw [List.length_append];exact hs1
     repeat' (first|with_reducible refine cN ?_|refine zS ?_|fail)
     refine regH [(40,true)] rfl ?_
     repeat' (first|with_reducible refine pN ?_|refine pC (by first|(simp only [hin,hjn];exact hab')|rfl|trivial|(simp only [hin,hjn,← ha,← hb];exact hpx)|omega|exact Nat.one_pos|(show (l.length+1) * 16≤_;omega)) ?_)
     simp only [hin,hjn,← ha,← hb,hct']
     repeat' (first|with_reducible refine cN ?_|refine zS ?_|fail)
     refine condI rfl (fun c4=>?_) (fun c4=>?_)
     ·have hc2:ct.2=false:=by simpa using c4
      rw [← hct,hc2] at hr2
      have hr2:tot=ct:=hr2
      repeat' (first|refine zN ?_|refine zE ?_|refine zP ?_|refine pD ?_|refine zS ?_|refine zR ?_|refine zO ?_|refine zB ?_|refine zX ?_|refine zT ?_|refine skipI rfl ?_)
      refine endR rfl ?_
      rw [hr2,hc2]
      repeat' (first|exact trivial|exact rfl|refine ⟨rfl,?_⟩|refine And.intro ?_ ?_)
     ·have hc2:ct.2=true:=by simpa using c4
      rw [← hct,hc2] at hr2
      rw [← hct] at hs2
      have hr2:tot=cut Y.cont ct.1 _:=hr2
      repeat' (first|refine zN ?_|refine zE ?_|refine zP ?_|refine pD ?_|refine zS ?_|refine zR ?_|refine zO ?_|refine zB ?_|refine zX ?_|refine zT ?_|refine skipI rfl ?_)
      refine roundI (j+1,ct.1) rfl ?_ ?_ ?_
      ·exact ⟨by show j+1≤tools.length;omega,hs2 hc2,hr2⟩
      ·show tools.length - (j+1) < tools.length - j
       omega
      ·repeat' (first|exact trivial|with_reducible exact rfl|refine And.intro ?_ ?_)
       all_goals rfl
   ·simp only [decide_eq_false_iff_not] at c3
    rw [List.drop_eq_nil_of_le (by omega)] at hr1 hr2
    repeat' (first|refine zN ?_|refine zE ?_|refine zP ?_|refine pD ?_|refine zS ?_|refine zR ?_|refine zO ?_|refine zB ?_|refine zX ?_|refine zT ?_|refine skipI rfl ?_)
    refine roundI (i+1,r) rfl ?_ ?_ ?_
    ·exact ⟨by show i+1≤tools.length;omega,hr1,hr2⟩
    ·show tools.length - (i+1) < tools.length - i
     omega
    ·repeat' (first|exact trivial|with_reducible exact rfl|refine And.intro ?_ ?_)
     all_goals rfl
  ·simp only [decide_eq_false_iff_not] at c2
   rw [List.drop_eq_nil_of_le (by omega)] at hq2
   have hq2:tot=(q,true):=hq2
   repeat' (first|refine zN ?_|refine zE ?_|refine zP ?_|refine pD ?_|refine zS ?_|refine zR ?_|refine zO ?_|refine zB ?_|refine zX ?_|refine zT ?_|refine skipI rfl ?_)
   refine endR rfl ?_
   rw [hq2]
   repeat' (first|exact trivial|exact rfl|refine ⟨rfl,?_⟩|refine And.intro ?_ ?_)
 ·rename_i l ns Y p
  cases hf
  obtain ⟨⟨⟨hl1,hl2⟩,hns⟩,hgo⟩:=hpre
  have hnl:=hns.1
  obtain ⟨tot,htot⟩:∃ tot,tot=cut Y.cont p (chL (ns.drop l.length) l):=⟨_,rfl⟩
  rw [← htot]
  refine ⟨Nat.le_of_ble_eq_true rfl,initI (args:=[.own 0,.ptr 1 0,.ptr 2 0,.ptr 3 0]) (rows:=[.seq tPair l,.box [.sl tNeed ns],.box [.own 4],.box [.fn 99 [] [.ptr 1 0,.ptr 2 0,.ptr 3 0]],.yp 5,.yld (.slice tPair) false Y p]) rfl ?_⟩
  refine freezeI 100000 rfl ?_
  refine renameI 100005 3000 rfl ?_
  repeat' (first|refine zN ?_|refine zE ?_|refine zP ?_|refine pD ?_|refine zS ?_|refine zR ?_|refine zO ?_|refine zB ?_|refine zX ?_|refine zT ?_|refine skipI rfl ?_)
  refine condI rfl (fun c1=>?_) (fun c1=>?_)
  ·simp only [decide_eq_true_eq] at c1
   have hd:ns.drop l.length=[]:=List.drop_eq_nil_of_le (by omega)
   rw [hd] at hgo htot
   obtain ⟨hg1,_⟩:=hgo
   have hg1:Y.ok (p++[l]):=hg1
   have htot:tot=(bif Y.cont (p++[l]) then (p++[l],true) else (p++[l],false)):=htot
   have ht1:tot.1=p++[l]:=by rw [htot];cases Y.cont (p++[l]) <;> rfl
   have ht2:tot.2=Y.cont (p++[l]):=by rw [htot];cases Y.cont (p++[l]) <;> rfl
   repeat' (first|refine zN ?_|refine zE ?_|refine zP ?_|refine pD ?_|refine pC (by exact hg1) ?_|refine zS ?_|refine zR ?_|refine zO ?_|refine zB ?_|refine zX ?_|refine zT ?_|refine skipI rfl ?_)
   refine endR rfl ?_
   rw [ht1,ht2]
   repeat' (first|exact trivial|exact rfl|refine ⟨rfl,?_⟩|refine And.intro ?_ ?_)
  simp only [decide_eq_false_iff_not] at c1
  have hll:l.length < ns.length:=by omega
  obtain ⟨tools,htools⟩:∃ tools:List Int,tools=(getI ns tNeed.dflt l.length).1:=⟨_,rfl⟩
  have htl:tools.length≤1000:=by rw [htools];exact hns.2 _ (Pl.getI_mem hll)
  obtain ⟨rest,hrest⟩:∃ rest:PairT→List (List PairT),rest=fun ab=>chL (ns.drop (l.length+1)) (l++[ab]):=⟨_,rfl⟩
  have hch:chL (ns.drop l.length) l=tools.flatMap fun a=>rowOf tools a rest:=by rw [drop_getI (d:=tNeed.dflt) hll,htools,hrest];rfl
  rw [hch] at hgo htot
  repeat' (first|refine zN ?_|refine zE ?_|refine zP ?_|refine pD ?_|refine pC (by (simp only [Int.toNat_natCast];omega)) ?_|refine zS ?_|refine zR ?_|refine zO ?_|refine zB ?_|refine zX ?_|refine zT ?_|refine skipI rfl ?_)
  simp only [Int.toNat_natCast,← htools]
  refine loopI (σ:=Nat × List (List PairT)) (fun s=>[(27,.int .i64 s.1)]) (fun s=>[(100004,.yp 3000),(3000,.yld (.slice tPair) false Y s.2)]) (fun s=>s.1≤tools.length∧YGo Y s.2 ((tools.drop s.1).flatMap fun a=>rowOf tools a rest)∧tot=cut Y.cont s.2 ((tools.drop s.1).flatMap fun a=>rowOf tools a rest)) (fun s=>tools.length - s.1) (0,p) rfl (fun _=>rfl) rfl ?_ ?_ ?_
  ·exact ⟨Nat.zero_le _,hgo,htot⟩
  ·repeat' (first|exact trivial|with_reducible exact rfl|refine And.intro ?_ ?_)
   all_goals rfl
  rintro ⟨i,q⟩ ⟨hi,hq1,hq2⟩
  dsimp only at hi hq1 hq2 ⊢
  repeat' (first|refine zN ?_|refine zE ?_|refine zP ?_|refine pD ?_|refine zS ?_|refine zR ?_|refine zO ?_|refine zB ?_|refine zX ?_|refine zT ?_|refine skipI rfl ?_)
  refine condI rfl (fun c2=>?_) (fun c2=>?_)
  ·simp only [decide_eq_true_eq] at c2
   have hil:i < tools.length:=by omega
   have hin:((i:Int)).toNat=i:=by omega
   obtain ⟨a,ha⟩:∃ a:Int,a=getI tools (Ty.int .i64).dflt i:=⟨_,rfl⟩
   rw [drop_getI (d:=(Ty.int .i64).dflt) hil,List.flatMap_cons,← ha] at hq1 hq2
   repeat' (first|refine zN ?_|refine zE ?_|refine zP ?_|refine pD ?_|refine zS ?_|refine zR ?_|refine zO ?_|refine zB ?_|refine zX ?_|refine zT ?_|refine skipI rfl ?_)
   simp only [hin]
   refine loopI (σ:=Nat × List (List PairT)) (fun s=>[(33,.int .i64 s.1)]) (fun s=>[(100004,.yp 3001),(3001,.yld (.slice tPair) false Y s.2)]) (fun s=>s.1≤tools.length∧YGo Y s.2 (rowOf (tools.drop s.1) a rest++(tools.drop (i+1)).flatMap fun a=>rowOf tools a rest)∧tot=cut Y.cont s.2 (rowOf (tools.drop s.1) a rest++(tools.drop (i+1)).flatMap fun a=>rowOf tools a rest)) (fun s=>tools.length - s.1) (0,q) rfl (fun _=>rfl) rfl ?_ ?_ ?_
   ·exact ⟨Nat.zero_le _,hq1,hq2⟩
   ·repeat' (first|exact trivial|with_reducible exact rfl|refine And.intro ?_ ?_)
    all_goals rfl
   rintro ⟨j,r⟩ ⟨hj,hr1,hr2⟩
   dsimp only at hj hr1 hr2 ⊢
   repeat' (first|refine zN ?_|refine zE ?_|refine zP ?_|refine pD ?_|refine zS ?_|refine zR ?_|refine zO ?_|refine zB ?_|refine zX ?_|refine zT ?_|refine skipI rfl ?_)
   refine condI rfl (fun c3=>?_) (fun c3=>?_)
   ·simp only [decide_eq_true_eq] at c3
    have hjl:j < tools.length:=by omega
    have hjn:((j:Int)).toNat=j:=by omega
    obtain ⟨b,hb⟩:∃ b:Int,b=getI tools (Ty.int .i64).dflt j:=⟨_,rfl⟩
    rw [drop_getI (d:=(Ty.int .i64).dflt) hjl,← hb] at hr1 hr2
    have hrow:rowOf (b::tools.drop (j+1)) a rest=(bif decide (a≠b) then rest (a,b) else [])++rowOf (tools.drop (j+1)) a rest:=rfl
    rw [hrow] at hr1 hr2
    repeat' (first|refine zN ?_|refine zE ?_|refine zP ?_|refine zS ?_|refine zO ?_|refine zB ?_|refine zX ?_|refine zT ?_|refine skipI rfl ?_)
    refine zR ?_
    repeat' (first|with_reducible refine pN ?_|refine pD ?_|fail)
    repeat with_reducible refine cN ?_
    by_cases hab:a=b
    ·rw [show decide (a≠b)=false by simpa using hab] at hr1 hr2
     have hab':(decide (getI tools (Ty.int .i64).dflt i≠getI tools (Ty.int .i64).dflt j))=false:=by rw [← ha,← hb];simpa using hab
     repeat' (first|with_reducible refine cN ?_|refine zS ?_|fail)
     refine regH [(40,false)] rfl ?_
     repeat' (first|with_reducible refine pN ?_|refine pC (by first|(simp only [hin,hjn];exact hab')|rfl|trivial) ?_)
     repeat' (first|with_reducible refine cN ?_|refine zS ?_|fail)
     refine condF rfl ?_
     repeat' (first|refine zN ?_|refine zE ?_|refine zP ?_|refine pD ?_|refine zS ?_|refine zR ?_|refine zO ?_|refine zB ?_|refine zX ?_|refine zT ?_|refine skipI rfl ?_)
     refine roundI (j+1,r) rfl ?_ ?_ ?_
     ·exact ⟨by show j+1≤tools.length;omega,hr1,hr2⟩
     ·show tools.length - (j+1) < tools.length - j
      omega
     ·repeat' (first|exact trivial|with_reducible exact rfl|refine And.intro ?_ ?_)
      all_goals rfl
    ·rw [show decide (a≠b)=true by simpa using hab,cond_true,List.append_assoc] at hr1 hr2
     have hab':(decide (getI tools (Ty.int .i64).dflt i≠getI tools (Ty.int .i64).dflt j))=true:=by rw [← ha,← hb];simpa using hab
     rw [YGo_app] at hr1
     rw [cut_app] at hr2
     obtain ⟨hs1,hs2⟩:=hr1
     obtain ⟨ct,hct⟩:∃ ct,ct=cut Y.cont r (rest (a,b)):=⟨_,rfl⟩
     have hct':cut Y.cont r (chL (ns.drop (l++[(a,b)]).length) (l++[(a,b)]))=ct:=by rw [hct,hrest,List.length_append];rfl
     have hpx:((((l++[(a,b)]).length≤ns.length∧ns.length < (l++[(a,b)]).length+n)∧NeedsSm ns)∧YGo Y r (chL (ns.drop (l++[(a,b)]).length) (l++[(a,b)]))):=by
      refine ⟨⟨⟨?_,?_⟩,hns⟩,?_⟩
      ·rw [List.length_append];show l.length+1≤_;omega
      ·rw [List.length_append];show _ < l.length+1+n;omega
      ·rw [hrest] at hs1;rw [List.length_append];exact hs1
     repeat' (first|with_reducible refine cN ?_|refine zS ?_|fail)
     refine regH [(40,true)] rfl ?_
     repeat' (first|with_reducible refine pN ?_|refine pC (by first|(simp only [hin,hjn];exact hab')|rfl|trivial|(simp only [hin,hjn,← ha,← hb];exact hpx)|omega|exact Nat.one_pos|(show (l.length+1) * 16≤_;omega)) ?_)
     simp only [hin,hjn,← ha,← hb,hct']
     repeat' (first|with_reducible refine cN ?_|refine zS ?_|fail)
     refine condI rfl (fun c4=>?_) (fun c4=>?_)
     ·have hc2:ct.2=false:=by simpa using c4
      rw [← hct,hc2] at hr2
      have hr2:tot=ct:=hr2
      repeat' (first|refine zN ?_|refine zE ?_|refine zP ?_|refine pD ?_|refine zS ?_|refine zR ?_|refine zO ?_|refine zB ?_|refine zX ?_|refine zT ?_|refine skipI rfl ?_)
      refine endR rfl ?_
      rw [hr2,hc2]
      repeat' (first|exact trivial|exact rfl|refine ⟨rfl,?_⟩|refine And.intro ?_ ?_)
     ·have hc2:ct.2=true:=by simpa using c4
      rw [← hct,hc2] at hr2
      rw [← hct] at hs2
      have hr2:tot=cut Y.cont ct.1 _:=hr2
      repeat' (first|refine zN ?_|refine zE ?_|refine zP ?_|refine pD ?_|refine zS ?_|refine zR ?_|refine zO ?_|refine zB ?_|refine zX ?_|refine zT ?_|refine skipI rfl ?_)
      refine roundI (j+1,ct.1) rfl ?_ ?_ ?_
      ·exact ⟨by show j+1≤tools.length;omega,hs2 hc2,hr2⟩
      ·show tools.length - (j+1) < tools.length - j
       omega
      ·repeat' (first|exact trivial|with_reducible exact rfl|refine And.intro ?_ ?_)
       all_goals rfl
   ·simp only [decide_eq_false_iff_not] at c3
    rw [List.drop_eq_nil_of_le (by omega)] at hr1 hr2
    repeat' (first|refine zN ?_|refine zE ?_|refine zP ?_|refine pD ?_|refine zS ?_|refine zR ?_|refine zO ?_|refine zB ?_|refine zX ?_|refine zT ?_|refine skipI rfl ?_)
    refine roundI (i+1,r) rfl ?_ ?_ ?_
    ·exact ⟨by show i+1≤tools.length;omega,hr1,hr2⟩
    ·show tools.length - (i+1) < tools.length - i
     omega
    ·repeat' (first|exact trivial|with_reducible exact rfl|refine And.intro ?_ ?_)
     all_goals rfl
  ·simp only [decide_eq_false_iff_not] at c2
   rw [List.drop_eq_nil_of_le (by omega)] at hq2
   have hq2:tot=(q,true):=hq2
   repeat' (first|refine zN ?_|refine zE ?_|refine zP ?_|refine pD ?_|refine zS ?_|refine zR ?_|refine zO ?_|refine zB ?_|refine zX ?_|refine zT ?_|refine skipI rfl ?_)
   refine endR rfl ?_
   rw [hq2]
   repeat' (first|exact trivial|exact rfl|refine ⟨rfl,?_⟩|refine And.intro ?_ ?_)
end Go.AM.YtmohhhbgcehnpaaGreat.Re
end

section
set_option linter.all false
namespace Go.AM.YtmohhhbgcehnpaaGreat.Re
open Go.Proofs
set_option maxRecDepth 100000
set_option maxHeartbeats 4000000
theorem extOk:∀ n,SpecSound Tryz.prog 99 (extS n)
 | 0=>ext_base
 | n+1=>ext_step (extOk n)
def sigChIt:List (Nat × Spec):=[(99,(extS 1001).norm [.sl tPair])]
theorem sigChItOk:SigOk Tryz.prog (look sigChIt):=sigCons sigNil
 Tryz.func99 (by kernel_rfl) (c:=body Tryz.f99) rfl ((extOk 1001).norm _)
def chItS:Spec:=⟨true,fun args rows=>match args,rows with
 | [.own 0,.ptr 2 0],[.yp 1,.yld (.slice (.pair (.int .i64) (.int .i64))) false Y p,.box [.sl (.pair (.slice (.int .i64)) (.pair (.int .i64) (.int .i64))) ns]] =>
   some ⟨NeedsSm ns∧YGo Y p (chL ns []),.tup [],
    [.yp 3,.dead,.box [.sl tNeed ns],.yld (.slice tPair) false Y (cut Y.cont p (chL ns [])).1],true⟩
 | _,_=>none⟩
theorem chItOk:SpecSound Tryz.prog 98 chItS:=by
 refine soundR (envOf sigChItOk) Tryz.func98 (c:=body Tryz.f98) rfl (by kernel_rfl) rfl ?_
 intro args rows out hf hpre
 split at hf <;> try (cases hf;done)
 rename_i Y p ns
 cases hf
 refine ⟨Nat.le_of_ble_eq_true rfl,initI (args:=[.own 0,.ptr 2 0]) (rows:=[.yp 1,.yld (.slice tPair) false Y p,.box [.sl tNeed ns]]) rfl ?_⟩
 obtain ⟨hns,hgo⟩:=hpre
 have hnl:=hns.1
 repeat' (first|refine zN ?_|refine zE ?_|refine zP ?_|refine pD ?_|refine pC (by (exact ⟨⟨⟨Nat.zero_le _,by show ns.length < 0+1001;omega⟩,hns⟩,hgo⟩)) ?_|refine zS ?_|refine zR ?_|refine zO ?_|refine zB ?_|refine zX ?_|refine zT ?_|refine skipI rfl ?_)
 refine endN rfl ?_
 repeat' (first|exact trivial|exact rfl|refine ⟨rfl,?_⟩|refine And.intro ?_ ?_)
def choicesS:Spec:=⟨true,fun args rows=>match args,rows with
 | [.sl (.pair (.slice (.int .i64)) (.pair (.int .i64) (.int .i64))) ns],[] =>
   some ⟨True,.fn 98 [] [.ptr 0 0],[.box [.sl tNeed ns]],true⟩
 | _,_=>none⟩
theorem choicesOk:SpecSound Tryz.prog 63 choicesS:=by
 refine soundR (envOf sigNil) Tryz.func63 (c:=body Tryz.f63) rfl (by kernel_rfl) rfl ?_
 intro args rows out hf hpre
 split at hf <;> try (cases hf;done)
 rename_i ns
 cases hf
 refine ⟨Nat.le_of_ble_eq_true rfl,initI (args:=[.sl tNeed ns]) (rows:=[]) rfl ?_⟩
 repeat' (first|refine zN ?_|refine zE ?_|refine zP ?_|refine pD ?_|refine zS ?_|refine zR ?_|refine zO ?_|refine zB ?_|refine zX ?_|refine zT ?_|refine skipI rfl ?_)
 refine endR rfl ?_
 repeat' (first|exact trivial|exact rfl|refine ⟨rfl,?_⟩|refine And.intro ?_ ?_)
end Go.AM.YtmohhhbgcehnpaaGreat.Re
end
