/- ReP, ReQ, ReT. -/
import Derived.Test.YtkgmmmhokgdcaaaGreatPa30

section
set_option linter.all false
namespace Go.AM.YtkgmmmhokgdcaaaGreat.Re
open Go.Proofs
set_option maxRecDepth 100000
set_option maxHeartbeats 4000000
abbrev Int4:=Int × Int × Int × Int
abbrev tP2:Ty:=.pair (.int .i64) (.int .i64)
def mkA (y:Int4):Int:=pickF y.1 4
def mkBb (y:Int4):Int:=mkA y+1+pickF y.2.1 2
def mkT (y:Int4):List Int:=bif decide (pickF (y.2.1.tdiv 2) 3=0) then [mkA y,mkBb y]++[mkBb y+1+pickF (y.2.1.tdiv 6) 2] else [mkA y,mkBb y]
def mkNeed (y:Int4):NeedT:=(mkT y,1+pickF y.2.2.1 20,1+pickF y.2.2.1 20+pickF y.2.2.2 8)
def ndAt (x:Int4) (needs:List Int4) (i:Nat):Int4:=bif decide ((i:Int) < (needs.length:Int)) then getI needs t4.dflt i else (x.2.2.2,x.2.2.1,x.2.1,x.1)
def ndN (needs:List Int4):Nat:=max 1 (min needs.length 3)
def ndL (x:Int4) (needs:List Int4):List NeedT:=(List.range (ndN needs)).map fun i=>mkNeed (ndAt x needs i)
abbrev WinT:=Int × Int × Int
def mkW (w:Int × Int):WinT:=(getI [0,0,1] (0:Int) (pickF w.1 3).toNat,getI [1,2,2] (0:Int) (pickF w.1 3).toNat,pickF w.2 150)
def winFit (n:Int) (acc:List WinT) (w:WinT):Bool :=
  decide (w.2.1 < n)&&((decide ((acc.length:Int)=0)||decide ((getI acc tWin.dflt ((acc.length:Int) - 1).toNat).1 < w.1))||(decide ((getI acc tWin.dflt ((acc.length:Int) - 1).toNat).1=w.1)&&decide ((getI acc tWin.dflt ((acc.length:Int) - 1).toNat).2.1 < w.2.1)))
def winStep (n:Int) (acc:List WinT) (w:Int × Int):List WinT:=bif winFit n acc (mkW w) then acc++[mkW w] else acc
def winL (n:Int) (ws:List (Int × Int)):List WinT:=(ws.take 3).foldl (winStep n) []
def rqE (x:Int4):Int:=pickF x.1 100
def rqA (x:Int4):Int:=pickF x.2.1 4
def rqB (x:Int4):Int:=pickF x.2.1 4+pickF x.2.2.1 5
def mkReqS:Spec:=⟨true,fun args rows=>match args,rows with
  | [.agg [.int .i64 x0,.int .i64 x1,.int .i64 x2,.int .i64 x3],.sl (.pair (.int .i64) (.pair (.int .i64) (.pair (.int .i64) (.int .i64)))) needs,.sl (.pair (.int .i64) (.int .i64)) ws],[] =>
    some ⟨True,.agg [.int .i64 (rqE (x0,x1,x2,x3)),.int .i64 (rqA (x0,x1,x2,x3)),.int .i64 (rqB (x0,x1,x2,x3)),.sl tNeed (ndL (x0,x1,x2,x3) needs),.sl tWin (winL (ndN needs) ws)],[],true⟩
  | _,_=>none⟩
def sigPk10:List (Nat × Spec):=[(34,pickP)]
theorem sigPk10Ok:SigOk Tryz.prog (look sigPk10):=sigCons sigNil Tryz.func34 (by kernel_rfl) (c:=body Tryz.f34) rfl pick10Ok
theorem mkReqOk:SpecSound Tryz.prog 8 mkReqS:=by
  refine soundR (envOf sigPk10Ok) Tryz.func8 (c:=body Tryz.f8) rfl (by kernel_rfl) rfl ?_
  intro args rows out hf hpre
  split at hf <;> try (cases hf;done)
  rename_i x0 x1 x2 x3 needs ws
  cases hf
  refine ⟨Nat.le_of_ble_eq_true rfl,initI (args:=[.agg [.int .i64 x0,.int .i64 x1,.int .i64 x2,.int .i64 x3],.sl t4 needs,.sl tP2 ws]) (rows:=[]) rfl ?_⟩
  refine factSl (t:=1) (ty:=t4) rfl (fun hxs=>?_)
  have hmx:needs.length≤9223372036854775807:=by have:=hxs.1;unfold maxLen at this;omega
  refine factSl (t:=2) (ty:=tP2) rfl (fun hws=>?_)
  have hwx:ws.length≤9223372036854775807:=by have:=hws.1;unfold maxLen at this;omega
  have bp:=fun (c n:Int) (h:0 < n)=>pick_b (c:=c) (n:=n) h
  have q1:=bp x1 4 (by omega)
  have q2:=bp x2 5 (by omega)
  repeat' (first|with_reducible (first|apply pN|apply cN|apply bN|apply cE|apply cR|apply bR|apply lE|apply lR|apply jE|apply jR)|refine bE rfl ?_|refine bP rfl ?_|refine pD ?_|refine pC (by first|(unfold In64;omega)|omega) ?_|refine seqI rfl ?_|refine regI rfl ?_|refine scopeI rfl ?_|refine blockI rfl ?_|refine exitI rfl ?_|refine retI rfl ?_|refine skipI rfl ?_)
  obtain ⟨X,hX⟩:∃ X:Int4,X=(x0,x1,x2,x3):=⟨_,rfl⟩
  have hn:max 1 (min ((needs.length:Nat):Int) 3)=((ndN needs:Nat):Int):=by unfold ndN;omega
  have hn3:ndN needs≤3:=by unfold ndN;omega
  simp only [hn]
  refine loopI (σ:=Nat) (fun i=>[(9,.int .i64 i)]) (fun i=>[(7,.box [.int .i64 (pickF x0 100),.int .i64 (pickF x1 4),.int .i64 (pickF x1 4+pickF x2 5),.own 3000,.nilsl]),(3000,.seq tNeed ((List.range i).map fun i=>mkNeed (ndAt (x0,x1,x2,x3) needs i)))]) (fun i=>i≤ndN needs) (fun i=>ndN needs - i) 0 rfl (fun _=>rfl) rfl ?_ ?_ ?_
  · exact Nat.zero_le _
  · repeat' (first|exact trivial|with_reducible exact rfl|refine And.intro ?_ ?_)
    all_goals rfl
  · intro i hi
    repeat' (first|with_reducible (first|apply pN|apply cN|apply bN|apply cE|apply cR|apply bR|apply lE|apply lR|apply jE|apply jR)|refine bE rfl ?_|refine bP rfl ?_|refine pD ?_|refine seqI rfl ?_|refine regI rfl ?_|refine scopeI rfl ?_|refine blockI rfl ?_|refine exitI rfl ?_|refine retI rfl ?_|refine skipI rfl ?_)
    refine condI rfl (fun c1=>?_) (fun c1=>?_)
    · simp only [decide_eq_true_eq] at c1
      have hil:i < ndN needs:=by omega
      have hin:((i:Int)).toNat=i:=by omega
      obtain ⟨y,hy⟩:∃ y:Int4,y=ndAt (x0,x1,x2,x3) needs i:=⟨_,rfl⟩
      repeat' (first|with_reducible (first|apply pN|apply cN|apply bN|apply cE|apply cR|apply bR|apply lE|apply lR|apply jE|apply jR)|refine bE rfl ?_|refine bP rfl ?_|refine pD ?_|refine seqI rfl ?_|refine regI rfl ?_|refine scopeI rfl ?_|refine blockI rfl ?_|refine exitI rfl ?_|refine retI rfl ?_|refine skipI rfl ?_)
      refine condI rfl (fun c2=>?_) (fun c2=>?_)
      · have hye:y=getI needs t4.dflt i:=by rw [hy];unfold ndAt;rw [c2];rfl
        repeat' (first|with_reducible (first|apply pN|apply cN|apply bN|apply cE|apply cR|apply bR|apply lE|apply lR|apply jE|apply jR)|refine bE rfl ?_|refine bP rfl ?_|refine seqI rfl ?_|refine scopeI rfl ?_|refine blockI rfl ?_|refine exitI rfl ?_|refine retI rfl ?_|refine skipI rfl ?_)
        refine regI rfl ?_
        repeat' (first|with_reducible refine pN ?_|refine pD ?_|refine pC (by (simp only [decide_eq_true_eq] at c2;omega)) ?_)
        repeat with_reducible refine cN ?_
        repeat' (first|with_reducible refine cN ?_|refine seqI rfl ?_)
        refine tidyI [] [(10,.box [.int .i64 y.1,.int .i64 y.2.1,.int .i64 y.2.2.1,.int .i64 y.2.2.2])] rfl rfl ?_ ?_
        · rw [hye]
          simp only [hin]
          repeat' (first|exact trivial|exact rfl|refine ⟨rfl,?_⟩|refine And.intro ?_ ?_)
        have p1:=bp y.1 4 (by omega)
        have p2:=bp y.2.1 2 (by omega)
        have p3:=bp y.2.2.1 20 (by omega)
        have p4:=bp y.2.2.2 8 (by omega)
        have p5:=bp (y.2.1.tdiv 6) 2 (by omega)
        repeat' (first|with_reducible (first|apply pN|apply cN|apply bN|apply cE|apply cR|apply bR|apply lE|apply lR|apply jE|apply jR)|refine bE rfl ?_|refine bP rfl ?_|refine pD ?_|refine pC (by first|(unfold In64;omega)|omega) ?_|refine seqI rfl ?_|refine regI rfl ?_|refine scopeI rfl ?_|refine blockI rfl ?_|refine exitI rfl ?_|refine retI rfl ?_|refine skipI rfl ?_)
        have hml:((List.range i).map fun i=>mkNeed (ndAt (x0,x1,x2,x3) needs i)).length=i:=by rw [List.length_map,List.length_range]
        refine condI rfl (fun c3=>?_) (fun c3=>?_)
        · repeat' (first|with_reducible (first|apply pN|apply cN|apply bN|apply cE|apply cR|apply bR|apply lE|apply lR|apply jE|apply jR)|refine bE rfl ?_|refine bP rfl ?_|refine seqI rfl ?_|refine scopeI rfl ?_|refine blockI rfl ?_|refine exitI rfl ?_|refine retI rfl ?_|refine skipI rfl ?_)
          refine regI rfl ?_
          repeat' (first|with_reducible refine pN ?_|refine pD ?_|refine pC (by first|(unfold In64;omega)|(simp;done)|(simp;omega)) ?_)
          repeat with_reducible refine cN ?_
          refine freezeI 90 rfl ?_
          have hny:mkNeed y=([pickF y.1 4,pickF y.1 4+1+pickF y.2.1 2]++[pickF y.1 4+1+pickF y.2.1 2+1+pickF (y.2.1.tdiv 6) 2],1+pickF y.2.2.1 20,1+pickF y.2.2.1 20+pickF y.2.2.2 8):=by
            unfold mkNeed mkT mkBb mkA
            rw [show decide (pickF (y.2.1.tdiv 2) 3=0)=true from c3]
            rfl
          repeat' (first|with_reducible (first|apply pN|apply cN|apply bN|apply cE|apply cR|apply bR|apply lE|apply lR|apply jE|apply jR)|refine bE rfl ?_|refine bP rfl ?_|refine pD ?_|refine pC (by first|(unfold In64;omega)|(simp only [hml,List.length_cons,List.length_nil];omega)) ?_|refine seqI rfl ?_|refine regI rfl ?_|refine scopeI rfl ?_|refine blockI rfl ?_|refine exitI rfl ?_|refine retI rfl ?_|refine skipI rfl ?_)
          refine roundI (i+1) rfl ?_ ?_ ?_
          · show i+1≤ndN needs
            omega
          · show ndN needs - (i+1) < ndN needs - i
            omega
          · repeat' (first|exact trivial|with_reducible exact rfl|refine And.intro ?_ ?_)
            all_goals (first|rfl|(rw [List.range_succ,List.map_append,List.map_cons,← hy,hny];rfl))
        · refine freezeI 69 rfl ?_
          have hny:mkNeed y=([pickF y.1 4,pickF y.1 4+1+pickF y.2.1 2],1+pickF y.2.2.1 20,1+pickF y.2.2.1 20+pickF y.2.2.2 8):=by
            unfold mkNeed mkT mkBb mkA
            rw [show decide (pickF (y.2.1.tdiv 2) 3=0)=false from c3]
            rfl
          repeat' (first|with_reducible (first|apply pN|apply cN|apply bN|apply cE|apply cR|apply bR|apply lE|apply lR|apply jE|apply jR)|refine bE rfl ?_|refine bP rfl ?_|refine pD ?_|refine pC (by first|(unfold In64;omega)|(simp only [hml,List.length_cons,List.length_nil];omega)) ?_|refine seqI rfl ?_|refine regI rfl ?_|refine scopeI rfl ?_|refine blockI rfl ?_|refine exitI rfl ?_|refine retI rfl ?_|refine skipI rfl ?_)
          refine roundI (i+1) rfl ?_ ?_ ?_
          · show i+1≤ndN needs
            omega
          · show ndN needs - (i+1) < ndN needs - i
            omega
          · repeat' (first|exact trivial|with_reducible exact rfl|refine And.intro ?_ ?_)
            all_goals (first|rfl|(rw [List.range_succ,List.map_append,List.map_cons,← hy,hny];rfl))
      · have hye:y=(x3,x2,x1,x0):=by rw [hy];unfold ndAt;rw [c2];rfl
        refine tidyI [] [(10,.box [.int .i64 y.1,.int .i64 y.2.1,.int .i64 y.2.2.1,.int .i64 y.2.2.2])] rfl rfl ?_ ?_
        · rw [hye]
          repeat' (first|exact trivial|exact rfl|refine ⟨rfl,?_⟩|refine And.intro ?_ ?_)
        have p1:=bp y.1 4 (by omega)
        have p2:=bp y.2.1 2 (by omega)
        have p3:=bp y.2.2.1 20 (by omega)
        have p4:=bp y.2.2.2 8 (by omega)
        have p5:=bp (y.2.1.tdiv 6) 2 (by omega)
        repeat' (first|with_reducible (first|apply pN|apply cN|apply bN|apply cE|apply cR|apply bR|apply lE|apply lR|apply jE|apply jR)|refine bE rfl ?_|refine bP rfl ?_|refine pD ?_|refine pC (by first|(unfold In64;omega)|omega) ?_|refine seqI rfl ?_|refine regI rfl ?_|refine scopeI rfl ?_|refine blockI rfl ?_|refine exitI rfl ?_|refine retI rfl ?_|refine skipI rfl ?_)
        have hml:((List.range i).map fun i=>mkNeed (ndAt (x0,x1,x2,x3) needs i)).length=i:=by rw [List.length_map,List.length_range]
        refine condI rfl (fun c3=>?_) (fun c3=>?_)
        · repeat' (first|with_reducible (first|apply pN|apply cN|apply bN|apply cE|apply cR|apply bR|apply lE|apply lR|apply jE|apply jR)|refine bE rfl ?_|refine bP rfl ?_|refine seqI rfl ?_|refine scopeI rfl ?_|refine blockI rfl ?_|refine exitI rfl ?_|refine retI rfl ?_|refine skipI rfl ?_)
          refine regI rfl ?_
          repeat' (first|with_reducible refine pN ?_|refine pD ?_|refine pC (by first|(unfold In64;omega)|(simp;done)|(simp;omega)) ?_)
          repeat with_reducible refine cN ?_
          refine freezeI 90 rfl ?_
          have hny:mkNeed y=([pickF y.1 4,pickF y.1 4+1+pickF y.2.1 2]++[pickF y.1 4+1+pickF y.2.1 2+1+pickF (y.2.1.tdiv 6) 2],1+pickF y.2.2.1 20,1+pickF y.2.2.1 20+pickF y.2.2.2 8):=by
            unfold mkNeed mkT mkBb mkA
            rw [show decide (pickF (y.2.1.tdiv 2) 3=0)=true from c3]
            rfl
          repeat' (first|with_reducible (first|apply pN|apply cN|apply bN|apply cE|apply cR|apply bR|apply lE|apply lR|apply jE|apply jR)|refine bE rfl ?_|refine bP rfl ?_|refine pD ?_|refine pC (by first|(unfold In64;omega)|(simp only [hml,List.length_cons,List.length_nil];omega)) ?_|refine seqI rfl ?_|refine regI rfl ?_|refine scopeI rfl ?_|refine blockI rfl ?_|refine exitI rfl ?_|refine retI rfl ?_|refine skipI rfl ?_)
          refine roundI (i+1) rfl ?_ ?_ ?_
          · show i+1≤ndN needs
            omega
          · show ndN needs - (i+1) < ndN needs - i
            omega
          · repeat' (first|exact trivial|with_reducible exact rfl|refine And.intro ?_ ?_)
            all_goals (first|rfl|(rw [List.range_succ,List.map_append,List.map_cons,← hy,hny];rfl))
        · refine freezeI 69 rfl ?_
          have hny:mkNeed y=([pickF y.1 4,pickF y.1 4+1+pickF y.2.1 2],1+pickF y.2.2.1 20,1+pickF y.2.2.1 20+pickF y.2.2.2 8):=by
            unfold mkNeed mkT mkBb mkA
            rw [show decide (pickF (y.2.1.tdiv 2) 3=0)=false from c3]
            rfl
          repeat' (first|with_reducible (first|apply pN|apply cN|apply bN|apply cE|apply cR|apply bR|apply lE|apply lR|apply jE|apply jR)|refine bE rfl ?_|refine bP rfl ?_|refine pD ?_|refine pC (by first|(unfold In64;omega)|(simp only [hml,List.length_cons,List.length_nil];omega)) ?_|refine seqI rfl ?_|refine regI rfl ?_|refine scopeI rfl ?_|refine blockI rfl ?_|refine exitI rfl ?_|refine retI rfl ?_|refine skipI rfl ?_)
          refine roundI (i+1) rfl ?_ ?_ ?_
          · show i+1≤ndN needs
            omega
          · show ndN needs - (i+1) < ndN needs - i
            omega
          · repeat' (first|exact trivial|with_reducible exact rfl|refine And.intro ?_ ?_)
            all_goals (first|rfl|(rw [List.range_succ,List.map_append,List.map_cons,← hy,hny];rfl))
    · simp only [decide_eq_false_iff_not] at c1
      have hr1:((List.range i).map fun i=>mkNeed (ndAt (x0,x1,x2,x3) needs i))=ndL (x0,x1,x2,x3) needs:=by unfold ndL;rw [show i=ndN needs by omega]
      rw [hr1]
      refine freezeI 3000 rfl ?_
      repeat' (first|with_reducible (first|apply pN|apply cN|apply bN|apply cE|apply cR|apply bR|apply lE|apply lR|apply jE|apply jR)|refine bE rfl ?_|refine bP rfl ?_|refine pD ?_|refine seqI rfl ?_|refine regI rfl ?_|refine scopeI rfl ?_|refine blockI rfl ?_|refine exitI rfl ?_|refine retI rfl ?_|refine skipI rfl ?_)
      refine loopI (σ:=Nat × List WinT) (fun s=>[(14,.int .i64 s.1)]) (fun s=>[(7,.box [.int .i64 (pickF x0 100),.int .i64 (pickF x1 4),.int .i64 (pickF x1 4+pickF x2 5),.sl tNeed (ndL (x0,x1,x2,x3) needs),.own 3001]),(3001,.seq tWin s.2)]) (fun s=>(s.1≤ws.length∧s.1≤3)∧s.2.length≤s.1∧winL (ndN needs) ws=((ws.take 3).drop s.1).foldl (winStep (ndN needs)) s.2) (fun s=>3 - s.1) (0,[]) rfl (fun _=>rfl) rfl ?_ ?_ ?_
      · exact ⟨⟨Nat.zero_le _,Nat.zero_le _⟩,Nat.le_refl _,rfl⟩
      · repeat' (first|exact trivial|with_reducible exact rfl|refine And.intro ?_ ?_)
        all_goals rfl
      rintro ⟨k,acc⟩ ⟨⟨hk,hk3⟩,hal,hinv⟩
      dsimp only at hk hk3 hal hinv ⊢
      repeat' (first|with_reducible (first|apply pN|apply cN|apply bN|apply cE|apply cR|apply bR|apply lE|apply lR|apply jE|apply jR)|refine bE rfl ?_|refine bP rfl ?_|refine pD ?_|refine seqI rfl ?_|refine regI rfl ?_|refine scopeI rfl ?_|refine blockI rfl ?_|refine exitI rfl ?_|refine retI rfl ?_|refine skipI rfl ?_)
      refine condI rfl (fun c4=>?_) (fun c4=>?_)
      · simp only [Bool.and_eq_true,decide_eq_true_eq] at c4
        have hkl:k < ws.length:=by omega
        have hkn:((k:Int)).toNat=k:=by omega
        rw [drop_getI (d:=tP2.dflt) (show k < (ws.take 3).length by rw [List.length_take];omega)] at hinv
        obtain ⟨x,hx⟩:∃ x:Int × Int,x=getI ws tP2.dflt k:=⟨_,rfl⟩
        have hxt:getI (ws.take 3) tP2.dflt k=x:=by
          rw [hx]
          unfold getI
          rw [List.getD_eq_getElem?_getD,List.getD_eq_getElem?_getD,List.getElem?_take,if_pos (by omega)]
        rw [hxt] at hinv
        have hx':getI ws tP2.dflt ((k:Int)).toNat=x:=by rw [hkn];exact hx.symm
        have b1:=bp x.1 3 (by omega)
        repeat' (first|with_reducible (first|apply pN|apply cN|apply bN|apply cE|apply cR|apply bR|apply lE|apply lR|apply jE|apply jR)|refine bE rfl ?_|refine bP rfl ?_|refine pD ?_|refine pC (by first|omega|(simp only [hx',List.length_cons,List.length_nil];omega)|(unfold In64;omega)|(intro _ h;have h1:¬ ((acc.length:Int)=0):=(by first|(simpa using h)|(have h2:=(Bool.or_eq_false_iff.1 h).1;simpa using h2));first|omega|(unfold In64;omega)|(intro _;omega)|(intro _;unfold In64;omega))) ?_|refine seqI rfl ?_|refine regI rfl ?_|refine scopeI rfl ?_|refine blockI rfl ?_|refine exitI rfl ?_|refine retI rfl ?_|refine skipI rfl ?_)
        simp only [hx']
        have hinv:winL (ndN needs) ws=((ws.take 3).drop (k+1)).foldl (winStep (ndN needs)) (winStep (ndN needs) acc x):=hinv
        have hstep:winStep (ndN needs) acc x=bif winFit (ndN needs) acc (mkW x) then acc++[mkW x] else acc:=rfl
        rw [hstep] at hinv
        refine condI rfl (fun c5=>?_) (fun c5=>?_)
        · have c5':winFit (ndN needs) acc (mkW x)=true:=c5
          rw [c5',cond_true] at hinv
          repeat' (first|with_reducible (first|apply pN|apply cN|apply bN|apply cE|apply cR|apply bR|apply lE|apply lR|apply jE|apply jR)|refine bE rfl ?_|refine bP rfl ?_|refine pD ?_|refine pC (by (simp only [List.length_cons,List.length_nil];omega)) ?_|refine seqI rfl ?_|refine regI rfl ?_|refine scopeI rfl ?_|refine blockI rfl ?_|refine exitI rfl ?_|refine retI rfl ?_|refine skipI rfl ?_)
          refine roundI (k+1,acc++[mkW x]) rfl ?_ ?_ ?_
          · exact ⟨⟨by show k+1≤ws.length;omega,by show k+1≤3;omega⟩,by show (acc++[_]).length≤k+1;simp;omega,hinv⟩
          · show 3 - (k+1) < 3 - k
            omega
          · repeat' (first|exact trivial|with_reducible exact rfl|refine And.intro ?_ ?_)
            all_goals rfl
        · have c5':winFit (ndN needs) acc (mkW x)=false:=c5
          rw [c5',cond_false] at hinv
          repeat' (first|with_reducible (first|apply pN|apply cN|apply bN|apply cE|apply cR|apply bR|apply lE|apply lR|apply jE|apply jR)|refine bE rfl ?_|refine bP rfl ?_|refine pD ?_|refine seqI rfl ?_|refine regI rfl ?_|refine scopeI rfl ?_|refine blockI rfl ?_|refine exitI rfl ?_|refine retI rfl ?_|refine skipI rfl ?_)
          refine roundI (k+1,acc) rfl ?_ ?_ ?_
          · exact ⟨⟨by show k+1≤ws.length;omega,by show k+1≤3;omega⟩,by show acc.length≤k+1;omega,hinv⟩
          · show 3 - (k+1) < 3 - k
            omega
          · repeat' (first|exact trivial|with_reducible exact rfl|refine And.intro ?_ ?_)
            all_goals rfl
      · simp only [Bool.and_eq_false_iff,decide_eq_false_iff_not] at c4
        rw [List.drop_eq_nil_of_le (by rw [List.length_take];omega)] at hinv
        have hinv:winL (ndN needs) ws=acc:=hinv
        rw [hinv]
        refine freezeI 3001 rfl ?_
        repeat' (first|with_reducible (first|apply pN|apply cN|apply bN|apply cE|apply cR|apply bR|apply lE|apply lR|apply jE|apply jR)|refine bE rfl ?_|refine bP rfl ?_|refine pD ?_|refine seqI rfl ?_|refine regI rfl ?_|refine scopeI rfl ?_|refine blockI rfl ?_|refine exitI rfl ?_|refine retI rfl ?_|refine skipI rfl ?_)
        refine endR rfl ?_
        repeat' (first|exact trivial|exact rfl|refine ⟨rfl,?_⟩|refine And.intro ?_ ?_)
end Go.AM.YtkgmmmhokgdcaaaGreat.Re
end

section
set_option linter.all false
namespace Go.AM.YtkgmmmhokgdcaaaGreat.Re
open Go.Proofs
set_option maxRecDepth 100000
set_option maxHeartbeats 4000000
end Go.AM.YtkgmmmhokgdcaaaGreat.Re
end

section
set_option linter.all false
namespace Go.AM.YtkgmmmhokgdcaaaGreat.Re
open Go.Proofs
theorem fold_some {c:CalT} {e a b:Int} {ns:List NeedT} {ws:List tWin.El} {kvs:DlT} {y:List StT × Int}:∀ {l:List (List PairT)} {s:BestT},l.foldl (stepG c e a b ns ws kvs) s=some y →
    s=some y∨∃ ch∈l,∃ xs,stG b c e ns ch=some xs∧lateAny kvs xs=false∧safeF e a b xs ws=true∧y=(xs,overG (lastG xs))
  | [],s,h=>.inl h
  | ch::l,s,h=>by
    rw [List.foldl_cons] at h
    rcases fold_some h with h1|⟨ch',h1,h2⟩
    · unfold stepG at h1
      cases hs:stG b c e ns ch with
      | none=>rw [hs] at h1;exact .inl h1
      | some xs =>
        rw [hs] at h1
        dsimp only at h1
        cases hA:(s.isSome&&decide (overG (lastG xs)≥bLst s)) <;> rw [hA] at h1
        · rw [cond_false] at h1
          cases hB:lateAny kvs xs <;> rw [hB] at h1
          · rw [cond_false] at h1
            cases hC:safeF e a b xs ws <;> rw [hC] at h1
            · exact .inl h1
            · exact .inr ⟨ch,by simp,xs,hs,hB,hC,(Option.some.inj h1).symm⟩
          · exact .inl h1
        · exact .inl h1
    · exact .inr ⟨ch',by simp [h1],h2⟩
theorem best_some {c:CalT} {e a b:Int} {ns:List NeedT} {ws:List tWin.El} {kvs:DlT} {y:List StT × Int} (h:bestG c e a b ns ws kvs=some y) :
    ∃ ch∈chL ns [],stG b c e ns ch=some y.1∧lateAny kvs y.1=false∧safeF e a b y.1 ws=true∧y.2=overG (lastG y.1):=by
  rcases fold_some (s:=none) h with h1|⟨ch,h1,xs,h2,h3,h4,h5⟩
  · cases h1
  · subst h5;exact ⟨ch,h1,h2,h3,h4,rfl⟩
theorem tool_mem {c:CalT} (h:CalG c) {t:Int} (h0:0≤t) (h1:t < 60) {e:Bk.El}:e∈toolL c t↔inC c e∧tlB e=t:=by
  constructor
  · intro he
    have ht:=((h.tool h0 h1).all e he).2
    have ht:tlB e=t:=by omega
    exact ⟨by unfold inC;rw [ht];exact he,ht⟩
  · rintro ⟨h2,h3⟩
    unfold inC at h2
    rwa [h3] at h2
theorem tool_book {c:CalT} (h:CalG c) {b:Bk.El} (hf:freeF c b=true) {t:Int} (h0:0≤t) (h1:t < 60) {e:Bk.El}:e∈toolL (bookF c b) t↔(e=b∧tlB b=t)∨e∈toolL c t:=by
  obtain ⟨g1,g2,_⟩:=book_yes h hf
  rw [tool_mem g1 h0 h1,tool_mem h h0 h1]
  constructor
  · rintro ⟨h2,h3⟩
    rcases (g2 e (by omega)).1 h2 with rfl|h4
    · exact .inl ⟨rfl,h3⟩
    · exact .inr ⟨h4,h3⟩
  · rintro (⟨rfl,h3⟩|⟨h4,h3⟩)
    · exact ⟨(g2 e (by omega)).2 (.inl rfl),h3⟩
    · exact ⟨(g2 e (by omega)).2 (.inr h4),h3⟩
theorem free_book {c:CalT} (h:CalG c) {b d:Bk.El} (hf:freeF c b=true):freeF (bookF c b) d=true↔freeF c d=true∧¬ (tlB b=tlB d∧meet b d):=by
  rw [free_iff,free_iff]
  constructor
  · rintro ⟨h1,h2⟩
    refine ⟨⟨h1,fun e he=>h2 e ((tool_book h hf h1.t0 h1.t1).2 (.inr he))⟩,fun ⟨h3,h4⟩=>h2 b ((tool_book h hf h1.t0 h1.t1).2 (.inl ⟨rfl,h3⟩)) h4⟩
  · rintro ⟨⟨h1,h2⟩,h3⟩
    refine ⟨h1,fun e he hm=>?_⟩
    rcases (tool_book h hf h1.t0 h1.t1).1 he with ⟨rfl,h4⟩|h4
    · exact h3 ⟨h4,hm⟩
    · exact h2 e h4 hm
def apartB (a b:Bk.El):Prop:=¬ (tlB a=tlB b∧meet a b)
theorem allFree_iff:∀ {l:List Bk.El} {c:CalT},CalG c→(allFree c l=true↔(∀ b∈l,freeF c b=true)∧l.Pairwise apartB)
  | [],c,_=>by simp [allFree]
  | b::l,c,h=>by
    simp only [allFree,Bool.and_eq_true,List.mem_cons,forall_eq_or_imp,List.pairwise_cons]
    constructor
    · rintro ⟨h1,h2⟩
      obtain ⟨h3,h4⟩:=(allFree_iff (book_good h b).1).1 h2
      exact ⟨⟨h1,fun d hd=>((free_book h h1).1 (h3 d hd)).1⟩,fun d hd=>((free_book h h1).1 (h3 d hd)).2,h4⟩
    · rintro ⟨⟨h1,h2⟩,h3,h4⟩
      exact ⟨h1,(allFree_iff (book_good h b).1).2 ⟨fun d hd=>(free_book h h1).2 ⟨h2 d hd,h3 d hd⟩,h4⟩⟩
def cntC (p:Bk.El→Bool) (c:CalT):Nat:=c.flatten.countP p
theorem cnt_set {p:Bk.El→Bool} {l:List Bk.El}:∀ {c:CalT} {i:Nat},i < c.length→cntC p (c.set i l)+(getI c [] i).countP p=cntC p c+l.countP p
  | [],i,h=>by simp at h
  | x::r,0,_=>by simp [cntC,getI];omega
  | x::r,i+1,h=>by
    have:=cnt_set (p:=p) (l:=l) (c:=r) (i:=i) (by simpa using h)
    simp [cntC,getI] at this ⊢
    omega
theorem cnt_book {p:Bk.El→Bool} {c:CalT} (h:CalG c) {b:Bk.El} (hf:freeF c b=true):cntC p (bookF c b)=cntC p c+(if p b=true then 1 else 0):=by
  unfold bookF
  rw [if_pos hf]
  have hg:=(free_iff.1 hf).1
  have hi:(tlB b).toNat < c.length:=by rw [h.len];have:=hg.t0;have:=hg.t1;omega
  have h1:=cnt_set (p:=p) (l:=addF (toolL c b.1) b) hi
  have h2:(addF (toolL c b.1) b).countP p=(toolL c b.1).countP p+(if p b=true then 1 else 0):=by
    have e:addF (toolL c b.1) b=(toolL c b.1).take (posF (toolL c b.1) (startB b))++[b]++(toolL c b.1).drop (posF (toolL c b.1) (startB b)):=by unfold addF insF;simp
    rw [e,List.countP_append,List.countP_append]
    have h3:(toolL c b.1).countP p=((toolL c b.1).take (posF (toolL c b.1) (startB b))).countP p+((toolL c b.1).drop (posF (toolL c b.1) (startB b))).countP p:=by
      rw [← List.countP_append,List.take_append_drop]
    rw [h3,List.countP_singleton]
    omega
  show cntC p (c.set (tlB b).toNat (addF (toolL c b.1) b))=_
  have h4:(getI c [] (tlB b).toNat)=toolL c b.1:=rfl
  rw [h4] at h1
  omega
theorem owned_len (c:CalT) (o:Int):(ownedF c o).length=cntC (ownsB o) c:=by unfold ownedF cntC;rw [List.countP_eq_length_filter]
theorem all_book:∀ {l:List Bk.El} {c:CalT},CalG c→allFree c l=true →
    (∀ t,0≤t→t < 60→∀ e,e∈toolL (bookAll l c) t↔(e∈l∧tlB e=t)∨e∈toolL c t)∧lenF (bookAll l c)=lenF c+l.length∧∀ p,cntC p (bookAll l c)=cntC p c+l.countP p
  | [],c,_,_=>⟨fun t h0 h1 e=>by simp [bookAll],rfl,fun p=>rfl⟩
  | b::l,c,h,hf=>by
    simp only [allFree,Bool.and_eq_true] at hf
    obtain ⟨h1,h2⟩:=hf
    obtain ⟨k1,k2,k3⟩:=all_book (book_good h b).1 h2
    refine ⟨fun t h0 h3 e=>?_,?_,fun p=>?_⟩
    · show e∈toolL (bookAll l (bookF c b)) t↔_
      rw [k1 t h0 h3 e,tool_book h h1 h0 h3]
      constructor
      · rintro (⟨h4,h5⟩|⟨rfl,h5⟩|h4)
        · exact .inl ⟨List.mem_cons_of_mem _ h4,h5⟩
        · exact .inl ⟨by simp,h5⟩
        · exact .inr h4
      · rintro (⟨h4,h5⟩|h4)
        · rcases List.mem_cons.1 h4 with rfl|h4
          · exact .inr (.inl ⟨rfl,h5⟩)
          · exact .inl ⟨h4,h5⟩
        · exact .inr (.inr h4)
    · show lenF (bookAll l (bookF c b))=_
      rw [k2,(book_yes h h1).2.2,List.length_cons]
      omega
    · show cntC p (bookAll l (bookF c b))=_
      rw [k3 p,cnt_book h h1,List.countP_cons]
      omega
def bks (xs:List StT) (ow:Int):List Bk.El:=xs.flatMap fun x=>[Pl.bk1 x ow,Pl.bk2 x ow]
theorem bkN_take {xs:List StT} {ow:Int}:∀ {i:Nat},i≤xs.length→Pl.bkN xs ow i=bks (xs.take i) ow
  | 0,_=>rfl
  | i+1,h=>by
    rw [show Pl.bkN xs ow (i+1)=Pl.bkN xs ow i++[Pl.bk1 (getI xs tStage.dflt i) ow]++[Pl.bk2 (getI xs tStage.dflt i) ow] from rfl,bkN_take (by omega),take_getI (d:=tStage.dflt) (by omega)]
    unfold bks
    rw [List.flatMap_append]
    simp
theorem planL_eq {e a b:Int} {xs:List tStage.El} {ws:List tWin.El} {ow:Int} (h:Pl.validF e a b xs ws=true) (h1:1≤ow) (h2:ow≤1000000):planL e a b xs ws ow=bks xs ow:=by
  unfold planL Pl.bookF
  rw [if_pos (by rw [h];unfold Pl.withinF;simp [h1,h2]),bkN_take (Nat.le_refl _),List.take_length]
theorem bks_len (xs:List StT) (ow:Int):(bks xs ow).length=2 * xs.length:=by
  unfold bks
  induction xs with
  | nil=>rfl
  | cons x r ih=>rw [List.flatMap_cons,List.length_append,ih,List.length_cons];simp;omega
def owTo (ow:Int) (b:Bk.El):Bk.El:=(b.1,b.2.1,b.2.2.1,ow)
theorem bks_own (xs:List StT) (o ow:Int):bks xs ow=(bks xs o).map (owTo ow):=by
  unfold bks
  induction xs with
  | nil=>rfl
  | cons x r ih=>rw [List.flatMap_cons,List.flatMap_cons,List.map_append,ih];rfl
theorem free_own {c:CalT} {b:Bk.El} {ow:Int} (h:freeF c b=true) (h1:1≤ow) (h2:ow≤1000000):freeF c (owTo ow b)=true:=by
  obtain ⟨k1,k2⟩:=free_iff.1 h
  exact free_iff.2 ⟨⟨k1.t0,k1.t1,k1.s0,k1.se,k1.e1,h1,h2⟩,fun d hd hm=>k2 d hd hm⟩
theorem all_own {c:CalT} (hc:CalG c) {l:List Bk.El} {ow:Int} (h:allFree c l=true) (h1:1≤ow) (h2:ow≤1000000):allFree c (l.map (owTo ow))=true:=by
  obtain ⟨k1,k2⟩:=(allFree_iff hc).1 h
  refine (allFree_iff hc).2 ⟨fun b hb=>?_,?_⟩
  · obtain ⟨d,hd,rfl⟩:=List.mem_map.1 hb
    exact free_own (k1 d hd) h1 h2
  · rw [List.pairwise_map]
    exact k2.imp fun h=>h
theorem bookG_eq {c:CalT} {tl fr ln:Int} (h:(firstF c tl fr ln).2=true):bookG c tl fr ln=bookF c (tl,(firstF c tl fr ln).1,(firstF c tl fr ln).1+ln,1):=by
  unfold bookG;rw [h];rfl
theorem stG_all {b:Int}:∀ {ns:List NeedT} {c:CalT} {t:Int} {ch:List PairT} {xs:List StT},CalG c→stG b c t ns ch=some xs→allFree c (bks xs 1)=true
  | [],c,t,ch,xs,_,h=>by
    simp only [stG,Option.some.injEq] at h
    subst h
    rfl
  | _::_,c,t,[],xs,_,h=>by simp [stG] at h
  | x::ns,c,t,p::ch,xs,hc,h=>by
    simp only [stG] at h
    cases h1:(firstF c p.1 (t+b) x.2.2).2 <;> rw [h1] at h
    · cases h
    · rw [cond_true] at h
      cases h2:(firstF (bookG c p.1 (t+b) x.2.2) p.2 ((firstF c p.1 (t+b) x.2.2).1+x.2.2 - 1+b) x.2.2).2 <;> rw [h2] at h
      · cases h
      · rw [cond_true,Option.map_eq_some_iff] at h
        obtain ⟨l,h3,rfl⟩:=h
        have hg1:=(bookG_good hc p.1 (t+b) x.2.2).1
        have hg2:=(bookG_good hg1 p.2 ((firstF c p.1 (t+b) x.2.2).1+x.2.2 - 1+b) x.2.2).1
        have h5:=stG_all hg2 h3
        have f1:=(first_facts hc h1).2.2
        have f2:=(first_facts hg1 h2).2.2
        obtain ⟨st,hst⟩:∃ st:StT,st=(x.2.1,x.2.2,(p.1,(firstF c p.1 (t+b) x.2.2).1),(p.2,(firstF (bookG c p.1 (t+b) x.2.2) p.2 ((firstF c p.1 (t+b) x.2.2).1+x.2.2 - 1+b) x.2.2).1)):=⟨_,rfl⟩
        have g1:bookF c (Pl.bk1 st 1)=bookG c p.1 (t+b) x.2.2:=by rw [hst];exact (bookG_eq h1).symm
        have g2:bookF (bookG c p.1 (t+b) x.2.2) (Pl.bk2 st 1)=bookG (bookG c p.1 (t+b) x.2.2) p.2 ((firstF c p.1 (t+b) x.2.2).1+x.2.2 - 1+b) x.2.2:=by rw [hst];exact (bookG_eq h2).symm
        rw [← hst]
        show (freeF c (Pl.bk1 st 1)&&(freeF (bookF c (Pl.bk1 st 1)) (Pl.bk2 st 1)&&allFree (bookF (bookF c (Pl.bk1 st 1)) (Pl.bk2 st 1)) (bks l 1)))=true
        rw [g1,g2,h5,show freeF c (Pl.bk1 st 1)=true by rw [hst];exact f1,show freeF (bookG c p.1 (t+b) x.2.2) (Pl.bk2 st 1)=true by rw [hst];exact f2]
        rfl
structure Made (c:CalT) (e a b:Int) (ns:List NeedT) (ws:List tWin.El) (xs:List StT):Prop where
  rv:rvalidF e a b ns ws=true
  safe:safeF e a b xs ws=true
  valid:Pl.validF e a b xs ws=true
  len:xs.length=ns.length
  pos:1≤xs.length
  free:∀ ow,1≤ow→ow≤1000000→allFree c (bks xs ow)=true
theorem made {c:CalT} (hc:CalG c) {e a b:Int} {ns:List NeedT} {ws:List tWin.El} {y:List StT × Int} (h:makeG c e a b ns ws=some y):Made c e a b ns ws y.1:=by
  unfold makeG at h
  cases hr:rvalidF e a b ns ws <;> rw [hr] at h
  · cases h
  · rw [cond_true] at h
    obtain ⟨ch,h1,h2,h3,h4,h5⟩:=best_some h
    have h6:=(stG_facts hc h2).1
    have h7:=rvalid_facts hr
    have hv:Pl.validF e a b y.1 ws=true:=by
      unfold safeF at h4
      simp only [Bool.and_eq_true] at h4
      exact h4.1.1
    refine ⟨hr,h4,hv,h6,by rw [h6];exact h7.2.2.1.1,fun ow o1 o2=>?_⟩
    rw [bks_own _ 1 ow]
    exact all_own hc (stG_all hc h2) o1 o2
theorem Made.can {c:CalT} {e a b:Int} {ns:List NeedT} {ws:List tWin.El} {xs:List StT} (m:Made c e a b ns ws xs) {ow:Int} (h1:1≤ow) (h2:ow≤1000000):canB c e a b xs ws ow=true:=by
  unfold canB
  rw [planL_eq m.valid h1 h2,m.free ow h1 h2,Bool.true_and,decide_eq_true_eq,bks_len]
  have:=m.pos
  omega
theorem Made.twice {c:CalT} (hc:CalG c) {e a b:Int} {ns:List NeedT} {ws:List tWin.El} {xs:List StT} (m:Made c e a b ns ws xs) {ow o2:Int} (h1:1≤ow) (h2:ow≤1000000) (h3:1≤o2) (h4:o2≤1000000) :
    canB (bookAll (bks xs ow) c) e a b xs ws o2=false:=by
  cases hcan:canB (bookAll (bks xs ow) c) e a b xs ws o2 with
  | false=>rfl
  | true =>
    exfalso
    unfold canB at hcan
    rw [planL_eq m.valid h3 h4,Bool.and_eq_true] at hcan
    cases xs with
    | nil=>have:=m.pos;simp at this
    | cons x r =>
      have hgc:=(bookAll_good (l:=bks (x::r) ow) hc).1
      have h5:=((allFree_iff hgc).1 hcan.1).1 (Pl.bk1 x o2) (by unfold bks;simp)
      obtain ⟨k1,k2⟩:=free_iff.1 h5
      have h6:=(all_book hc (m.free ow h1 h2)).1 (tlB (Pl.bk1 x o2)) k1.t0 k1.t1 (Pl.bk1 x ow)
      refine k2 _ (h6.2 (.inl ⟨by unfold bks;simp,rfl⟩)) ?_
      have:=k1.se
      exact ⟨this,this⟩
theorem bks_cnt (xs:List StT) (ow:Int):(bks xs ow).countP (ownsB ow)=2 * xs.length:=by
  rw [← bks_len xs ow,List.countP_eq_length]
  intro b hb
  unfold bks at hb
  rw [List.mem_flatMap] at hb
  obtain ⟨x,_,hb⟩:=hb
  simp only [List.mem_cons,List.not_mem_nil,or_false] at hb
  rcases hb with rfl|rfl <;> simp [ownsB,Pl.bk1,Pl.bk2]
theorem bks_other {xs:List StT} {ow o:Int} (h:ow≠o):∀ b∈bks xs ow,ownsB o b=false:=fun b hb=>by
  unfold bks at hb
  rw [List.mem_flatMap] at hb
  obtain ⟨x,_,hb⟩:=hb
  simp only [List.mem_cons,List.not_mem_nil,or_false] at hb
  rcases hb with rfl|rfl <;> simp [ownsB,Pl.bk1,Pl.bk2,h]
theorem Made.book {c:CalT} (hc:CalG c) {e a b:Int} {ns:List NeedT} {ws:List tWin.El} {xs:List StT} (m:Made c e a b ns ws xs) {ow:Int} (h1:1≤ow) (h2:ow≤1000000) :
    rbErr c e a b xs ws ow=0∧rbCal c e a b xs ws ow=bookAll (bks xs ow) c:=by
  unfold rbErr rbCal
  rw [m.can h1 h2,planL_eq m.valid h1 h2]
  exact ⟨rfl,rfl⟩
theorem Made.again {c:CalT} (hc:CalG c) {e a b:Int} {ns:List NeedT} {ws:List tWin.El} {xs:List StT} (m:Made c e a b ns ws xs) {ow o2:Int} (h1:1≤ow) (h2:ow≤1000000) (h3:1≤o2) (h4:o2≤1000000) :
    rbErr (bookAll (bks xs ow) c) e a b xs ws o2=100∧rbCal (bookAll (bks xs ow) c) e a b xs ws o2=bookAll (bks xs ow) c:=by
  unfold rbErr rbCal
  rw [m.twice hc h1 h2 h3 h4]
  exact ⟨rfl,rfl⟩
theorem ndL_len (x:Int4) (needs:List Int4):(ndL x needs).length≤3:=by unfold ndL ndN;rw [List.length_map,List.length_range];omega
theorem winL_len (n:Int) (ws:List (Int × Int)):(winL n ws).length≤3:=by
  have:∀ (l:List (Int × Int)) (acc:List WinT),(l.foldl (winStep n) acc).length≤acc.length+l.length:=fun l=>by
    induction l with
    | nil=>intro acc;simp
    | cons x r ih =>
      intro acc
      refine Nat.le_trans (ih _) ?_
      have:(winStep n acc x).length≤acc.length+1:=by
        unfold winStep
        cases winFit n acc (mkW x) <;> simp
      simp only [List.length_cons]
      omega
  have h:=this (ws.take 3) []
  rw [List.length_take] at h
  simp only [List.length_nil,Nat.zero_add] at h
  exact Nat.le_trans h (Nat.min_le_left _ _)
end Go.AM.YtkgmmmhokgdcaaaGreat.Re
end
