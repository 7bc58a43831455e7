/- Plans and calendars that are later by a number. -/
import Derived.Test.YtkgmmmhokgdcaaaGreatPc28
import Derived.Test.YtkgmmmhokgdcaaaGreatPc35
set_option linter.all false
namespace Go.AM.YtkgmmmhokgdcaaaGreat.Re
open Go.Proofs
def shB (k:Int) (b:Bk.El):Bk.El:=(b.1,b.2.1+k,b.2.2.1+k,b.2.2.2)
def shC (k:Int) (c:CalT):CalT:=c.map (List.map (shB k))
def shS (k:Int) (x:StT):StT:=(x.1,x.2.1,(x.2.2.1.1,x.2.2.1.2+k),(x.2.2.2.1,x.2.2.2.2+k))
def Ends (B:Int) (c:CalT):Prop:=∀ l∈c,∀ x∈l,enB x≤B
theorem get_sh {k:Int} {c:CalT} {i:Nat}:getI (shC k c) [] i=(getI c [] i).map (shB k):=by
 unfold getI shC
 rw [List.getD_eq_getElem?_getD,List.getD_eq_getElem?_getD,List.getElem?_map]
 cases c[i]? <;> rfl
theorem tool_sh {k:Int} {c:CalT} {t:Int}:toolL (shC k c) t=(toolL c t).map (shB k):=get_sh
theorem tool_ends {B:Int} {c:CalT} (h:Ends B c) {t:Int}:∀ x∈toolL c t,enB x≤B:=fun x hx=>by
 unfold toolL getI at hx
 rw [List.getD_eq_getElem?_getD] at hx
 cases hg:c[t.toNat]? with
 | none=>rw [hg] at hx;simp at hx
 | some l=>rw [hg] at hx;exact h l (List.mem_of_getElem? hg) x hx
theorem good_sh {k B:Int} {c:CalT} (h:CalG c) (hE:Ends B c) (h0:0≤k) (hB:B+k≤1000000):CalG (shC k c):=by
 refine ⟨by unfold shC;rw [List.length_map];exact h.len,fun t ht=>?_⟩
 rw [get_sh]
 have hl:=h.each t ht
 refine ⟨fun b hb=>?_,?_⟩
 ·obtain ⟨d,hd,rfl⟩:=List.mem_map.1 hb
  obtain ⟨g,ht'⟩:=hl.all d hd
  have he:enB d≤B:=by
   have:=tool_ends hE (t:=(t:Int)) d (by unfold toolL;rw [show ((t:Int)).toNat=t by omega];exact hd)
   exact this
  have:=g.s0
  have:=g.se
  exact ⟨⟨g.t0,g.t1,by show 0≤stB d+k;omega,by show stB d+k < enB d+k;omega,by show enB d+k≤1000000;omega,g.o0,g.o1⟩,ht'⟩
 ·rw [List.pairwise_map]
  refine hl.ord.imp fun {a b} h=>?_
  show enB a+k≤stB b+k
  omega
def firstL (l:List Bk.El) (f ln:Int):Int × Bool:=firstG (gapsL l f) ln
theorem firstL_nil (f ln:Int):firstL [] f ln=if f < 1000000 then (if longB ln (f,1000000)=true then (f,true) else (0,false)) else (0,false):=by
 unfold firstL
 rw [show gapsL [] f=if f < 1000000 then [(f,1000000)] else [] from rfl]
 by_cases hf:f < 1000000
 ·rw [if_pos hf,if_pos hf]
  unfold firstG
  cases h:longB ln (f,1000000) <;> simp [List.find?,h]
 ·rw [if_neg hf,if_neg hf]
  rfl
theorem firstL_cons (b:Bk.El) (xs:List Bk.El) (f ln:Int):firstL (b::xs) f ln=if f < stB b then (if longB ln (f,stB b)=true then (f,true) else firstL xs (max f (enB b)) ln) else firstL xs (max f (enB b)) ln:=by
 show firstG (gapsL (b::xs) f) ln=_
 rw [show gapsL (b::xs) f=(if f < stB b then [(f,stB b)] else [])++gapsL xs (max f (enB b)) from rfl]
 split
 ·cases h:longB ln (f,stB b)
  ·rw [if_neg (by simp)]
   unfold firstL firstG
   simp [List.find?,h]
  ·rw [if_pos rfl]
   unfold firstG
   simp [List.find?,h]
 ·rfl
theorem first_sh {k B ln:Int} (h0:0≤k) (hl:1≤ln) (hB:B+k+ln≤1000000):∀ {l:List Bk.El} {f:Int},(∀ x∈l,GoodB x∧enB x≤B)→0≤f→f≤B →
 (firstL l f ln).2=true∧f≤(firstL l f ln).1∧(firstL l f ln).1≤B∧firstL (l.map (shB k)) (f+k) ln=((firstL l f ln).1+k,true)
 | [],f,_,hf,hfB=>by
   have e1:longB ln (f,1000000)=true:=by
    unfold longB
    rw [wrap64_id (by show -9223372036854775808≤(1000000:Int) - f;omega) (by show (1000000:Int) - f < _;omega),decide_eq_true_eq]
    show ln≤1000000 - f
    omega
   have e2:longB ln (f+k,1000000)=true:=by
    unfold longB
    rw [wrap64_id (by show -9223372036854775808≤(1000000:Int) - (f+k);omega) (by show (1000000:Int) - (f+k) < _;omega),decide_eq_true_eq]
    show ln≤1000000 - (f+k)
    omega
   rw [List.map_nil,firstL_nil,firstL_nil,if_pos (by omega),if_pos e1,if_pos (by omega),if_pos e2]
   exact ⟨rfl,Int.le_refl _,hfB,rfl⟩
 | b::xs,f,hg,hf,hfB=>by
   obtain ⟨gb,eb⟩:=hg b (by simp)
   have hs0:=gb.s0
   have hse:=gb.se
   have ih:=first_sh h0 hl hB (l:=xs) (f:=max f (enB b)) (fun x hx=>hg x (by simp [hx])) (by omega) (by omega)
   have e:longB ln (f+k,stB b+k)=longB ln (f,stB b):=by
    unfold longB
    rw [show (stB b+k,f+k).1 - (stB b+k,f+k).2=stB b - f by show stB b+k - (f+k)=_;omega]
   have hm:max (f+k) (enB b+k)=max f (enB b)+k:=by omega
   rw [List.map_cons,firstL_cons,firstL_cons]
   show _∧_∧_∧(if f+k < stB b+k then (if longB ln (f+k,stB b+k)=true then (f+k,true) else firstL (xs.map (shB k)) (max (f+k) (enB b+k)) ln) else firstL (xs.map (shB k)) (max (f+k) (enB b+k)) ln)=_
   rw [hm,e]
   by_cases c1:f < stB b
   ·rw [if_pos c1,if_pos (show f+k < stB b+k by omega)]
    by_cases c2:longB ln (f,stB b)=true
    ·rw [if_pos c2,if_pos c2]
     exact ⟨rfl,Int.le_refl _,hfB,rfl⟩
    ·rw [if_neg c2,if_neg c2]
     exact ⟨ih.1,by omega,ih.2.2.1,ih.2.2.2⟩
   ·rw [if_neg c1,if_neg (show ¬ f+k < stB b+k by omega)]
    exact ⟨ih.1,by omega,ih.2.2.1,ih.2.2.2⟩
theorem firstF_sh {k B ln fr tl:Int} {c:CalT} (hc:CalG c) (hE:Ends B c) (h0:0≤k) (hf:0≤fr) (hfB:fr≤B) (hB:B+k+ln≤1000000) :
 (firstF c tl fr ln=(0,false)∧firstF (shC k c) tl (fr+k) ln=(0,false)) ∨
 ((firstF c tl fr ln).2=true∧fr≤(firstF c tl fr ln).1∧(firstF c tl fr ln).1≤B∧firstF (shC k c) tl (fr+k) ln=((firstF c tl fr ln).1+k,true)):=by
 unfold firstF
 by_cases h:toolB tl=true∧1≤ln
 ·right
  rw [if_pos h,if_pos h,tool_sh,show max fr 0=fr by omega,show max (fr+k) 0=fr+k by omega]
  obtain ⟨t0,t1⟩:=toolB_true h.1
  exact first_sh h0 h.2 hB (fun x hx=>⟨((hc.tool t0 t1).all x hx).1,tool_ends hE x hx⟩) hf hfB
 ·left
  rw [if_neg h,if_neg h]
  exact ⟨rfl,rfl⟩
theorem pos_sh {k s:Int} {l:List Bk.El}:posF (l.map (shB k)) (s+k)=posF l s:=by
 unfold posF
 rw [List.takeWhile_map,List.length_map]
 congr 2
 funext b
 show decide (startB b+k < s+k)=decide (startB b < s)
 congr 1
 exact propext ⟨fun h=>by omega,fun h=>by omega⟩
theorem book_sh {k:Int} {c:CalT} {b:Bk.El} (h1:freeF c b=true) (h2:freeF (shC k c) (shB k b)=true):bookF (shC k c) (shB k b)=shC k (bookF c b):=by
 unfold bookF
 rw [if_pos h1,if_pos h2]
 unfold shC
 rw [List.map_set]
 show (c.map (List.map (shB k))).set b.1.toNat (addF (toolL (shC k c) b.1) (shB k b))=_
 rw [tool_sh]
 congr 1
 show insF ((toolL c b.1).map (shB k)) [shB k b] (posF ((toolL c b.1).map (shB k)) (startB b+k))=(insF (toolL c b.1) [b] (posF (toolL c b.1) (startB b))).map (shB k)
 rw [pos_sh]
 unfold insF
 simp [List.map_take,List.map_drop]
theorem ends_book {B:Int} {c:CalT} (hc:CalG c) {b:Bk.El} (hE:Ends B c) (hb:enB b≤B):Ends B (bookF c b):=by
 intro l hl x hx
 have hg:=(book_good hc b).1
 cases hf:freeF c b
 ·rw [book_no hf] at hl
  exact hE _ hl x hx
 ·obtain ⟨i,hi,rfl⟩:=List.getElem_of_mem hl
  have hi60:i < 60:=by rw [← hg.len];exact hi
  have hx':x∈toolL (bookF c b) (i:Int):=by
   unfold toolL getI
   rw [List.getD_eq_getElem?_getD,show ((i:Int)).toNat=i by omega,List.getElem?_eq_getElem hi]
   exact hx
  rcases (tool_book hc hf (by omega) (by omega)).1 hx' with ⟨rfl,_⟩|h
  ·exact hb
  ·exact tool_ends hE x h
theorem ends_mono {B B':Int} {c:CalT} (h:Ends B c) (hB:B≤B'):Ends B' c:=fun l hl x hx=>Int.le_trans (h l hl x hx) hB
theorem bookG_sh {k B ln fr tl:Int} {c:CalT} (hc:CalG c) (hE:Ends B c) (h0:0≤k) (hf:0≤fr) (hfB:fr≤B) (hB:B+k+ln≤1000000) (hl:0≤ln) :
 bookG (shC k c) tl (fr+k) ln=shC k (bookG c tl fr ln)∧Ends (B+ln) (bookG c tl fr ln):=by
 have hg:=good_sh hc hE h0 (show B+k≤1000000 by omega)
 rcases firstF_sh (tl:=tl) hc hE h0 hf hfB hB with ⟨h1,h2⟩|⟨h1,h2,h3,h4⟩
 ·unfold bookG
  rw [h1,h2]
  exact ⟨rfl,ends_mono hE (by omega)⟩
 ·obtain ⟨_,_,f1⟩:=first_facts hc h1
  obtain ⟨_,_,f2⟩:=first_facts hg (tl:=tl) (fr:=fr+k) (ln:=ln) (by rw [h4])
  rw [bookG_eq h1,bookG_eq (by rw [h4])]
  rw [h4] at f2 ⊢
  have e:((tl,(firstF c tl fr ln).1+k,(firstF c tl fr ln).1+k+ln,1):Bk.El)=shB k (tl,(firstF c tl fr ln).1,(firstF c tl fr ln).1+ln,1):=by
   unfold shB
   show (tl,(firstF c tl fr ln).1+k,(firstF c tl fr ln).1+k+ln,(1:Int))=(tl,(firstF c tl fr ln).1+k,(firstF c tl fr ln).1+ln+k,(1:Int))
   rw [show (firstF c tl fr ln).1+k+ln=(firstF c tl fr ln).1+ln+k by omega]
  have f2:freeF (shC k c) (tl,(firstF c tl fr ln).1+k,(firstF c tl fr ln).1+k+ln,1)=true:=f2
  rw [e] at f2
  refine ⟨?_,ends_book hc (ends_mono hE (by omega)) (by show (firstF c tl fr ln).1+ln≤_;omega)⟩
  show bookF (shC k c) (tl,(firstF c tl fr ln).1+k,(firstF c tl fr ln).1+k+ln,1)=_
  rw [e,book_sh f1 f2]
theorem stG_sh {k b:Int} (h0:0≤k) (hb0:0≤b) (hb:b≤10000):∀ {ns:List NeedT} {c:CalT} {t B:Int} {ch:List PairT},CalG c→Ends B c→0≤t→t≤B→(∀ x∈ns,(0:Int)≤x.2.2∧x.2.2≤(10000:Int)) →
 B+40000 * (ns.length:Int)+k≤900000→stG b (shC k c) (t+k) ns ch=(stG b c t ns ch).map (List.map (shS k))
 | [],c,t,B,ch,_,_,_,_,_,_=>rfl
 | _::_,c,t,B,[],_,_,_,_,_,_=>rfl
 | x::ns,c,t,B,p::ch,hc,hE,ht,htB,hx,hB=>by
   obtain ⟨x0,x1⟩:=hx x (by simp)
   rw [List.length_cons] at hB
   have hE1:Ends (B+b) c:=ends_mono hE (by omega)
   have e1:t+k+b=t+b+k:=by omega
   simp only [stG]
   rw [e1]
   have hk1:=bookG_sh (tl:=p.1) (fr:=t+b) (ln:=x.2.2) hc hE1 h0 (by omega) (by omega) (by omega) x0
   have hg1:=(bookG_good hc p.1 (t+b) x.2.2).1
   rcases firstF_sh (tl:=p.1) (fr:=t+b) (ln:=x.2.2) hc hE1 h0 (by omega) (by omega) (by omega) with ⟨h1,h2⟩|⟨h1,h2,h3,h4⟩
   ·rw [h1,h2]
    rfl
   ·have x2:(1:Int)≤x.2.2:=(first_facts hc h1).1.2.2
    rw [h1,h4,hk1.1,cond_true,cond_true]
    obtain ⟨v,hv⟩:∃ v,v=(firstF c p.1 (t+b) x.2.2).1:=⟨_,rfl⟩
    obtain ⟨c1,hc1⟩:∃ c1,c1=bookG c p.1 (t+b) x.2.2:=⟨_,rfl⟩
    rw [← hv] at h2 h3
    rw [← hc1] at hk1 hg1
    rw [← hv,← hc1]
    have e2:v+k+x.2.2 - 1+b=v+x.2.2 - 1+b+k:=by omega
    dsimp only
    rw [e2]
    have hE2:Ends (B+b+x.2.2+b) c1:=ends_mono hk1.2 (by omega)
    have hk2:=bookG_sh (tl:=p.2) (fr:=v+x.2.2 - 1+b) (ln:=x.2.2) hg1 hE2 h0 (by omega) (by omega) (by omega) x0
    have hg2:=(bookG_good hg1 p.2 (v+x.2.2 - 1+b) x.2.2).1
    rcases firstF_sh (tl:=p.2) (fr:=v+x.2.2 - 1+b) (ln:=x.2.2) hg1 hE2 h0 (by omega) (by omega) (by omega) with ⟨h5,h6⟩|⟨h5,h6,h7,h8⟩
    ·rw [h5,h6]
     rfl
    ·rw [h5,h8,hk2.1,cond_true,cond_true]
     obtain ⟨u,hu⟩:∃ u,u=(firstF c1 p.2 (v+x.2.2 - 1+b) x.2.2).1:=⟨_,rfl⟩
     rw [← hu] at h6 h7
     rw [← hu]
     dsimp only
     rw [show max (v+k) (u+k)+x.2.2=max v u+x.2.2+k by omega]
     have ih:=stG_sh h0 hb0 hb (ns:=ns) (c:=bookG c1 p.2 (v+x.2.2 - 1+b) x.2.2) (t:=max v u+x.2.2) (B:=B+40000) (ch:=ch) hg2 (ends_mono hk2.2 (by omega)) (by omega) (by omega) (fun y hy=>hx y (by simp [hy])) (by omega)
     rw [ih,Option.map_map,Option.map_map]
     rfl
theorem getI_map {α β:Type} {f:α→β} {d:α} {d':β} {l:List α} {i:Nat} (h:i < l.length):getI (l.map f) d' i=f (getI l d i):=by
 unfold getI
 rw [List.getD_eq_getElem?_getD,List.getD_eq_getElem?_getD,List.getElem?_map,List.getElem?_eq_getElem h]
 rfl
theorem slotsG_sh {k b:Int}:∀ {xs:List StT},slotsG b (xs.map (shS k))=slotsG b xs
 | []=>rfl
 | [x]=>by
   show [sSt x+k - (mSt x+k+sMax x - 1+b)]=[sSt x - (mSt x+sMax x - 1+b)]
   congr 1
   omega
 | x::y::r=>by
   have ih:=slotsG_sh (k:=k) (b:=b) (xs:=y::r)
   rw [slotsG_cons,← ih]
   show [sSt x+k - (mSt x+k+sMax x - 1+b),mSt y+k - (mSt x+k+sMax x+b),(if mTl y=mTl x then sSt y+k else mSt y+k) - (sSt x+k+sMax x+b)]++_=_
   congr 1
   rw [show sSt x+k - (mSt x+k+sMax x - 1+b)=sSt x - (mSt x+sMax x - 1+b) by omega,show mSt y+k - (mSt x+k+sMax x+b)=mSt y - (mSt x+sMax x+b) by omega]
   congr 2
   congr 1
   split <;> omega
theorem slotsF_sh {k e b:Int} {xs:List StT} (h:1≤xs.length):slotsF (e+k) b (xs.map (shS k))=slotsF e b xs:=by
 unfold slotsF
 rw [slotsG_sh,getI_map (d:=tStage.dflt) (show 0 < xs.length by omega)]
 congr 1
 show mSt (getI xs tStage.dflt 0)+k - (e+k+b)=_
 omega
theorem windowsF_sh {k:Int} {xs:List StT} {ws:List tWin.El} (h:∀ w∈ws,WiSm xs.length w.1 w.2.1 w.2.2):windowsF (xs.map (shS k)) ws=windowsF xs ws:=by
 unfold windowsF
 refine List.map_congr_left fun w hw=>?_
 have:=h w hw
 unfold WiSm at this
 unfold winM
 rw [getI_map (d:=tStage.dflt) (show w.1.toNat < xs.length by omega),getI_map (d:=tStage.dflt) (show w.2.1.toNat < xs.length by omega)]
 show mSt (getI xs tStage.dflt w.1.toNat)+k+sMin (getI xs tStage.dflt w.1.toNat)+w.2.2 - (sSt (getI xs tStage.dflt w.2.1.toNat)+k)=_
 omega
theorem valid_sh {k e a b:Int} {xs:List StT} {ws:List tWin.El} (h0:0≤k) (he:0≤e∧e+k≤1000000) (hx:∀ x∈xs,(0≤mSt x∧mSt x+sMax x+k≤1000000)∧0≤sSt x∧sSt x+sMax x+k≤1000000) :
 Pl.validF (e+k) a b (xs.map (shS k)) ws=Pl.validF e a b xs ws:=by
 unfold Pl.validF
 have h1:Pl.withinF (e+k) 0 1000000=Pl.withinF e 0 1000000:=by
  unfold Pl.withinF
  rw [decide_eq_true (show (0:Int)≤e+k by omega),decide_eq_true (show e+k≤1000000 by omega),decide_eq_true (show (0:Int)≤e by omega),decide_eq_true (show e≤1000000 by omega)]
 have h2:(xs.map (shS k)).any Pl.badSt=xs.any Pl.badSt:=by
  rw [List.any_map,Bool.eq_iff_iff,List.any_eq_true,List.any_eq_true]
  have e:∀ x∈xs,Pl.badSt (shS k x)=Pl.badSt x:=fun x hxm=>by
   obtain ⟨⟨m0,m1⟩,s0,s1⟩:=hx x hxm
   have w1:∀ v:Int,0≤v→v+sMax x+k≤1000000→Pl.withinF (v+k) 0 (1000000 - sMax x)=Pl.withinF v 0 (1000000 - sMax x):=fun v v0 v1=>by
    unfold Pl.withinF
    rw [decide_eq_true (show (0:Int)≤v+k by omega),decide_eq_true (show v+k≤1000000 - sMax x by omega),decide_eq_true (show (0:Int)≤v by omega),decide_eq_true (show v≤1000000 - sMax x by omega)]
   show (!(Pl.withinF (sMin x) 1 (sMax x)&&decide (sMax x≤10000)&&(Pl.withinF (mTl x) 0 59&&Pl.withinF (mSt x+k) 0 (1000000 - sMax x))&&(Pl.withinF (sTl x) 0 59&&Pl.withinF (sSt x+k) 0 (1000000 - sMax x))&&decide (mTl x≠sTl x)))=_
   rw [w1 _ m0 m1,w1 _ s0 s1]
   rfl
  constructor
  ·rintro ⟨x,h1,h2⟩
   exact ⟨x,h1,by rw [← e x h1];exact h2⟩
  ·rintro ⟨x,h1,h2⟩
   exact ⟨x,h1,by show Pl.badSt (shS k x)=true;rw [e x h1];exact h2⟩
 rw [h1,h2,List.length_map]
theorem safe_sh {k e a b:Int} {xs:List StT} {ws:List tWin.El} (h0:0≤k) (hn:1≤xs.length) (he:0≤e∧e+k≤1000000) (hx:∀ x∈xs,(0≤mSt x∧mSt x+sMax x+k≤1000000)∧0≤sSt x∧sSt x+sMax x+k≤1000000) :
 safeF (e+k) a b (xs.map (shS k)) ws=safeF e a b xs ws:=by
 unfold safeF
 rw [valid_sh h0 he hx,slotsF_sh hn]
 cases hv:Pl.validF e a b xs ws with
 | false=>rfl
 | true =>
   obtain ⟨_,_,_,hw⟩:=facts_slots (Pl.valid_facts hv)
   rw [windowsF_sh hw]
def shY (k:Int) (y:List StT × Int):List StT × Int:=(y.1.map (shS k),y.2+k)
theorem over_sh {k:Int} {x:StT}:overG (shS k x)=overG x+k:=by
 show max (mSt x+k) (sSt x+k)+sMax x=max (mSt x) (sSt x)+sMax x+k
 omega
theorem last_sh {k:Int} {xs:List StT} (h:1≤xs.length):overG (lastG (xs.map (shS k)))=overG (lastG xs)+k:=by
 unfold lastG
 rw [List.length_map,getI_map (d:=tStage.dflt) (by omega)]
 exact over_sh
theorem step_sh {k B e a b:Int} {c:CalT} {ns:List NeedT} {ws:List tWin.El} (hc:CalG c) (hE:Ends B c) (h0:0≤k) (he:0≤e) (heB:e≤B) (hb0:0≤b) (hb:b≤10000) (hn:1≤ns.length)
 (hx:∀ x∈ns,(0:Int)≤x.2.2∧x.2.2≤(10000:Int)) (hB:B+40000 * (ns.length:Int)+k≤900000) (s:BestT) (ch:List PairT) :
 stepG (shC k c) (e+k) a b ns ws [] (s.map (shY k)) ch=(stepG c e a b ns ws [] s ch).map (shY k):=by
 have hg:=good_sh hc hE h0 (show B+k≤1000000 by omega)
 have hst:=stG_sh h0 hb0 hb hc hE he heB hx hB (ch:=ch)
 unfold stepG
 rw [hst]
 cases hs:stG b c e ns ch with
 | none=>rfl
 | some xs =>
   obtain ⟨hl,hf⟩:=stG_facts hc hs
   obtain ⟨_,hf'⟩:=stG_facts hg (show stG b (shC k c) (e+k) ns ch=some (xs.map (shS k)) by rw [hst,hs];rfl)
   have hx1:1≤xs.length:=by omega
   have hsb:∀ x∈xs,(0≤mSt x∧mSt x+sMax x+k≤1000000)∧0≤sSt x∧sSt x+sMax x+k≤1000000:=fun x hx=>by
    have h1:=hf x hx
    have h2:=hf' (shS k x) (List.mem_map.2 ⟨x,hx,rfl⟩)
    have h3:mSt x+k+sMax x≤1000000:=h2.m1
    have h4:sSt x+k+sMax x≤1000000:=h2.s1
    have:=h1.m0
    have:=h1.s0
    exact ⟨⟨by omega,by omega⟩,by omega,by omega⟩
   have e1:∀ ys:List StT,lateAny [] ys=false:=fun ys=>lateAny_no fun j _=>rfl
   have e2:(s.map (shY k)).isSome=s.isSome:=by cases s <;> rfl
   have e3:((s.map (shY k)).isSome&&decide (overG (lastG (xs.map (shS k)))≥bLst (s.map (shY k))))=(s.isSome&&decide (overG (lastG xs)≥bLst s)):=by
    rw [e2,last_sh hx1]
    cases s with
    | none=>rfl
    | some y =>
      show decide (overG (lastG xs)+k≥y.2+k)=decide (overG (lastG xs)≥y.2)
      congr 1
      exact propext ⟨fun h=>by omega,fun h=>by omega⟩
   show (bif (s.map (shY k)).isSome&&decide (overG (lastG (xs.map (shS k)))≥bLst (s.map (shY k))) then s.map (shY k) else bif lateAny [] (xs.map (shS k)) then s.map (shY k) else bif safeF (e+k) a b (xs.map (shS k)) ws then some (xs.map (shS k),overG (lastG (xs.map (shS k)))) else s.map (shY k))=_
   rw [e3,e1,safe_sh h0 hx1 ⟨he,by omega⟩ hsb,last_sh hx1]
   show _=Option.map (shY k) (bif s.isSome&&decide (overG (lastG xs)≥bLst s) then s else bif lateAny [] xs then s else bif safeF e a b xs ws then some (xs,overG (lastG xs)) else s)
   rw [e1]
   cases (s.isSome&&decide (overG (lastG xs)≥bLst s))
   ·cases safeF e a b xs ws <;> rfl
   ·rfl
theorem fold_sh {k B e a b:Int} {c:CalT} {ns:List NeedT} {ws:List tWin.El} (hc:CalG c) (hE:Ends B c) (h0:0≤k) (he:0≤e) (heB:e≤B) (hb0:0≤b) (hb:b≤10000) (hn:1≤ns.length)
 (hx:∀ x∈ns,(0:Int)≤x.2.2∧x.2.2≤(10000:Int)) (hB:B+40000 * (ns.length:Int)+k≤900000):∀ (l:List (List PairT)) (s:BestT),
 l.foldl (stepG (shC k c) (e+k) a b ns ws []) (s.map (shY k))=(l.foldl (stepG c e a b ns ws []) s).map (shY k)
 | [],_=>rfl
 | ch::l,s=>by
   rw [List.foldl_cons,List.foldl_cons,step_sh hc hE h0 he heB hb0 hb hn hx hB,fold_sh hc hE h0 he heB hb0 hb hn hx hB l]
theorem rvalid_sh {k e a b:Int} {ns:List tNeed.El} {ws:List tWin.El} (h0:0≤k) (he:0≤e) (he1:e+k≤1000000):rvalidF (e+k) a b ns ws=rvalidF e a b ns ws:=by
 unfold rvalidF headBad
 rw [show inF (e+k) 0 1000000=true by unfold inF;simp;omega,show inF e 0 1000000=true by unfold inF;simp;omega]
theorem make_sh {k B e a b:Int} {c:CalT} {ns:List NeedT} {ws:List tWin.El} (hc:CalG c) (hE:Ends B c) (h0:0≤k) (he:0≤e) (heB:e≤B) (hB:B+160000+k≤900000) :
 makeG (shC k c) (e+k) a b ns ws=(makeG c e a b ns ws).map (shY k):=by
 unfold makeG
 rw [rvalid_sh h0 he (by omega)]
 cases hr:rvalidF e a b ns ws with
 | false=>rfl
 | true =>
   obtain ⟨h1,h2,h3,h4⟩:=rvalid_facts hr
   rw [cond_true,cond_true]
   exact fold_sh hc hE h0 he heB (by omega) h2.2.2 h3.1 (fun x hx=>by
    obtain ⟨_,k1,k2,k3⟩:=h4 x hx
    exact ⟨Int.le_trans (Int.le_trans (by decide) k1) k2,k3⟩) (by have:=h3.2.1;omega) _ none
theorem ends_all {B:Int}:∀ {l:List Bk.El} {c:CalT},CalG c→Ends B c→(∀ b∈l,enB b≤B)→Ends B (bookAll l c)
 | [],_,_,h,_=>h
 | b::l,c,hc,h,hl=>(show Ends B (bookAll l (bookF c b)) from ends_all (c:=bookF c b) (book_good hc b).1 (ends_book hc h (hl b (by simp))) fun d hd=>hl d (by simp [hd]))
theorem flat_len {c:CalT}:c.flatten.length=lenF c:=by unfold lenF;rw [List.length_flatten]
end Go.AM.YtkgmmmhokgdcaaaGreat.Re
