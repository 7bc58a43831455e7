/- A box under a new name. -/
import Derived.Test.YtdohkcddjoammaaPw26
set_option linter.all false
namespace Go.AM
mutual
theorem ren_no {f:Nat→Nat}:∀ {c:AV},AV.within (fun _=>false) c=true→c.ren f=c
  | .int _ _,_=>rfl
  | .bool _,_=>rfl
  | .str _,_=>rfl
  | .sl _ _,_=>rfl
  | .el _ _ _ _,_=>rfl
  | .own _,h=>by simp [AV.within] at h
  | .oel _ _ _ _,h=>by simp [AV.within] at h
  | .part _ _ _,h=>by simp [AV.within] at h
  | .head _ _ _,h=>by simp [AV.within] at h
  | .ptr _ _,h=>by simp [AV.within] at h
  | .agg cs,h=>by simp only [AV.within] at h;simp only [AV.ren,renL_no h]
  | .tup cs,h=>by simp only [AV.within] at h;simp only [AV.ren,renL_no h]
  | .fn _ cs ds,h=>by
    simp only [AV.within] at h
    split at h
    · rename_i h1;simp only [AV.ren,renL_no h1,renL_no h]
    · cases h
  | .nilsl,_=>rfl
  | .nilptr,_=>rfl
  | .nilfn,_=>rfl
  | .ext _,_=>rfl
  | .junk,_=>rfl
theorem renL_no {f:Nat→Nat}:∀ {cs:List AV},withinL (fun _=>false) cs=true→renL f cs=cs
  | [],_=>rfl
  | c::r,h=>by
    simp only [withinL] at h
    split at h
    · rename_i h1;simp only [renL,ren_no h1,renL_no h]
    · cases h
end
def noRow:AObj→Bool
  | .box cs=>withinL (fun _=>false) cs
  | _=>false
theorem noRow_ren {o:AObj} {f:Nat→Nat} (h:noRow o=true):o.ren f=o:=by
  cases o <;> simp [noRow] at h
  rename_i cs
  simp only [AObj.ren,renL_no h]
def reBSt (r d:Nat) (st:St):Option St:=match look st.rows r,mem st.ks d,Nat.blt d 100000 with
  | some o,false,true=>match noRow o with
    | true=>match st with
      | ⟨n,slots,gt,ks,rows⟩=>forceE (reS r d slots) fun slots=>forceR (reR r d rows) fun rows=>forceO o fun o=>some ⟨n,slots,gt,d::ks,(d,o)::rows⟩
    | false=>none
  | _,_,_=>none
section
variable {P:Program} {tt:TT} {S:Nat→Option Spec} {E:Env P tt S} {K:List Nat} {c b:Code} {st:St} {Q:AExit→St→Prop}
theorem reB_sound {C:Ctx} {g:Nat→Gh} {R:Nat→Prop} {a:Act} {w:World} {r d:Nat} {m:St} (h:reBSt r d st=some m) (hrel:Rel C g R st a w):∃ g',Rel C g' R m a w:=by
  unfold reBSt at h
  split at h <;> try (cases h;done)
  rename_i oo ho hd hlt
  split at h <;> try (cases h;done)
  rename_i hpl
  obtain ⟨n,slots,gt,ks,rows⟩:=st
  simp only [forceE_eq,forceR_eq,forceO_eq,Option.some.injEq] at h
  subst h
  have hk:mem ks r=true:=hrel.heap.keys r _ ho
  have hdr:d≠r:=fun e=>by subst e;rw [hk] at hd;cases hd
  obtain ⟨g',hg'⟩:∃ g':Nat→Gh,g'=fun k=>if k=d then g r else g k:=⟨_,rfl⟩
  have hgd:g' d=g r:=by rw [hg'];simp
  have hgk:∀ k,mem ks k=true→g' k=g k:=fun k hk=>by
    rw [hg']
    have:k≠d:=fun e=>by subst e;rw [hk] at hd;cases hd
    simp [this]
  have hmd:∀ k,mem (d::ks) k=true↔(k=d∨mem ks k=true):=fun k=>by rw [mem_cons];simp only [Bool.or_eq_true,decide_eq_true_eq];exact ⟨fun h=>h.imp Eq.symm id,fun h=>h.imp Eq.symm id⟩
  have hren:∀ k,mem ks k=true→mem (d::ks) (reF r d k)=true∧g' (reF r d k)=g k:=fun k hk=>by
    unfold reF
    cases hb:Nat.beq k r
    · exact ⟨(hmd k).2 (.inr hk),hgk k hk⟩
    · rw [beq_eq hb];exact ⟨(hmd d).2 (.inl rfl),hgd⟩
  have hlk:∀ i o,look ((d,oo)::reR r d rows) i=some o→(i=d∧o=oo)∨(i≠d∧i=r∧o=.dead)∨(i≠d∧i≠r∧∃ o0,look rows i=some o0∧o=AObj.ren (reF r d) o0):=fun i o h=>by
    rw [look_cons] at h
    by_cases e:d=i
    · simp [e] at h;exact .inl ⟨e.symm,h.symm⟩
    · simp [e] at h
      rcases look_reR h with ⟨h1,h2⟩|⟨h1,h2⟩
      · exact .inr (.inl ⟨Ne.symm e,h1,h2⟩)
      · exact .inr (.inr ⟨Ne.symm e,h1,h2⟩)
  have hOwn:∀ i o b,look ((d,oo)::reR r d rows) i=some o→Own g' w i o b→∃ i0 o0,look rows i0=some o0∧Own g w i0 o0 b∧((i=d∧i0=r)∨(i=i0∧i≠r)):=fun i o b h hb=>by
    rcases hlk i o h with ⟨rfl,rfl⟩|⟨_,_,rfl⟩|⟨_,h1,o0,h2,rfl⟩
    · rw [← noRow_ren (f:=reF r i) hpl,Own_ren hgd] at hb
      exact ⟨r,_,ho,hb,.inl ⟨rfl,rfl⟩⟩
    · simp [Own] at hb
    · rw [Own_ren (hgk i (hrel.heap.keys i _ h2))] at hb
      exact ⟨i,o0,h2,hb,.inr ⟨rfl,h1⟩⟩
  refine ⟨g',hrel.size,hrel.defers,fun i e hi=>?_,fun i e hi u x hx=>?_,?_⟩
  · obtain ⟨e0,h1,rfl⟩:=look_reS hi
    obtain ⟨h2,h3⟩:=hrel.slots i e0 h1
    exact ⟨fun hp=>by obtain ⟨v,h4,h5⟩:=h2 hp;exact ⟨v,h4,RelV_ren hren h5⟩,h3⟩
  · obtain ⟨e0,h1,rfl⟩:=look_reS hi
    exact hrel.gts i e0 h1 u x hx
  · have hh:=hrel.heap
    refine ⟨hh.hsize,hh.os,hh.tape,hh.output,hh.frame,hh.rsub,hh.rlt,hh.rnew,fun k hk hm=>?_,fun i o hi=>?_,fun i o hi=>?_,fun i o b hi hb=>?_,fun i j o o' b h1 h2 h3 h4=>?_⟩
    · rcases (hmd k).1 hm with rfl|hm
      · have:k < 100000:=by simpa using hlt
        omega
      · rw [hgk k hm];exact hh.gfix k hk hm
    · rcases hlk i o hi with ⟨rfl,_⟩|⟨_,rfl,_⟩|⟨_,_,o0,h2,_⟩
      · exact (hmd _).2 (.inl rfl)
      · exact (hmd _).2 (.inr hk)
      · exact (hmd _).2 (.inr (hh.keys _ _ h2))
    · rcases hlk i o hi with ⟨rfl,rfl⟩|⟨_,_,rfl⟩|⟨_,_,o0,h2,rfl⟩
      · have:=RowH_ren (K':=fun k=>mem (i::ks) k=true) hren hgd (hh.held r _ ho)
        rwa [noRow_ren hpl] at this
      · trivial
      · exact RowH_ren hren (hgk i (hh.keys _ _ h2)) (hh.held i _ h2)
    · obtain ⟨i0,o0,h1,h2,_⟩:=hOwn i o b hi hb
      exact hh.own i0 o0 b h1 h2
    · obtain ⟨i0,o0,h5,h6,h7⟩:=hOwn i o b h1 h3
      obtain ⟨j0,o1,h8,h9,h10⟩:=hOwn j o' b h2 h4
      have e:=hh.sep i0 j0 o0 o1 b h5 h8 h6 h9
      subst e
      rcases h7 with ⟨h7,h7'⟩|⟨h7,h7'⟩
      · rcases h10 with ⟨h10,_⟩|⟨h10,h10'⟩
        · rw [h7,h10]
        · exact absurd (h10.trans h7') h10'
      · rcases h10 with ⟨h10,h10'⟩|⟨h10,_⟩
        · exact absurd (h7.trans h10') h7'
        · rw [h7,h10]
theorem renameB (r d:Nat) {m:St} (h:reBSt r d st=some m) (k:WP E K c m Q):WP E K c st Q:=fun hc C g R a w Z hrel hq=>by
  obtain ⟨g',hr⟩:=reB_sound h hrel
  exact k hc C g' R a w Z hr hq
end
end Go.AM
