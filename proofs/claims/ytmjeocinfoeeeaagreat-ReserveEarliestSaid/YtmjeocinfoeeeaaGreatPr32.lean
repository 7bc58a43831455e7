/- ReEb. -/
import Derived.Test.YtmjeocinfoeeeaaGreatPr26
import Derived.Test.YtmjeocinfoeeeaaGreatPr31

section
set_option linter.all false
namespace Go.AM.YtmjeocinfoeeeaaGreat.Re
open Go.Proofs
set_option maxRecDepth 100000
set_option maxHeartbeats 4000000
abbrev BkL := List Bk.El
def rCloneS : Spec := ⟨true, fun args rows => match args, rows with
  | [.ptr 0 0], [.box [.own 1], .seq (.pair (.int .i64) (.pair (.int .i64) (.pair (.int .i64) (.int .i64)))) xs] => some ⟨List.length (α := Bk.El) xs ≤ 1000000, .ptr 2 0, [.box [.own 1], .seq Bk xs, .box [.own 3], .seq Bk xs], true⟩
  | _, _ => none⟩
theorem rCloneOk : SpecSound Tryz.prog 40 rCloneS := by
  refine soundR (envOf sigNil) Tryz.func40 (c := body Tryz.f40) rfl (by kernel_rfl) rfl ?_
  intro args rows out hf hpre
  split at hf <;> try (cases hf; done)
  rename_i xs
  cases hf
  refine ⟨Nat.le_of_ble_eq_true rfl, initI (args := [.ptr 0 0]) (rows := [.box [.own 1], .seq Bk xs]) rfl ?_⟩
  have hxs : List.length (α := Bk.El) xs ≤ 1000000 := hpre
  repeat' (first|with_reducible (first|apply pN|apply cN|apply bN|apply cE|apply cR|apply bR|apply lE|apply lR|apply jE|apply jR)|refine bE rfl ?_|refine bP rfl ?_|refine pC (by first|exact ⟨⟩|omega|(intros;first|exact ⟨⟩|omega)|(simp only [lcQ, lnQ, tnQ];omega)|first|(simp only [List.length_nil];omega)|omega) ?_|refine seqI rfl ?_|refine regI rfl ?_|refine scopeI rfl ?_|refine blockI rfl ?_|refine exitI rfl ?_|refine retI rfl ?_|refine skipI rfl ?_)
  refine endR rfl ?_
  repeat' (first | exact trivial | exact rfl | refine ⟨rfl, ?_⟩ | refine And.intro ?_ ?_)
def bookRR (xs : BkL) (tl fr ln : Int) : BkL := bif (refFirstF xs tl fr ln).2 then bookR xs (tl, (refFirstF xs tl fr ln).1, (refFirstF xs tl fr ln).1 + ln, 1) else xs
theorem rfirst_facts {xs : BkL} {tl fr ln : Int} (h : (refFirstF xs tl fr ln).2 = true) : 1 ≤ ln ∧ 0 ≤ (refFirstF xs tl fr ln).1 ∧ (refFirstF xs tl fr ln).1 + ln ≤ 1000000 := by
  have hle := foldR_le tl ln xs (max fr 0)
  have hmx : 0 ≤ max fr 0 := Int.le_max_right _ _
  unfold refFirstF at h ⊢
  split at h
  · cases h
  · rename_i h1
    rw [if_neg h1]
    split at h
    · cases h
    · rename_i h2
      rw [if_neg h2]
      exact ⟨by omega, by show 0 ≤ foldR tl ln xs (max fr 0); omega, by show foldR tl ln xs (max fr 0) + ln ≤ 1000000; omega⟩
theorem rfirst_no {xs : BkL} {tl fr ln : Int} (h : (refFirstF xs tl fr ln).2 = false) : (refFirstF xs tl fr ln).1 = 0 := by
  unfold refFirstF at h ⊢
  split at h
  · rename_i h1
    rw [if_pos h1]
  · rename_i h1
    rw [if_neg h1]
    split at h
    · rename_i h2
      rw [if_pos h2]
    · cases h
theorem bookR_len (xs : BkL) (b : Bk.El) : (bookR xs b).length ≤ xs.length + 1 := by
  unfold bookR
  split
  · rw [List.length_append, List.length_append, List.length_take, List.length_drop]
    show _ + (1 + _) ≤ _
    omega
  · omega
theorem bookRR_len (xs : BkL) (tl fr ln : Int) : (bookRR xs tl fr ln).length ≤ xs.length + 1 := by
  unfold bookRR
  cases (refFirstF xs tl fr ln).2
  · exact Nat.le_succ _
  · exact bookR_len _ _
def slotS : Spec := ⟨true, fun args rows => match args, rows with
  | [.ptr 0 0, .int .i64 tl, .int .i64 fr, .int .i64 ln], [.box [.own 1], .seq (.pair (.int .i64) (.pair (.int .i64) (.pair (.int .i64) (.int .i64)))) xs] =>
    some ⟨List.length (α := Bk.El) xs ≤ 90000, .tup [.agg [.int .i64 (bif (refFirstF xs tl fr ln).2 then tl else 0), .int .i64 (refFirstF xs tl fr ln).1], .bool (refFirstF xs tl fr ln).2], [.box [.own 2], .dead, .seq Bk (bookRR xs tl fr ln)], true⟩
  | _, _ => none⟩
def sigSlot : List (Nat × Spec) := [(75, refFirstS), (36, refBookS)]
theorem sigSlotOk : SigOk Tryz.prog (look sigSlot) := sigCons (sigCons sigNil
  Tryz.func36 (by kernel_rfl) (c := body Tryz.f36) rfl refBookOk)
  Tryz.func75 (by kernel_rfl) (c := body Tryz.f75) rfl refFirstOk
theorem slotOk : SpecSound Tryz.prog 41 slotS := by
  refine soundR (envOf sigSlotOk) Tryz.func41 (c := body Tryz.f41) rfl (by kernel_rfl) rfl ?_
  intro args rows out hf hpre
  split at hf <;> try (cases hf; done)
  rename_i tl fr ln xs
  cases hf
  refine ⟨Nat.le_of_ble_eq_true rfl, initI (args := [.ptr 0 0, .int .i64 tl, .int .i64 fr, .int .i64 ln]) (rows := [.box [.own 1], .seq Bk xs]) rfl ?_⟩
  have hxs : List.length (α := Bk.El) xs ≤ 90000 := hpre
  obtain ⟨bg, hbg⟩ : ∃ bg, bg = bookRR xs tl fr ln := ⟨_, rfl⟩
  rw [← hbg]
  repeat' (first|with_reducible (first|apply pN|apply cN|apply bN|apply cE|apply cR|apply bR|apply lE|apply lR|apply jE|apply jR)|refine bE rfl ?_|refine bP rfl ?_|refine pC (by first|exact ⟨⟩|omega|(intros;first|exact ⟨⟩|omega)|(simp only [lcQ, lnQ, tnQ];omega)|(show List.length (α := Bk.El) xs ≤ _;omega)) ?_|refine seqI rfl ?_|refine regI rfl ?_|refine scopeI rfl ?_|refine blockI rfl ?_|refine exitI rfl ?_|refine retI rfl ?_|refine skipI rfl ?_)
  refine condI rfl (fun c1 => ?_) (fun c1 => ?_)
  · have c1' : (refFirstF xs tl fr ln).2 = false := by simpa using c1
    have h0 := rfirst_no c1'
    have hb : bg = xs := by rw [hbg]; unfold bookRR; rw [c1']; rfl
    rw [hb]
    refine renameI 100001 3000 rfl ?_
    repeat' (first|with_reducible (first|apply pN|apply cN|apply bN|apply cE|apply cR|apply bR|apply lE|apply lR|apply jE|apply jR)|refine bE rfl ?_|refine bP rfl ?_|refine pC (by first|exact ⟨⟩|omega|(intros;first|exact ⟨⟩|omega)|(simp only [lcQ, lnQ, tnQ];omega)) ?_|refine seqI rfl ?_|refine regI rfl ?_|refine scopeI rfl ?_|refine blockI rfl ?_|refine exitI rfl ?_|refine retI rfl ?_|refine skipI rfl ?_)
    refine endR rfl ?_
    repeat' (first | exact trivial | exact rfl | refine ⟨rfl, ?_⟩ | refine And.intro ?_ ?_)
    all_goals first | rfl | (exact h0.symm) | (exact h0) | (rw [c1']; rfl) | (rw [c1'])
  · have c1' : (refFirstF xs tl fr ln).2 = true := by simpa using c1
    obtain ⟨h1, h2, h3⟩ := rfirst_facts c1'
    have hb : bg = bookR xs (tl, (refFirstF xs tl fr ln).1, (refFirstF xs tl fr ln).1 + ln, 1) := by rw [hbg]; unfold bookRR; rw [c1']; rfl
    rw [hb]
    repeat' (first|with_reducible (first|apply pN|apply cN|apply bN|apply cE|apply cR|apply bR|apply lE|apply lR|apply jE|apply jR)|refine bE rfl ?_|refine bP rfl ?_|refine pC (by first|exact ⟨⟩|omega|(intros;first|exact ⟨⟩|omega)|(simp only [lcQ, lnQ, tnQ];omega)|first|(show List.length (α := Bk.El) xs ≤ _;omega)|(unfold In64;omega)|omega) ?_|refine seqI rfl ?_|refine regI rfl ?_|refine scopeI rfl ?_|refine blockI rfl ?_|refine exitI rfl ?_|refine retI rfl ?_|refine skipI rfl ?_)
    refine endR rfl ?_
    repeat' (first | exact trivial | exact rfl | refine ⟨rfl, ?_⟩ | refine And.intro ?_ ?_)
    all_goals first | rfl | (rw [c1']; rfl) | (rw [c1'])
def stR (b : Int) : BkL → Int → List NeedT → List PairT → Option (List StT)
  | _, _, [], _ => some []
  | _, _, _ :: _, [] => none
  | c, t, x :: ns, p :: ch =>
    bif (refFirstF c p.1 (t + b) x.2.2).2 then
      bif (refFirstF (bookRR c p.1 (t + b) x.2.2) p.2 ((refFirstF c p.1 (t + b) x.2.2).1 + x.2.2 - 1 + b) x.2.2).2 then
        (stR b (bookRR (bookRR c p.1 (t + b) x.2.2) p.2 ((refFirstF c p.1 (t + b) x.2.2).1 + x.2.2 - 1 + b) x.2.2)
          (max (refFirstF c p.1 (t + b) x.2.2).1 (refFirstF (bookRR c p.1 (t + b) x.2.2) p.2 ((refFirstF c p.1 (t + b) x.2.2).1 + x.2.2 - 1 + b) x.2.2).1 + x.2.2) ns ch).map
          fun l => (x.2.1, x.2.2, (p.1, (refFirstF c p.1 (t + b) x.2.2).1), (p.2, (refFirstF (bookRR c p.1 (t + b) x.2.2) p.2 ((refFirstF c p.1 (t + b) x.2.2).1 + x.2.2 - 1 + b) x.2.2).1)) :: l
      else none
    else none
theorem bookRR_eq {c : CalT} (g : CalG c) (tl fr ln : Int) : bookRR c.flatten tl fr ln = (bookG c tl fr ln).flatten := by
  unfold bookRR bookG
  rw [ref_first g]
  cases (firstF c tl fr ln).2
  · rfl
  · exact ref_book g _
theorem stR_eq (b : Int) : ∀ (ns : List NeedT) {c : CalT} (t : Int) (ch : List PairT), CalG c → stR b c.flatten t ns ch = stG b c t ns ch
  | [], c, t, ch, _ => by simp [stR, stG]
  | _ :: _, c, t, [], _ => by simp [stR, stG]
  | x :: ns, c, t, p :: ch, g => by
    have g1 := (bookG_good g p.1 (t + b) x.2.2).1
    have g2 := (bookG_good g1 p.2 ((firstF c p.1 (t + b) x.2.2).1 + x.2.2 - 1 + b) x.2.2).1
    simp only [stR, stG, ref_first g, bookRR_eq g, ref_first g1, bookRR_eq g1, stR_eq b ns _ ch g2]
def PoP (c : BkL) (e b : Int) (ns : List tNeed.El) (ch : List tPair.El) (ws : List tWin.El) : Prop :=
  List.length (α := Bk.El) c ≤ 80000 ∧ (0 ≤ e ∧ e ≤ 1000000 ∧ 0 ≤ b ∧ b ≤ 10000) ∧ (ns.length ≤ 8 ∧ ch.length = ns.length ∧ ws.length ≤ 1000) ∧ ∀ x ∈ ns, (0 : Int) ≤ x.2.2 ∧ x.2.2 ≤ (10000 : Int)
def poS : Spec := ⟨true, fun args rows => match args, rows with
  | [.ptr 0 0, .agg [.int .i64 e, .int .i64 a, .int .i64 b, .sl (.pair (.slice (.int .i64)) (.pair (.int .i64) (.int .i64))) ns, .sl (.pair (.int .i64) (.pair (.int .i64) (.int .i64))) ws], .sl (.pair (.int .i64) (.int .i64)) ch], [.box [.own 1], .seq (.pair (.int .i64) (.pair (.int .i64) (.pair (.int .i64) (.int .i64)))) c] =>
    some ⟨PoP c e b ns ch ws, .tup [.agg [.int .i64 (sel (stR b c e ns ch) e 0), .int .i64 (sel (stR b c e ns ch) a 0), .int .i64 (sel (stR b c e ns ch) b 0), .sl tStage ((stR b c e ns ch).getD []), .sl tWin (sel (stR b c e ns ch) ws [])], .bool (stR b c e ns ch).isSome], [.box [.own 1], .seq Bk c], true⟩
  | _, _ => none⟩
def sigPo : List (Nat × Spec) := [(40, rCloneS), (41, slotS)]
theorem sigPoOk : SigOk Tryz.prog (look sigPo) := sigCons (sigCons sigNil
  Tryz.func41 (by kernel_rfl) (c := body Tryz.f41) rfl slotOk)
  Tryz.func40 (by kernel_rfl) (c := body Tryz.f40) rfl rCloneOk
theorem poOk : SpecSound Tryz.prog 11 poS := by
  refine soundR (envOf sigPoOk) Tryz.func11 (c := body Tryz.f11) rfl (by kernel_rfl) rfl ?_
  intro args rows out hf hpre
  split at hf <;> try (cases hf; done)
  rename_i e a b ns ws ch c
  cases hf
  refine ⟨Nat.le_of_ble_eq_true rfl, initI (args := [.ptr 0 0, .agg [.int .i64 e, .int .i64 a, .int .i64 b, .sl tNeed ns, .sl tWin ws], .sl tPair ch]) (rows := [.box [.own 1], .seq Bk c]) rfl ?_⟩
  obtain ⟨hl, ⟨he0, he1, hb0, hb1⟩, ⟨hn, hch, hw⟩, hns⟩ := hpre
  obtain ⟨o, ho⟩ : ∃ o, o = stR b c e ns ch := ⟨_, rfl⟩
  rw [← ho]
  repeat' (first|with_reducible (first|apply pN|apply cN|apply bN|apply cE|apply cR|apply bR|apply lE|apply lR|apply jE|apply jR)|refine bE rfl ?_|refine bP rfl ?_|refine seqI rfl ?_|refine scopeI rfl ?_|refine blockI rfl ?_|refine exitI rfl ?_|refine retI rfl ?_|refine skipI rfl ?_)
  refine regI rfl ?_
  repeat' (first|with_reducible refine pN ?_|refine pC (by first|exact ⟨⟩|omega|(intros;first|exact ⟨⟩|omega)|(simp only [lcQ, lnQ, tnQ];omega)|(show List.length (α := Bk.El) c ≤ _;omega)) ?_)
  repeat with_reducible refine cN ?_
  repeat' (first|with_reducible (first|apply pN|apply cN|apply bN|apply cE|apply cR|apply bR|apply lE|apply lR|apply jE|apply jR)|refine bE rfl ?_|refine bP rfl ?_|refine seqI rfl ?_|refine scopeI rfl ?_|refine blockI rfl ?_|refine exitI rfl ?_|refine retI rfl ?_|refine skipI rfl ?_)
  refine regI rfl ?_
  repeat' (first|with_reducible refine pN ?_|refine pC (by first|exact ⟨⟩|omega|(intros;first|exact ⟨⟩|omega)|(simp only [lcQ, lnQ, tnQ];omega)|(show List.length (α := Bk.El) c ≤ _;omega)) ?_)
  repeat with_reducible refine cN ?_
  repeat' (first|with_reducible (first|apply pN|apply cN|apply bN|apply cE|apply cR|apply bR|apply lE|apply lR|apply jE|apply jR)|refine bE rfl ?_|refine bP rfl ?_|refine pC (by first|exact ⟨⟩|omega|(intros;first|exact ⟨⟩|omega)|(simp only [lcQ, lnQ, tnQ];omega)|first|(simp only [List.length_nil];omega)|omega) ?_|refine seqI rfl ?_|refine regI rfl ?_|refine scopeI rfl ?_|refine blockI rfl ?_|refine exitI rfl ?_|refine retI rfl ?_|refine skipI rfl ?_)
  refine loopI (σ := Nat × List StT × BkL × Int) (fun s => [(8, .ptr 3000 0), (10, .int .i64 s.2.2.2), (11, .int .i64 s.1)]) (fun s => [(3000, .box [.own 3003]), (3003, .seq Bk s.2.2.1), (9, .box [.int .i64 e, .int .i64 a, .int .i64 b, .own 3001, .own 3002]), (3001, .seq tStage s.2.1), (3002, .seq tWin ws)]) (fun s => (s.1 ≤ ns.length ∧ s.2.1.length = s.1) ∧ List.length (α := Bk.El) s.2.2.1 ≤ List.length (α := Bk.El) c + 2 * s.1 ∧ (0 ≤ s.2.2.2 ∧ s.2.2.2 ≤ 1000000) ∧ o = (stR b s.2.2.1 s.2.2.2 (ns.drop s.1) (ch.drop s.1)).map (s.2.1 ++ ·)) (fun s => ns.length - s.1) (0, [], c, e) rfl (fun _ => rfl) rfl ?_ ?_ ?_
  · refine ⟨⟨Nat.zero_le _, rfl⟩, Nat.le_refl _, ⟨he0, he1⟩, ?_⟩
    rw [ho]
    show _ = (stR b c e ns ch).map fun l => l
    simp
  · repeat' (first | exact trivial | with_reducible exact rfl | refine And.intro ?_ ?_)
    all_goals rfl
  rintro ⟨i, acc, cal, t⟩ ⟨⟨hi, hacc⟩, hcl, ⟨ht0, ht1⟩, hinv⟩
  dsimp only at hi hacc hcl ht0 ht1 hinv ⊢
  repeat' (first|with_reducible (first|apply pN|apply cN|apply bN|apply cE|apply cR|apply bR|apply lE|apply lR|apply jE|apply jR)|refine bE rfl ?_|refine bP rfl ?_|refine pC (by first|exact ⟨⟩|omega|(intros;first|exact ⟨⟩|omega)|(simp only [lcQ, lnQ, tnQ];omega)) ?_|refine seqI rfl ?_|refine regI rfl ?_|refine scopeI rfl ?_|refine blockI rfl ?_|refine exitI rfl ?_|refine retI rfl ?_|refine skipI rfl ?_)
  refine condI rfl (fun c1 => ?_) (fun c1 => ?_)
  · simp only [decide_eq_true_eq] at c1
    have hil : i < ns.length := by omega
    have hin : ((i : Int)).toNat = i := by omega
    obtain ⟨x, hx⟩ : ∃ x : NeedT, x = getI ns tNeed.dflt i := ⟨_, rfl⟩
    obtain ⟨p, hp⟩ : ∃ p : PairT, p = getI ch tPair.dflt i := ⟨_, rfl⟩
    have hxb : (0 : Int) ≤ x.2.2 ∧ x.2.2 ≤ (10000 : Int) := by rw [hx]; exact hns _ (Pl.getI_mem hil)
    rw [drop_getI (d := tNeed.dflt) hil, drop_getI (d := tPair.dflt) (by omega), ← hx, ← hp] at hinv
    have hx' : getI ns tNeed.dflt ((i : Int)).toNat = x := by rw [hin]; exact hx.symm
    have hp' : getI ch tPair.dflt ((i : Int)).toNat = p := by rw [hin]; exact hp.symm
    repeat' (first|with_reducible (first|apply pN|apply cN|apply bN|apply cE|apply cR|apply bR|apply lE|apply lR|apply jE|apply jR)|refine bE rfl ?_|refine bP rfl ?_|refine pC (by first|exact ⟨⟩|omega|(intros;first|exact ⟨⟩|omega)|(simp only [lcQ, lnQ, tnQ];omega)|first|omega|(rw [hx'];unfold In64;omega)|(simp only [hin];omega)) ?_|refine seqI rfl ?_|refine regI rfl ?_|refine scopeI rfl ?_|refine blockI rfl ?_|refine exitI rfl ?_|refine retI rfl ?_|refine skipI rfl ?_)
    simp only [hx', hp']
    obtain ⟨m, hm⟩ : ∃ m, m = refFirstF cal p.1 (t + b) x.2.2 := ⟨_, rfl⟩
    obtain ⟨cb, hcb⟩ : ∃ cb, cb = bookRR cal p.1 (t + b) x.2.2 := ⟨_, rfl⟩
    have hcbl := bookRR_len cal p.1 (t + b) x.2.2
    rw [← hcb] at hcbl
    have hst : stR b cal t (x :: ns.drop (i + 1)) (p :: ch.drop (i + 1)) = bif m.2 then bif (refFirstF cb p.2 (m.1 + x.2.2 - 1 + b) x.2.2).2 then (stR b (bookRR cb p.2 (m.1 + x.2.2 - 1 + b) x.2.2) (max m.1 (refFirstF cb p.2 (m.1 + x.2.2 - 1 + b) x.2.2).1 + x.2.2) (ns.drop (i + 1)) (ch.drop (i + 1))).map fun l => (x.2.1, x.2.2, (p.1, m.1), (p.2, (refFirstF cb p.2 (m.1 + x.2.2 - 1 + b) x.2.2).1)) :: l else none else none := by rw [hm, hcb]; rfl
    rw [hst] at hinv
    simp only [← hm, ← hcb]
    refine condI rfl (fun c2 => ?_) (fun c2 => ?_)
    · have c2' : m.2 = false := by simpa using c2
      rw [c2'] at hinv
      have hinv : o = none := hinv
      rw [hinv]
      repeat' (first|with_reducible (first|apply pN|apply cN|apply bN|apply cE|apply cR|apply bR|apply lE|apply lR|apply jE|apply jR)|refine bE rfl ?_|refine bP rfl ?_|refine pC (by first|exact ⟨⟩|omega|(intros;first|exact ⟨⟩|omega)|(simp only [lcQ, lnQ, tnQ];omega)) ?_|refine seqI rfl ?_|refine regI rfl ?_|refine scopeI rfl ?_|refine blockI rfl ?_|refine exitI rfl ?_|refine retI rfl ?_|refine skipI rfl ?_)
      refine endR rfl ?_
      repeat' (first | exact trivial | exact rfl | refine ⟨rfl, ?_⟩ | refine And.intro ?_ ?_)
    have c2' : m.2 = true := by simpa using c2
    obtain ⟨_, hm0, hm1⟩ := rfirst_facts (xs := cal) (tl := p.1) (fr := t + b) (ln := x.2.2) (by rw [← hm]; exact c2')
    rw [← hm] at hm0 hm1
    rw [c2', cond_true] at hinv
    repeat' (first|with_reducible (first|apply pN|apply cN|apply bN|apply cE|apply cR|apply bR|apply lE|apply lR|apply jE|apply jR)|refine bE rfl ?_|refine bP rfl ?_|refine pC (by first|exact ⟨⟩|omega|(intros;first|exact ⟨⟩|omega)|(simp only [lcQ, lnQ, tnQ];omega)|first|omega|(simp only [hx', hp'];unfold In64;omega)|(simp only [hin];omega)) ?_|refine seqI rfl ?_|refine regI rfl ?_|refine scopeI rfl ?_|refine blockI rfl ?_|refine exitI rfl ?_|refine retI rfl ?_|refine skipI rfl ?_)
    simp only [hx', hp']
    obtain ⟨z, hz⟩ : ∃ z, z = refFirstF cb p.2 (m.1 + x.2.2 - 1 + b) x.2.2 := ⟨_, rfl⟩
    obtain ⟨cc, hcc⟩ : ∃ cc, cc = bookRR cb p.2 (m.1 + x.2.2 - 1 + b) x.2.2 := ⟨_, rfl⟩
    have hccl := bookRR_len cb p.2 (m.1 + x.2.2 - 1 + b) x.2.2
    rw [← hcc] at hccl
    simp only [← hz, ← hcc] at hinv ⊢
    refine condI rfl (fun c3 => ?_) (fun c3 => ?_)
    · have c3' : z.2 = false := by simpa using c3
      rw [c3'] at hinv
      have hinv : o = none := hinv
      rw [hinv]
      repeat' (first|with_reducible (first|apply pN|apply cN|apply bN|apply cE|apply cR|apply bR|apply lE|apply lR|apply jE|apply jR)|refine bE rfl ?_|refine bP rfl ?_|refine pC (by first|exact ⟨⟩|omega|(intros;first|exact ⟨⟩|omega)|(simp only [lcQ, lnQ, tnQ];omega)) ?_|refine seqI rfl ?_|refine regI rfl ?_|refine scopeI rfl ?_|refine blockI rfl ?_|refine exitI rfl ?_|refine retI rfl ?_|refine skipI rfl ?_)
      refine endR rfl ?_
      repeat' (first | exact trivial | exact rfl | refine ⟨rfl, ?_⟩ | refine And.intro ?_ ?_)
    have c3' : z.2 = true := by simpa using c3
    obtain ⟨_, hz0, hz1⟩ := rfirst_facts (xs := cb) (tl := p.2) (fr := m.1 + x.2.2 - 1 + b) (ln := x.2.2) (by rw [← hz]; exact c3')
    rw [← hz] at hz0 hz1
    rw [c3', cond_true] at hinv
    repeat' (first|with_reducible (first|apply pN|apply cN|apply bN|apply cE|apply cR|apply bR|apply lE|apply lR|apply jE|apply jR)|refine bE rfl ?_|refine bP rfl ?_|refine pC (by first|exact ⟨⟩|omega|(intros;first|exact ⟨⟩|omega)|(simp only [lcQ, lnQ, tnQ];omega)|first|omega|(unfold In64;omega)|(simp only [List.length_cons, List.length_nil, hacc];omega)) ?_|refine seqI rfl ?_|refine regI rfl ?_|refine scopeI rfl ?_|refine blockI rfl ?_|refine exitI rfl ?_|refine retI rfl ?_|refine skipI rfl ?_)
    refine roundI (i + 1, acc ++ [(x.2.1, x.2.2, (p.1, m.1), (p.2, z.1))], cc, max m.1 z.1 + x.2.2) rfl ?_ ?_ ?_
    · refine ⟨⟨by show i + 1 ≤ ns.length; omega, by rw [List.length_append, hacc]; rfl⟩, by show List.length (α := Bk.El) cc ≤ List.length (α := Bk.El) c + 2 * (i + 1); omega, ⟨by show 0 ≤ max m.1 z.1 + x.2.2; omega, by show max m.1 z.1 + x.2.2 ≤ 1000000; omega⟩, ?_⟩
      rw [hinv, Option.map_map]
      show Option.map _ _ = Option.map _ _
      congr 1
      funext l
      simp
    · show ns.length - (i + 1) < ns.length - i
      omega
    · repeat' (first | exact trivial | with_reducible exact rfl | refine And.intro ?_ ?_)
      all_goals (first | rfl | (simp only [c2', c3', cond_true]))
  · simp only [decide_eq_false_iff_not] at c1
    rw [List.drop_eq_nil_of_le (by omega)] at hinv
    have hinv : o = some (acc ++ []) := hinv
    rw [List.append_nil] at hinv
    rw [hinv]
    refine freezeI 3001 rfl ?_
    refine freezeI 3002 rfl ?_
    repeat' (first|with_reducible (first|apply pN|apply cN|apply bN|apply cE|apply cR|apply bR|apply lE|apply lR|apply jE|apply jR)|refine bE rfl ?_|refine bP rfl ?_|refine pC (by first|exact ⟨⟩|omega|(intros;first|exact ⟨⟩|omega)|(simp only [lcQ, lnQ, tnQ];omega)) ?_|refine seqI rfl ?_|refine regI rfl ?_|refine scopeI rfl ?_|refine blockI rfl ?_|refine exitI rfl ?_|refine retI rfl ?_|refine skipI rfl ?_)
    refine endR rfl ?_
    repeat' (first | exact trivial | exact rfl | refine ⟨rfl, ?_⟩ | refine And.intro ?_ ?_)
def rEndS : Spec := plain fun
  | [.agg [.int .i64 e, .int .i64 a, .int .i64 b, .sl (.pair (.int .i64) (.pair (.int .i64) (.pair (.pair (.int .i64) (.int .i64)) (.pair (.int .i64) (.int .i64))))) xs, .sl (.pair (.int .i64) (.pair (.int .i64) (.int .i64))) ws]] =>
    outV ((1 ≤ xs.length ∧ xs.length ≤ 1000000) ∧ In64 (overG (lastG xs))) (.int .i64 (overG (lastG xs)))
  | _ => none
theorem rEndOk : SpecSound Tryz.prog 12 rEndS := by
  refine soundP (envOf sigNil) Tryz.func12 (c := body Tryz.f12) rfl (by kernel_rfl) rfl ?_
  intro args out hf hpre
  split at hf <;> try (cases hf; done)
  rename_i e a b xs ws
  cases hf
  refine ⟨Nat.le_of_ble_eq_true rfl, initI (args := [.agg [.int .i64 e, .int .i64 a, .int .i64 b, .sl tStage xs, .sl tWin ws]]) rfl ?_⟩
  obtain ⟨⟨h1, h2⟩, h3⟩ := hpre
  have hln : (((xs.length : Nat) : Int) - 1).toNat = xs.length - 1 := by omega
  repeat' (first|with_reducible (first|apply pN|apply cN|apply bN|apply cE|apply cR|apply bR|apply lE|apply lR|apply jE|apply jR)|refine bE rfl ?_|refine bP rfl ?_|refine pC (by first|exact ⟨⟩|omega|(intros;first|exact ⟨⟩|omega)|(simp only [lcQ, lnQ, tnQ];omega)|first|omega|(unfold In64;omega)|(simp only [hln];exact h3)) ?_|refine seqI rfl ?_|refine regI rfl ?_|refine scopeI rfl ?_|refine blockI rfl ?_|refine exitI rfl ?_|refine retI rfl ?_|refine skipI rfl ?_)
  refine endR rfl ?_
  repeat' (first | exact trivial | exact rfl | refine ⟨rfl, ?_⟩ | refine And.intro ?_ ?_)
  all_goals (simp only [hln]; rfl)
end Go.AM.YtmjeocinfoeeeaaGreat.Re
end
