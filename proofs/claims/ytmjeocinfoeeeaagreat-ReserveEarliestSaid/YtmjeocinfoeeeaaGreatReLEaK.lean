/- The law ReserveEarliest: her function. -/
import Derived.Test.YtmjeocinfoeeeaaGreatReEtK
import Derived.Test.YtmjeocinfoeeeaaGreatPr32
import Derived.Test.YtmjeocinfoeeeaaGreatReEsK
import Derived.Test.YtmjeocinfoeeeaaGreatPr30
import Derived.Test.YtmjeocinfoeeeaaGreatReUK
set_option linter.all false
namespace Go.AM.YtmjeocinfoeeeaaGreat.Re
open Go.Proofs
set_option maxRecDepth 100000
set_option maxHeartbeats 8000000
def sigEa : List (Nat × Spec) := [(6, saneS), (7, bookedS), (8, mkReqS), (9, makeS), (10, choS), (11, poS),
  (12, rEndS), (13, checkS), (14, same8S)]
theorem sigEaOk : SigOk Tryz.prog (look sigEa) := sigCons (sigCons (sigCons (sigCons (sigCons (sigCons (sigCons (sigCons (sigCons sigNil
  Tryz.func14 (by kernel_rfl) (c := body Tryz.f14) rfl same8Ok)
  Tryz.func13 (by kernel_rfl) (c := body Tryz.f13) rfl checkOk)
  Tryz.func12 (by kernel_rfl) (c := body Tryz.f12) rfl rEndOk)
  Tryz.func11 (by kernel_rfl) (c := body Tryz.f11) rfl poOk)
  Tryz.func10 (by kernel_rfl) (c := body Tryz.f10) rfl choOk)
  Tryz.func9 (by kernel_rfl) (c := body Tryz.f9) rfl makeOk)
  Tryz.func8 (by kernel_rfl) (c := body Tryz.f8) rfl mkReqOk)
  Tryz.func7 (by kernel_rfl) (c := body Tryz.f7) rfl bookedOk)
  Tryz.func6 (by kernel_rfl) (c := body Tryz.f6) rfl saneOk
def leaS : Spec := plain fun
  | [.sl (.pair (.int .i64) (.pair (.int .i64) (.pair (.int .i64) (.int .i64)))) _, .agg [.int .i64 _, .int .i64 _, .int .i64 _, .int .i64 _], .sl (.pair (.int .i64) (.pair (.int .i64) (.pair (.int .i64) (.int .i64)))) _, .sl (.pair (.int .i64) (.int .i64)) _] => outV True (.bool true)
  | _ => none
theorem leaOk : SpecSound Tryz.prog 3 leaS := by
  refine soundP (envOf sigEaOk) Tryz.func3 (c := body Tryz.f3) rfl (by kernel_rfl) rfl ?_
  intro args out hf hpre
  split at hf <;> try (cases hf; done)
  rename_i bk y0 y1 y2 y3 needs ws
  cases hf
  refine ⟨Nat.le_of_ble_eq_true rfl, initI (args := [.sl t4 bk, .agg [.int .i64 y0, .int .i64 y1, .int .i64 y2, .int .i64 y3], .sl t4 needs, .sl tP2 ws]) rfl ?_⟩
  obtain ⟨c, hc⟩ : ∃ c, c = calOf bk := ⟨_, rfl⟩
  obtain ⟨hcg, hcl⟩ := calOf_good bk
  have hrf := refOf_eq bk
  rw [← hc] at hcg hcl hrf
  obtain ⟨d, hd⟩ : ∃ d : BkL, d = refOf bk := ⟨_, rfl⟩
  rw [← hd] at hrf
  obtain ⟨ns, hns⟩ : ∃ ns, ns = ndL (y0, y1, y2, y3) needs := ⟨_, rfl⟩
  obtain ⟨wl, hwl⟩ : ∃ wl, wl = winL (ndN needs) ws := ⟨_, rfl⟩
  obtain ⟨e, he⟩ : ∃ e, e = rqE (y0, y1, y2, y3) := ⟨_, rfl⟩
  obtain ⟨a, ha⟩ : ∃ a, a = rqA (y0, y1, y2, y3) := ⟨_, rfl⟩
  obtain ⟨b, hb⟩ : ∃ b, b = rqB (y0, y1, y2, y3) := ⟨_, rfl⟩
  have hnl := ndL_len (y0, y1, y2, y3) needs
  have hwll := winL_len (ndN needs) ws
  have hrv := mkReq_valid (y0, y1, y2, y3) needs ws
  have hch := ndL_choices (y0, y1, y2, y3) needs
  have htl := ndL_tools (X := (y0, y1, y2, y3)) (needs := needs)
  rw [← hns] at hnl hch htl
  rw [← hwl] at hwll
  rw [← hns, ← hwl, ← he, ← ha, ← hb] at hrv
  obtain ⟨⟨r1, r2⟩, ⟨r3, r4, r5⟩, ⟨r6, r7, r8⟩, r9⟩ := rvalid_facts hrv
  have hdl : List.length (α := Bk.El) d ≤ 80000 := by
    have := refs_len (l := (someF bk).take 15)
    rw [List.length_take] at this
    have : d.length ≤ 15 := by rw [hd]; unfold refOf; omega
    exact Nat.le_trans this (by decide)
  obtain ⟨L, hL⟩ : ∃ L, L = chL ns [] := ⟨_, rfl⟩
  have hLx : ∀ ch ∈ L, ch.length = ns.length := fun ch h => by
    rw [hL] at h
    have := chL_len h
    simpa using this
  have hLn : L.length ≤ 729 := by
    have h1 := (chR_facts (ns := ns) htl ns.length (Nat.le_refl _)).2
    rw [List.take_of_length_le (Nat.le_refl _), hch, ← hL] at h1
    exact Nat.le_trans h1 (Nat.le_trans (Nat.pow_le_pow_right (by decide) hnl) (by decide))
  have hpo : ∀ ch ∈ L, PoP d e b ns ch wl := fun ch h => ⟨hdl, ⟨r1, r2, by omega, r5⟩, ⟨by omega, hLx ch h, by omega⟩, fun x hx => by
    obtain ⟨_, k1, k2, k3⟩ := r9 x hx
    exact ⟨Int.le_trans (Int.le_trans (by decide) k1) k2, k3⟩⟩
  have hst : ∀ ch, stR b d e ns ch = stG b c e ns ch := fun ch => by rw [hrf]; exact stR_eq b ns e ch hcg
  have hover : ∀ {ch : List PairT} {xs : List StT}, stG b c e ns ch = some xs → xs.length = ns.length ∧ 1 ≤ xs.length ∧ In64 (overG (lastG xs)) := fun {ch xs} h => by
    obtain ⟨h1, h2⟩ := stG_facts hcg h
    have hx1 : 1 ≤ xs.length := by omega
    have hlb : StB (lastG xs) := h2 _ (Pl.getI_mem (by omega))
    obtain ⟨g1, g2, g3, g4, g5⟩ := hlb
    exact ⟨h1, hx1, by unfold overG In64; omega⟩
  repeat' (first|with_reducible (first|apply pN|apply cN|apply bN|apply cE|apply cR|apply bR|apply lE|apply lR|apply jE|apply jR)|refine bE rfl ?_|refine bP rfl ?_|refine seqI rfl ?_|refine scopeI rfl ?_|refine blockI rfl ?_|refine exitI rfl ?_|refine retI rfl ?_|refine skipI rfl ?_)
  refine regI rfl ?_
  repeat' (first|with_reducible refine pN ?_|refine pC (by first|exact ⟨⟩|omega|(intros;first|exact ⟨⟩|omega)|(simp only [lcQ, lnQ, tnQ];omega)) ?_)
  repeat with_reducible refine cN ?_
  repeat' (first|with_reducible (first|apply pN|apply cN|apply bN|apply cE|apply cR|apply bR|apply lE|apply lR|apply jE|apply jR)|refine bE rfl ?_|refine bP rfl ?_|refine seqI rfl ?_|refine scopeI rfl ?_|refine blockI rfl ?_|refine exitI rfl ?_|refine retI rfl ?_|refine skipI rfl ?_)
  refine regI rfl ?_
  repeat' (first|with_reducible refine pN ?_|refine pC (by first|exact ⟨⟩|omega|(intros;first|exact ⟨⟩|omega)|(simp only [lcQ, lnQ, tnQ];omega)) ?_)
  repeat with_reducible refine cN ?_
  repeat' (first|with_reducible (first|apply pN|apply cN|apply bN|apply cE|apply cR|apply bR|apply lE|apply lR|apply jE|apply jR)|refine bE rfl ?_|refine bP rfl ?_|refine seqI rfl ?_|refine scopeI rfl ?_|refine blockI rfl ?_|refine exitI rfl ?_|refine retI rfl ?_|refine skipI rfl ?_)
  refine regI rfl ?_
  repeat' (first|with_reducible refine pN ?_|refine pC (by first|exact ⟨⟩|omega|(intros;first|exact ⟨⟩|omega)|(simp only [lcQ, lnQ, tnQ];omega)) ?_)
  repeat with_reducible refine cN ?_
  repeat' (first|with_reducible (first|apply pN|apply cN|apply bN|apply cE|apply cR|apply bR|apply lE|apply lR|apply jE|apply jR)|refine bE rfl ?_|refine bP rfl ?_|refine seqI rfl ?_|refine scopeI rfl ?_|refine blockI rfl ?_|refine exitI rfl ?_|refine retI rfl ?_|refine skipI rfl ?_)
  refine regI rfl ?_
  repeat' (first|with_reducible refine pN ?_|refine pC (by first|exact ⟨⟩|omega|(intros;first|exact ⟨⟩|omega)|(simp only [lcQ, lnQ, tnQ];omega)) ?_)
  repeat with_reducible refine cN ?_
  rw [← hc, ← hd, ← hns, ← hwl, ← he, ← ha, ← hb]
  repeat' (first|with_reducible (first|apply pN|apply cN|apply bN|apply cE|apply cR|apply bR|apply lE|apply lR|apply jE|apply jR)|refine bE rfl ?_|refine bP rfl ?_|refine seqI rfl ?_|refine scopeI rfl ?_|refine blockI rfl ?_|refine exitI rfl ?_|refine retI rfl ?_|refine skipI rfl ?_)
  refine regI rfl ?_
  repeat' (first|with_reducible refine pN ?_|refine pC (by first|exact ⟨⟩|omega|(intros;first|exact ⟨⟩|omega)|(simp only [lcQ, lnQ, tnQ];omega)|exact ⟨⟨hcg, by omega⟩, by omega, by omega⟩) ?_)
  repeat with_reducible refine cN ?_
  cases ho : makeG c e a b ns wl with
  | none =>
    have hno := earl_none hrv ho
    rw [← hL] at hno
    refine tidyI [(14, .int .i64 100)] [(13, .box [.int .i64 0, .int .i64 0, .int .i64 0, .sl tStage [], .sl tWin []])] rfl rfl ?_ ?_
    · repeat' (first | exact trivial | exact rfl | refine ⟨rfl, ?_⟩ | refine And.intro ?_ ?_)
    repeat' (first|with_reducible (first|apply pN|apply cN|apply bN|apply cE|apply cR|apply bR|apply lE|apply lR|apply jE|apply jR)|refine bE rfl ?_|refine bP rfl ?_|refine pC (by first|exact ⟨⟩|omega|(intros;first|exact ⟨⟩|omega)|(simp only [lcQ, lnQ, tnQ];omega)) ?_|refine seqI rfl ?_|refine regI rfl ?_|refine scopeI rfl ?_|refine blockI rfl ?_|refine exitI rfl ?_|refine retI rfl ?_|refine skipI rfl ?_)
    refine condF rfl ?_
    repeat' (first|with_reducible refine cN ?_|refine seqI rfl ?_|refine skipI rfl ?_)
    repeat' (first|with_reducible (first|apply pN|apply cN|apply bN|apply cE|apply cR|apply bR|apply lE|apply lR|apply jE|apply jR)|refine bE rfl ?_|refine bP rfl ?_|refine seqI rfl ?_|refine scopeI rfl ?_|refine blockI rfl ?_|refine exitI rfl ?_|refine retI rfl ?_|refine skipI rfl ?_)
    refine regI rfl ?_
    repeat' (first|with_reducible refine pN ?_|refine pC (by first|exact ⟨⟩|omega|(intros;first|exact ⟨⟩|omega)|(simp only [lcQ, lnQ, tnQ];omega)|exact ⟨hnl, htl⟩) ?_)
    repeat with_reducible refine cN ?_
    rw [hch, ← hL]
    repeat' (first|with_reducible (first|apply pN|apply cN|apply bN|apply cE|apply cR|apply bR|apply lE|apply lR|apply jE|apply jR)|refine bE rfl ?_|refine bP rfl ?_|refine pC (by first|exact ⟨⟩|omega|(intros;first|exact ⟨⟩|omega)|(simp only [lcQ, lnQ, tnQ];omega)) ?_|refine seqI rfl ?_|refine regI rfl ?_|refine scopeI rfl ?_|refine blockI rfl ?_|refine exitI rfl ?_|refine retI rfl ?_|refine skipI rfl ?_)
    refine loopI (σ := Nat) (fun i => [(16, .bool true), (17, .int .i64 i)]) (fun i => []) (fun i => i ≤ L.length) (fun i => L.length - i) 0 rfl (fun _ => rfl) rfl ?_ ?_ ?_
    · exact Nat.zero_le _
    · repeat' (first | exact trivial | exact rfl | refine ⟨rfl, ?_⟩ | refine And.intro ?_ ?_)
    intro i hi
    repeat' (first|with_reducible (first|apply pN|apply cN|apply bN|apply cE|apply cR|apply bR|apply lE|apply lR|apply jE|apply jR)|refine bE rfl ?_|refine bP rfl ?_|refine pC (by first|exact ⟨⟩|omega|(intros;first|exact ⟨⟩|omega)|(simp only [lcQ, lnQ, tnQ];omega)) ?_|refine seqI rfl ?_|refine regI rfl ?_|refine scopeI rfl ?_|refine blockI rfl ?_|refine exitI rfl ?_|refine retI rfl ?_|refine skipI rfl ?_)
    refine condI rfl (fun c1 => ?_) (fun c1 => ?_)
    · simp only [decide_eq_true_eq] at c1
      have hil : i < L.length := by omega
      have hin : ((i : Int)).toNat = i := by omega
      obtain ⟨ch, hch'⟩ : ∃ ch : List PairT, ch = getI L (Ty.slice tPair).dflt i := ⟨_, rfl⟩
      have hmem : ch ∈ L := by rw [hch']; exact Pl.getI_mem hil
      have hci : getI L (Ty.slice tPair).dflt ((i : Int)).toNat = ch := by rw [hin]; exact hch'.symm
      have hacc := hno ch hmem
      repeat' (first|with_reducible (first|apply pN|apply cN|apply bN|apply cE|apply cR|apply bR|apply lE|apply lR|apply jE|apply jR)|refine bE rfl ?_|refine bP rfl ?_|refine seqI rfl ?_|refine scopeI rfl ?_|refine blockI rfl ?_|refine exitI rfl ?_|refine retI rfl ?_|refine skipI rfl ?_)
      refine regI rfl ?_
      repeat' (first|with_reducible refine pN ?_|refine pC (by first|exact ⟨⟩|omega|(intros;first|exact ⟨⟩|omega)|(simp only [lcQ, lnQ, tnQ];omega)|first|omega|(rw [hci];exact hpo ch hmem)) ?_)
      repeat with_reducible refine cN ?_
      simp only [hci, hst]
      cases hs : stG b c e ns ch with
      | none =>
        refine tidyI [(19, .bool false)] [(18, .box [.int .i64 0, .int .i64 0, .int .i64 0, .sl tStage [], .sl tWin []])] rfl rfl ?_ ?_
        · repeat' (first | exact trivial | exact rfl | refine ⟨rfl, ?_⟩ | refine And.intro ?_ ?_)
        repeat' (first|with_reducible refine cN ?_|refine seqI rfl ?_|refine skipI rfl ?_)
        refine regH [] rfl ?_
        repeat' (first|with_reducible refine pN ?_|refine pC (by first|trivial|rfl) ?_)
        repeat' (first|with_reducible refine cN ?_|refine seqI rfl ?_|refine skipI rfl ?_)
        refine condT rfl ?_
        repeat' (first|with_reducible (first|apply pN|apply cN|apply bN|apply cE|apply cR|apply bR|apply lE|apply lR|apply jE|apply jR)|refine bE rfl ?_|refine bP rfl ?_|refine pC (by first|exact ⟨⟩|omega|(intros;first|exact ⟨⟩|omega)|(simp only [lcQ, lnQ, tnQ];omega)) ?_|refine seqI rfl ?_|refine regI rfl ?_|refine scopeI rfl ?_|refine blockI rfl ?_|refine exitI rfl ?_|refine retI rfl ?_|refine skipI rfl ?_)
        refine roundI (i + 1) rfl ?_ ?_ ?_
        · show i + 1 ≤ L.length
          omega
        · show L.length - (i + 1) < L.length - i
          omega
        · repeat' (first | exact trivial | with_reducible exact rfl | refine And.intro ?_ ?_)
          all_goals rfl
      | some xs =>
        have hf : safeF e a b xs wl = false := by
          unfold accG at hacc
          rw [hs] at hacc
          dsimp only at hacc
          cases hf : safeF e a b xs wl
          · rfl
          · rw [hf] at hacc; cases hacc
        refine tidyI [(19, .bool true)] [(18, .box [.int .i64 e, .int .i64 a, .int .i64 b, .sl tStage xs, .sl tWin wl])] rfl rfl ?_ ?_
        · repeat' (first | exact trivial | exact rfl | refine ⟨rfl, ?_⟩ | refine And.intro ?_ ?_)
        repeat' (first|with_reducible refine cN ?_|refine seqI rfl ?_|refine skipI rfl ?_)
        refine regH [] rfl ?_
        repeat' (first|with_reducible refine pN ?_|refine pC (by first|trivial|rfl|(intro _ h;cases h)) ?_)
        repeat' (first|with_reducible refine cN ?_|refine seqI rfl ?_|refine skipI rfl ?_)
        refine condF rfl ?_
        repeat' (first|with_reducible refine cN ?_|refine seqI rfl ?_|refine skipI rfl ?_)
        repeat' (first|with_reducible (first|apply pN|apply cN|apply bN|apply cE|apply cR|apply bR|apply lE|apply lR|apply jE|apply jR)|refine bE rfl ?_|refine bP rfl ?_|refine seqI rfl ?_|refine scopeI rfl ?_|refine blockI rfl ?_|refine exitI rfl ?_|refine retI rfl ?_|refine skipI rfl ?_)
        refine regI rfl ?_
        repeat' (first|with_reducible refine pN ?_|refine pC (by first|exact ⟨⟩|omega|(intros;first|exact ⟨⟩|omega)|(simp only [lcQ, lnQ, tnQ];omega)) ?_)
        repeat with_reducible refine cN ?_
        rw [hf]
        repeat' (first|with_reducible (first|apply pN|apply cN|apply bN|apply cE|apply cR|apply bR|apply lE|apply lR|apply jE|apply jR)|refine bE rfl ?_|refine bP rfl ?_|refine pC (by first|exact ⟨⟩|omega|(intros;first|exact ⟨⟩|omega)|(simp only [lcQ, lnQ, tnQ];omega)) ?_|refine seqI rfl ?_|refine regI rfl ?_|refine scopeI rfl ?_|refine blockI rfl ?_|refine exitI rfl ?_|refine retI rfl ?_|refine skipI rfl ?_)
        refine condT rfl ?_
        repeat' (first|with_reducible (first|apply pN|apply cN|apply bN|apply cE|apply cR|apply bR|apply lE|apply lR|apply jE|apply jR)|refine bE rfl ?_|refine bP rfl ?_|refine pC (by first|exact ⟨⟩|omega|(intros;first|exact ⟨⟩|omega)|(simp only [lcQ, lnQ, tnQ];omega)) ?_|refine seqI rfl ?_|refine regI rfl ?_|refine scopeI rfl ?_|refine blockI rfl ?_|refine exitI rfl ?_|refine retI rfl ?_|refine skipI rfl ?_)
        refine roundI (i + 1) rfl ?_ ?_ ?_
        · show i + 1 ≤ L.length
          omega
        · show L.length - (i + 1) < L.length - i
          omega
        · repeat' (first | exact trivial | with_reducible exact rfl | refine And.intro ?_ ?_)
          all_goals rfl
    · repeat' (first|with_reducible refine cN ?_|refine seqI rfl ?_|refine skipI rfl ?_)
      repeat' (first|with_reducible (first|apply pN|apply cN|apply bN|apply cE|apply cR|apply bR|apply lE|apply lR|apply jE|apply jR)|refine bE rfl ?_|refine bP rfl ?_|refine pC (by first|exact ⟨⟩|omega|(intros;first|exact ⟨⟩|omega)|(simp only [lcQ, lnQ, tnQ];omega)) ?_|refine seqI rfl ?_|refine regI rfl ?_|refine scopeI rfl ?_|refine blockI rfl ?_|refine exitI rfl ?_|refine retI rfl ?_|refine skipI rfl ?_)
      refine endR rfl ?_
      repeat' (first | exact trivial | exact rfl | refine ⟨rfl, ?_⟩ | refine And.intro ?_ ?_)
  | some y =>
    obtain ⟨hmin, hyv, hany, hfst⟩ := earl_some hrv ho
    rw [← hL] at hmin hany hfst
    have m := made hcg ho
    obtain ⟨xs, ov⟩ := y
    dsimp only at m hmin hyv hany hfst
    have hm1 := m.pos
    have hml := m.len
    have hov : xs.length ≤ 1000000 ∧ In64 (overG (lastG xs)) := by
      obtain ⟨ch, h1, h2⟩ := List.any_eq_true.1 hany
      have hb := made_st hcg ho
      have hx1 : 1 ≤ xs.length := hm1
      have hlb : StB (lastG xs) := hb _ (Pl.getI_mem (show xs.length - 1 < xs.length by omega))
      obtain ⟨g1, g2, g3, g4, g5⟩ := hlb
      have hx3 : xs.length = ns.length := hml
      exact ⟨by omega, by unfold overG In64; omega⟩
    refine tidyI [(14, .int .i64 0)] [(13, .box [.int .i64 e, .int .i64 a, .int .i64 b, .sl tStage xs, .sl tWin wl])] rfl rfl ?_ ?_
    · repeat' (first | exact trivial | exact rfl | refine ⟨rfl, ?_⟩ | refine And.intro ?_ ?_)
    repeat' (first|with_reducible (first|apply pN|apply cN|apply bN|apply cE|apply cR|apply bR|apply lE|apply lR|apply jE|apply jR)|refine bE rfl ?_|refine bP rfl ?_|refine pC (by first|exact ⟨⟩|omega|(intros;first|exact ⟨⟩|omega)|(simp only [lcQ, lnQ, tnQ];omega)) ?_|refine seqI rfl ?_|refine regI rfl ?_|refine scopeI rfl ?_|refine blockI rfl ?_|refine exitI rfl ?_|refine retI rfl ?_|refine skipI rfl ?_)
    refine condI rfl (fun c0 => ?_) (fun c0 => ?_)
    · exfalso
      have hx1 : 1 ≤ xs.length := hm1
      simp at c0
      rw [c0] at hx1
      simp at hx1
    repeat' (first|with_reducible refine cN ?_|refine seqI rfl ?_|refine skipI rfl ?_)
    repeat' (first|with_reducible (first|apply pN|apply cN|apply bN|apply cE|apply cR|apply bR|apply lE|apply lR|apply jE|apply jR)|refine bE rfl ?_|refine bP rfl ?_|refine seqI rfl ?_|refine scopeI rfl ?_|refine blockI rfl ?_|refine exitI rfl ?_|refine retI rfl ?_|refine skipI rfl ?_)
    refine regI rfl ?_
    repeat' (first|with_reducible refine pN ?_|refine pC (by first|exact ⟨⟩|omega|(intros;first|exact ⟨⟩|omega)|(simp only [lcQ, lnQ, tnQ];omega)|exact ⟨hnl, htl⟩) ?_)
    repeat with_reducible refine cN ?_
    rw [hch, ← hL]
    repeat' (first|with_reducible (first|apply pN|apply cN|apply bN|apply cE|apply cR|apply bR|apply lE|apply lR|apply jE|apply jR)|refine bE rfl ?_|refine bP rfl ?_|refine pC (by first|exact ⟨⟩|omega|(intros;first|exact ⟨⟩|omega)|(simp only [lcQ, lnQ, tnQ];omega)) ?_|refine seqI rfl ?_|refine regI rfl ?_|refine scopeI rfl ?_|refine blockI rfl ?_|refine exitI rfl ?_|refine retI rfl ?_|refine skipI rfl ?_)
    refine loopI (σ := Nat) (fun i => [(16, .bool (!(L.take i).any (hitG c e a b ns wl ov))), (17, .int .i64 i)]) (fun i => []) (fun i => i ≤ L.length) (fun i => L.length - i) 0 rfl (fun _ => rfl) rfl ?_ ?_ ?_
    · exact Nat.zero_le _
    · repeat' (first | exact trivial | with_reducible exact rfl | refine And.intro ?_ ?_)
      all_goals rfl
    intro i hi
    repeat' (first|with_reducible (first|apply pN|apply cN|apply bN|apply cE|apply cR|apply bR|apply lE|apply lR|apply jE|apply jR)|refine bE rfl ?_|refine bP rfl ?_|refine pC (by first|exact ⟨⟩|omega|(intros;first|exact ⟨⟩|omega)|(simp only [lcQ, lnQ, tnQ];omega)) ?_|refine seqI rfl ?_|refine regI rfl ?_|refine scopeI rfl ?_|refine blockI rfl ?_|refine exitI rfl ?_|refine retI rfl ?_|refine skipI rfl ?_)
    refine condI rfl (fun c1 => ?_) (fun c1 => ?_)
    · simp only [decide_eq_true_eq] at c1
      have hil : i < L.length := by omega
      have hin : ((i : Int)).toNat = i := by omega
      obtain ⟨ch, hch'⟩ : ∃ ch : List PairT, ch = getI L (Ty.slice tPair).dflt i := ⟨_, rfl⟩
      have hmem : ch ∈ L := by rw [hch']; exact Pl.getI_mem hil
      have hci : getI L (Ty.slice tPair).dflt ((i : Int)).toNat = ch := by rw [hin]; exact hch'.symm
      have hchi : getI L [] i = ch := hch'.symm
      have hfi := hfst i hil
      rw [hchi] at hfi
      have hnext : (L.take (i + 1)).any (hitG c e a b ns wl ov) = ((L.take i).any (hitG c e a b ns wl ov) || hitG c e a b ns wl ov ch) := by
        rw [take_getI (d := (Ty.slice tPair).dflt) hil, List.any_append, ← hch']
        simp
      obtain ⟨seen, hseen⟩ : ∃ seen, seen = (L.take i).any (hitG c e a b ns wl ov) := ⟨_, rfl⟩
      rw [← hseen] at hfi hnext ⊢
      repeat' (first|with_reducible (first|apply pN|apply cN|apply bN|apply cE|apply cR|apply bR|apply lE|apply lR|apply jE|apply jR)|refine bE rfl ?_|refine bP rfl ?_|refine seqI rfl ?_|refine scopeI rfl ?_|refine blockI rfl ?_|refine exitI rfl ?_|refine retI rfl ?_|refine skipI rfl ?_)
      refine regI rfl ?_
      repeat' (first|with_reducible refine pN ?_|refine pC (by first|exact ⟨⟩|omega|(intros;first|exact ⟨⟩|omega)|(simp only [lcQ, lnQ, tnQ];omega)|first|omega|(rw [hci];exact hpo ch hmem)) ?_)
      repeat with_reducible refine cN ?_
      simp only [hci, hst]
      cases hs : stG b c e ns ch with
      | none =>
        have hh : hitG c e a b ns wl ov ch = false := by unfold hitG accG; rw [hs]
        rw [hh, Bool.or_false] at hnext
        refine tidyI [(19, .bool false)] [(18, .box [.int .i64 0, .int .i64 0, .int .i64 0, .sl tStage [], .sl tWin []])] rfl rfl ?_ ?_
        · repeat' (first | exact trivial | exact rfl | refine ⟨rfl, ?_⟩ | refine And.intro ?_ ?_)
        repeat' (first|with_reducible refine cN ?_|refine seqI rfl ?_|refine skipI rfl ?_)
        refine regH [] rfl ?_
        repeat' (first|with_reducible refine pN ?_|refine pC (by first|trivial|rfl|(intro h;cases h)) ?_)
        repeat' (first|with_reducible refine cN ?_|refine seqI rfl ?_|refine skipI rfl ?_)
        refine condT rfl ?_
        repeat' (first|with_reducible (first|apply pN|apply cN|apply bN|apply cE|apply cR|apply bR|apply lE|apply lR|apply jE|apply jR)|refine bE rfl ?_|refine bP rfl ?_|refine pC (by first|exact ⟨⟩|omega|(intros;first|exact ⟨⟩|omega)|(simp only [lcQ, lnQ, tnQ];omega)) ?_|refine seqI rfl ?_|refine regI rfl ?_|refine scopeI rfl ?_|refine blockI rfl ?_|refine exitI rfl ?_|refine retI rfl ?_|refine skipI rfl ?_)
        refine roundI (i + 1) rfl ?_ ?_ ?_
        · show i + 1 ≤ L.length
          omega
        · show L.length - (i + 1) < L.length - i
          omega
        · repeat' (first | exact trivial | with_reducible exact rfl | refine And.intro ?_ ?_)
          all_goals (first | rfl | (rw [hnext]))
      | some xq =>
        obtain ⟨v1, v2, v3⟩ := hover hs
        obtain ⟨ovq, hovq⟩ : ∃ v, v = overG (lastG xq) := ⟨_, rfl⟩
        have hyv : ov = overG (lastG xs) := hyv
        rw [← hovq] at v3
        rw [← hyv] at hov
        have hacc : ∀ s, safeF e a b xq wl = s → accG c e a b ns wl ch = bif s then some xq else none := fun s h => by unfold accG; rw [hs]; dsimp only; rw [h]
        refine tidyI [(19, .bool true)] [(18, .box [.int .i64 e, .int .i64 a, .int .i64 b, .sl tStage xq, .sl tWin wl])] rfl rfl ?_ ?_
        · repeat' (first | exact trivial | exact rfl | refine ⟨rfl, ?_⟩ | refine And.intro ?_ ?_)
        repeat' (first|with_reducible refine cN ?_|refine seqI rfl ?_|refine skipI rfl ?_)
        refine regH [] rfl ?_
        repeat' (first|with_reducible refine pN ?_|refine pC (by first|trivial|rfl|(intro _ _;rw [← hovq];exact ⟨⟨v2, by omega⟩, v3⟩)|(intro _ _;rw [← hyv];exact ⟨⟨hm1, hov.1⟩, hov.2⟩)) ?_)
        simp only [← hovq, ← hyv]
        repeat' (first|with_reducible refine cN ?_|refine seqI rfl ?_|refine skipI rfl ?_)
        refine condI rfl (fun c2 => ?_) (fun c2 => ?_)
        · have hgt : ¬ ovq ≤ ov := by
            simp at c2
            omega
          have hh : hitG c e a b ns wl ov ch = false := by
            unfold hitG
            rw [hacc _ rfl]
            cases safeF e a b xq wl
            · rfl
            · show decide (overG (lastG xq) ≤ ov) = false
              rw [← hovq, decide_eq_false_iff_not]
              exact hgt
          rw [hh, Bool.or_false] at hnext
          repeat' (first|with_reducible (first|apply pN|apply cN|apply bN|apply cE|apply cR|apply bR|apply lE|apply lR|apply jE|apply jR)|refine bE rfl ?_|refine bP rfl ?_|refine pC (by first|exact ⟨⟩|omega|(intros;first|exact ⟨⟩|omega)|(simp only [lcQ, lnQ, tnQ];omega)) ?_|refine seqI rfl ?_|refine regI rfl ?_|refine scopeI rfl ?_|refine blockI rfl ?_|refine exitI rfl ?_|refine retI rfl ?_|refine skipI rfl ?_)
          refine roundI (i + 1) rfl ?_ ?_ ?_
          · show i + 1 ≤ L.length
            omega
          · show L.length - (i + 1) < L.length - i
            omega
          · repeat' (first | exact trivial | with_reducible exact rfl | refine And.intro ?_ ?_)
            all_goals (first | rfl | (rw [hnext]))
        have hle : ovq ≤ ov := by
          simp at c2
          omega
        repeat' (first|with_reducible refine cN ?_|refine seqI rfl ?_|refine skipI rfl ?_)
        repeat' (first|with_reducible (first|apply pN|apply cN|apply bN|apply cE|apply cR|apply bR|apply lE|apply lR|apply jE|apply jR)|refine bE rfl ?_|refine bP rfl ?_|refine seqI rfl ?_|refine scopeI rfl ?_|refine blockI rfl ?_|refine exitI rfl ?_|refine retI rfl ?_|refine skipI rfl ?_)
        refine regI rfl ?_
        repeat' (first|with_reducible refine pN ?_|refine pC (by first|exact ⟨⟩|omega|(intros;first|exact ⟨⟩|omega)|(simp only [lcQ, lnQ, tnQ];omega)) ?_)
        repeat with_reducible refine cN ?_
        cases hf : safeF e a b xq wl with
        | false =>
          have hh : hitG c e a b ns wl ov ch = false := by
            unfold hitG
            rw [hacc _ hf]
            rfl
          rw [hh, Bool.or_false] at hnext
          repeat' (first|with_reducible (first|apply pN|apply cN|apply bN|apply cE|apply cR|apply bR|apply lE|apply lR|apply jE|apply jR)|refine bE rfl ?_|refine bP rfl ?_|refine pC (by first|exact ⟨⟩|omega|(intros;first|exact ⟨⟩|omega)|(simp only [lcQ, lnQ, tnQ];omega)) ?_|refine seqI rfl ?_|refine regI rfl ?_|refine scopeI rfl ?_|refine blockI rfl ?_|refine exitI rfl ?_|refine retI rfl ?_|refine skipI rfl ?_)
          refine condT rfl ?_
          repeat' (first|with_reducible (first|apply pN|apply cN|apply bN|apply cE|apply cR|apply bR|apply lE|apply lR|apply jE|apply jR)|refine bE rfl ?_|refine bP rfl ?_|refine pC (by first|exact ⟨⟩|omega|(intros;first|exact ⟨⟩|omega)|(simp only [lcQ, lnQ, tnQ];omega)) ?_|refine seqI rfl ?_|refine regI rfl ?_|refine scopeI rfl ?_|refine blockI rfl ?_|refine exitI rfl ?_|refine retI rfl ?_|refine skipI rfl ?_)
          refine roundI (i + 1) rfl ?_ ?_ ?_
          · show i + 1 ≤ L.length
            omega
          · show L.length - (i + 1) < L.length - i
            omega
          · repeat' (first | exact trivial | with_reducible exact rfl | refine And.intro ?_ ?_)
            all_goals (first | rfl | (rw [hnext]))
        | true =>
          have hac : accG c e a b ns wl ch = some xq := hacc _ hf
          have hh : hitG c e a b ns wl ov ch = true := by
            unfold hitG
            rw [hac]
            show decide (overG (lastG xq) ≤ ov) = true
            rw [← hovq, decide_eq_true_eq]
            exact hle
          rw [hh, Bool.or_true] at hnext
          have hge : ov ≤ ovq := by
            have := hmin ch hmem xq hac
            rw [← hovq] at this
            exact this
          repeat' (first|with_reducible (first|apply pN|apply cN|apply bN|apply cE|apply cR|apply bR|apply lE|apply lR|apply jE|apply jR)|refine bE rfl ?_|refine bP rfl ?_|refine pC (by first|exact ⟨⟩|omega|(intros;first|exact ⟨⟩|omega)|(simp only [lcQ, lnQ, tnQ];omega)) ?_|refine seqI rfl ?_|refine regI rfl ?_|refine scopeI rfl ?_|refine blockI rfl ?_|refine exitI rfl ?_|refine retI rfl ?_|refine skipI rfl ?_)
          refine condF rfl ?_
          repeat' (first|with_reducible refine cN ?_|refine seqI rfl ?_|refine skipI rfl ?_)
          refine regH [] rfl ?_
          repeat' (first|with_reducible refine pN ?_|refine pC (by first|trivial|rfl|(intro _;rw [← hovq];exact ⟨⟨v2, by omega⟩, v3⟩)|(intro _;rw [← hyv];exact ⟨⟨hm1, hov.1⟩, hov.2⟩)|(intro _ _;exact ⟨⟨hov.1, by omega⟩, by omega, by omega⟩)) ?_)
          simp only [← hovq, ← hyv]
          repeat' (first|with_reducible refine cN ?_|refine seqI rfl ?_|refine skipI rfl ?_)
          refine condI rfl (fun c3 => ?_) (fun c3 => ?_)
          · exfalso
            have hlt : ¬ ovq < ov := by omega
            cases seen with
            | true => simp [hlt] at c3
            | false =>
              have hx : xq = xs := hfi rfl xq hac (by rw [← hovq]; exact hle)
              subst hx
              simp [hlt, same8F] at c3
          repeat' (first|with_reducible (first|apply pN|apply cN|apply bN|apply cE|apply cR|apply bR|apply lE|apply lR|apply jE|apply jR)|refine bE rfl ?_|refine bP rfl ?_|refine pC (by first|exact ⟨⟩|omega|(intros;first|exact ⟨⟩|omega)|(simp only [lcQ, lnQ, tnQ];omega)) ?_|refine seqI rfl ?_|refine regI rfl ?_|refine scopeI rfl ?_|refine blockI rfl ?_|refine exitI rfl ?_|refine retI rfl ?_|refine skipI rfl ?_)
          refine roundI (i + 1) rfl ?_ ?_ ?_
          · show i + 1 ≤ L.length
            omega
          · show L.length - (i + 1) < L.length - i
            omega
          · repeat' (first | exact trivial | with_reducible exact rfl | refine And.intro ?_ ?_)
            all_goals (first | rfl | (rw [hnext]; rfl))
    · simp only [decide_eq_false_iff_not] at c1
      rw [List.take_of_length_le (by omega), hany]
      repeat' (first|with_reducible (first|apply pN|apply cN|apply bN|apply cE|apply cR|apply bR|apply lE|apply lR|apply jE|apply jR)|refine bE rfl ?_|refine bP rfl ?_|refine pC (by first|exact ⟨⟩|omega|(intros;first|exact ⟨⟩|omega)|(simp only [lcQ, lnQ, tnQ];omega)) ?_|refine seqI rfl ?_|refine regI rfl ?_|refine scopeI rfl ?_|refine blockI rfl ?_|refine exitI rfl ?_|refine retI rfl ?_|refine skipI rfl ?_)
      refine endR rfl ?_
      repeat' (first | exact trivial | exact rfl | refine ⟨rfl, ?_⟩ | refine And.intro ?_ ?_)
end Go.AM.YtmjeocinfoeeeaaGreat.Re
