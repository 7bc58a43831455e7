/- The law PlanBooked: her function. -/
import Derived.Test.YtgpnkpiinmicgaaPbT
import Derived.Test.YtgpnkpiinmicgaaWkRun
import Derived.Test.YtgpnkpiinmicgaaPlH
set_option linter.all false
namespace Go.AM.Ytgpnkpiinmicgaa.Pl
open Go.Proofs
set_option maxRecDepth 100000
set_option maxHeartbeats 8000000

def pbS : Spec := plain fun
  | [.sl (.pair (.int .i64) (.pair (.int .i64) (.pair (.int .i64) (.pair (.int .i64) (.pair (.int .i64) (.int .i64)))))) _, .sl (.pair (.int .i64) (.int .i64)) _, .int .i64 _, .int .i64 _, .agg [.int .i64 _, .int .i64 _, .int .i64 _]] => outV True (.bool true)
  | _ => none

def sigPb : List (Nat × Spec) := [(11, saneS), (12, madeS), (13, chosenS), (14, runS), (15, pickP), (18, bookS),
  (20, newS), (21, Go.AM.Ytgpnkpiinmicgaa.bookS), (22, freeS), (23, lenS)]
theorem sigPbOk : SigOk Try.prog (look sigPb) := sigCons (sigCons (sigCons (sigCons (sigCons (sigCons (sigCons (sigCons (sigCons (sigCons sigNil
  Try.func23 (by kernel_rfl) (c := body Try.f23) rfl lenOk)
  Try.func22 (by kernel_rfl) (c := body Try.f22) rfl freeOk)
  Try.func21 (by kernel_rfl) (c := body Try.f21) rfl Go.AM.Ytgpnkpiinmicgaa.bookOk)
  Try.func20 (by kernel_rfl) (c := body Try.f20) rfl newOk)
  Try.func18 (by kernel_rfl) (c := body Try.f18) rfl bookOk)
  Try.func15 (by kernel_rfl) (c := body Try.f15) rfl pickLOk)
  Try.func14 (by kernel_rfl) (c := body Try.f14) rfl runOk)
  Try.func13 (by kernel_rfl) (c := body Try.f13) rfl chosenOk)
  Try.func12 (by kernel_rfl) (c := body Try.f12) rfl madeOk)
  Try.func11 (by kernel_rfl) (c := body Try.f11) rfl saneOk

theorem bkN_mem {xs : List StT} {ow : Int} : ∀ {n : Nat} {c : Bk.El}, c ∈ bkN xs ow n ↔ ∃ i, i < n ∧ (c = bk1 (getI xs tStage.dflt i) ow ∨ c = bk2 (getI xs tStage.dflt i) ow)
  | 0, c => by simp [bkN]
  | n + 1, c => by
    simp only [bkN, List.mem_append, List.mem_singleton, bkN_mem (n := n)]
    constructor
    · rintro ((⟨i, hi, h⟩ | h) | h)
      · exact ⟨i, by omega, h⟩
      · exact ⟨n, by omega, .inl h⟩
      · exact ⟨n, by omega, .inr h⟩
    · rintro ⟨i, hi, h⟩
      rcases Nat.lt_or_ge i n with h1 | h1
      · exact .inl (.inl ⟨i, h1, h⟩)
      · rw [show i = n by omega] at h
        rcases h with h | h
        · exact .inl (.inr h)
        · exact .inr h

/-- A visit lies within a booking. -/
def covB (v : ViT) (c : Bk.El) : Bool := decide (c.1 = v.2.1) && decide (c.2.1 ≤ v.2.2.1) && decide (v.2.2.2 ≤ c.2.2.1)

def pbBad (ins : Bool) (n l bt bs be vt vs ve : Int) : Bool := !ins || (decide (n = l) && decide (bt = vt) && decide (bs < ve) && decide (vs < be))

theorem pbOk : SpecSound Try.prog 10 pbS := by
  refine soundP (envOf sigPbOk) Try.func10 (c := body Try.f10) rfl (by kernel_rfl) rfl ?_
  intro args out hf hpre
  split at hf <;> try (cases hf; done)
  rename_i x y tool at' o0 o1 o2
  cases hf
  refine ⟨Nat.le_of_ble_eq_true rfl, initI (args := [.sl tSix x, .sl tTwo y, .int .i64 tool, .int .i64 at', .agg [.int .i64 o0, .int .i64 o1, .int .i64 o2]]) rfl ?_⟩
  have hlen : (mXs x).length ≤ 1000000000000 := by
    obtain ⟨h1, _⟩ := mXs_b x
    have := nst_b x
    omega
  have hposs := chosen_poss (made_valid x) (made_late x) y tool at'
  have hval := made_valid x
  have p1 := pick_b (c := o0) (n := 6) (by omega)
  have p2 := pick_b (c := o1) (n := 300) (by omega)
  have p3 := pick_b (c := o2) (n := 40) (by omega)
  have hno := noCal_ok
  have hns := noCal_good.sorted
  repeat' (first
    | with_reducible refine pN ?_
    | with_reducible refine cN ?_
    | with_reducible refine bN ?_
    | with_reducible refine cE ?_
    | with_reducible refine cR ?_
    | with_reducible refine bR ?_
    | with_reducible refine lE ?_
    | with_reducible refine lR ?_
    | with_reducible refine jE ?_
    | with_reducible refine jR ?_
    | refine bE rfl ?_
    | refine bP rfl ?_
    | refine pC (by first | exact True.intro | omega | (intros; first | exact True.intro | omega) | (simp only [List.length_cons, List.length_nil, Int.toNat_natCast]; omega) | first | exact made_valid _ | exact hlen | exact ⟨hno, hns⟩) ?_
    | refine seqI rfl ?_
    | refine regI rfl ?_
    | refine scopeI rfl ?_
    | refine blockI rfl ?_
    | refine exitI rfl ?_
    | refine retI rfl ?_
    | refine skipI rfl ?_)
  generalize cDu (mXs x) y (mXs x).length = du at *
  generalize cMo (mA x) (mB x) y (mXs x).length = mo at *
  generalize cDe (mA x) (mB x) y = de at *
  generalize cTl (mXs x) tool = tl at *
  generalize cFa (mXs x) tool at' = fa at *
  generalize mE x = e at *
  generalize mA x = a at *
  generalize mB x = bb at *
  generalize mXs x = xs at *
  generalize mWs x = ws at *
  generalize pickF o0 6 = bt at *
  generalize pickF o1 300 = bs at *
  generalize pickF o2 40 = bl at *
  have C := poss_facts hposs
  have hn8 := C.n
  obtain ⟨b, hb⟩ : ∃ b : Bk.El, b = (bt, bs, bs + 1 + bl, 9) := ⟨_, rfl⟩
  have hgb : GoodB b := by
    rw [hb]
    exact ⟨p1.1, by show bt < 60; omega, p2.1, by show bs < bs + 1 + bl; omega, by show bs + 1 + bl ≤ 1000000; omega, by show (1 : Int) ≤ 9; omega, by show (9 : Int) ≤ 1000000; omega⟩
  have h9 : owB b = 9 := by rw [hb]; rfl
  have hbt : tlB b = bt := by rw [hb]; rfl
  have hbs : stB b = bs := by rw [hb]; rfl
  have hbe : enB b = bs + 1 + bl := by rw [hb]; rfl
  rw [← hb]
  refine condI rfl (fun c0 => ?_) (fun c0 => ?_)
  · exfalso
    simp only [decide_eq_true_eq] at c0
    unfold errF at c0
    rw [free_no hgb] at c0
    exact c0 rfl
  · repeat' (first
      | with_reducible refine pN ?_
      | with_reducible refine cN ?_
      | with_reducible refine bN ?_
      | with_reducible refine cE ?_
      | with_reducible refine cR ?_
      | with_reducible refine bR ?_
      | with_reducible refine lE ?_
      | with_reducible refine lR ?_
      | with_reducible refine jE ?_
      | with_reducible refine jR ?_
      | refine bE rfl ?_
      | refine bP rfl ?_
      | refine pC (by first | exact True.intro | omega | (intros; first | exact True.intro | omega) | (simp only [List.length_cons, List.length_nil, Int.toNat_natCast]; omega)) ?_
      | refine seqI rfl ?_
      | refine regI rfl ?_
      | refine scopeI rfl ?_
      | refine blockI rfl ?_
      | refine exitI rfl ?_
      | refine retI rfl ?_
      | refine skipI rfl ?_)
    have hbl : bookF e a bb xs ws 4 = bkN xs 4 xs.length := by unfold bookF; rw [hval]; rfl
    rw [hbl]
    have hlen2 : (bkN xs 4 xs.length).length = 2 * xs.length := bkN_length
    have hmem : ∀ c : Bk.El, c ∈ bkN xs 4 xs.length ↔ ∃ i, i < xs.length ∧ (c = bk1 (getI xs tStage.dflt i) 4 ∨ c = bk2 (getI xs tStage.dflt i) 4) := fun c => bkN_mem
    have how : ∀ c ∈ bkN xs 4 xs.length, owB c = 4 := fun c hc => by
      obtain ⟨i, _, rfl | rfl⟩ := (hmem c).1 hc <;> rfl
    generalize bkN xs 4 xs.length = l at *
    refine condI rfl (fun c1 => ?_) (fun c1 => ?_)
    · exfalso
      simp only [decide_eq_true_eq] at c1
      omega
    · repeat' (first
        | with_reducible refine pN ?_
        | with_reducible refine cN ?_
        | with_reducible refine bN ?_
        | with_reducible refine cE ?_
        | with_reducible refine cR ?_
        | with_reducible refine bR ?_
        | with_reducible refine lE ?_
        | with_reducible refine lR ?_
        | with_reducible refine jE ?_
        | with_reducible refine jR ?_
        | refine bE rfl ?_
        | refine bP rfl ?_
        | refine pC (by first | exact True.intro | omega | (intros; first | exact True.intro | omega) | (simp only [List.length_cons, List.length_nil, Int.toNat_natCast]; omega)) ?_
        | refine seqI rfl ?_
        | refine regI rfl ?_
        | refine scopeI rfl ?_
        | refine blockI rfl ?_
        | refine exitI rfl ?_
        | refine retI rfl ?_
        | refine skipI rfl ?_)
      refine loopI (σ := Nat × Nat) (fun s => [(14, .ptr 14000 0), (17, .int .i64 s.2), (18, .int .i64 s.1)]) (fun s => [(14000, .arr Bk (bookAll (l.take s.1) (Go.AM.Ytgpnkpiinmicgaa.bookF noCal b)) none)]) (fun s => s.1 ≤ l.length ∧ Pb b l s.1 s.2 (bookAll (l.take s.1) (Go.AM.Ytgpnkpiinmicgaa.bookF noCal b))) (fun s => l.length - s.1) (0, 0) rfl (fun _ => rfl) rfl ?_ ?_ ?_
      · exact ⟨Nat.zero_le _, pb_zero hgb l⟩
      · repeat' (first | exact trivial | exact rfl | refine ⟨rfl, ?_⟩ | refine And.intro ?_ ?_)
      rintro ⟨i, n⟩ ⟨hi, hP⟩
      dsimp only at hi hP ⊢
      have hni := hP.le
      have hcal := hP.cal (by omega)
      repeat' (first
        | with_reducible refine pN ?_
        | with_reducible refine cN ?_
        | with_reducible refine bN ?_
        | with_reducible refine cE ?_
        | with_reducible refine cR ?_
        | with_reducible refine bR ?_
        | with_reducible refine lE ?_
        | with_reducible refine lR ?_
        | with_reducible refine jE ?_
        | with_reducible refine jR ?_
        | refine bE rfl ?_
        | refine bP rfl ?_
        | refine pC (by first | exact True.intro | omega | (intros; first | exact True.intro | omega) | (simp only [List.length_cons, List.length_nil, Int.toNat_natCast]; omega)) ?_
        | refine seqI rfl ?_
        | refine regI rfl ?_
        | refine scopeI rfl ?_
        | refine blockI rfl ?_
        | refine exitI rfl ?_
        | refine retI rfl ?_
        | refine skipI rfl ?_)
      refine condI rfl (fun c2 => ?_) (fun c2 => ?_)
      · simp only [decide_eq_true_eq] at c2
        have hil : i < l.length := by omega
        have hin : ((i : Int)).toNat = i := by omega
        have hstep := hP.step hil
        repeat' (first
          | with_reducible refine pN ?_
          | with_reducible refine cN ?_
          | with_reducible refine bN ?_
          | with_reducible refine cE ?_
          | with_reducible refine cR ?_
          | with_reducible refine bR ?_
          | with_reducible refine lE ?_
          | with_reducible refine lR ?_
          | with_reducible refine jE ?_
          | with_reducible refine jR ?_
          | refine bE rfl ?_
          | refine bP rfl ?_
          | refine pC (by first | exact True.intro | omega | (intros; first | exact True.intro | omega) | (simp only [List.length_cons, List.length_nil, Int.toNat_natCast]; omega) | exact hcal) ?_
          | refine seqI rfl ?_
          | refine regI rfl ?_
          | refine scopeI rfl ?_
          | refine blockI rfl ?_
          | refine exitI rfl ?_
          | refine retI rfl ?_
          | refine skipI rfl ?_)
        refine condI rfl (fun c3 => ?_) (fun c3 => ?_)
        · simp only [decide_eq_true_eq] at c3
          have hf : freeF (bookAll (l.take i) (Go.AM.Ytgpnkpiinmicgaa.bookF noCal b)) (getI l Bk.dflt i) = true := by
            cases hf : freeF (bookAll (l.take i) (Go.AM.Ytgpnkpiinmicgaa.bookF noCal b)) (getI l Bk.dflt i) with
            | true => rfl
            | false =>
              have c3' : errF (bookAll (l.take i) (Go.AM.Ytgpnkpiinmicgaa.bookF noCal b)) (getI l Bk.dflt i) = 0 := c3
              unfold errF at c3'
              rw [hf] at c3'
              exact absurd c3' (by decide)
          repeat' (first
            | with_reducible refine pN ?_
            | with_reducible refine cN ?_
            | with_reducible refine bN ?_
            | with_reducible refine cE ?_
            | with_reducible refine cR ?_
            | with_reducible refine bR ?_
            | with_reducible refine lE ?_
            | with_reducible refine lR ?_
            | with_reducible refine jE ?_
            | with_reducible refine jR ?_
            | refine bE rfl ?_
            | refine bP rfl ?_
            | refine pC (by first | exact True.intro | omega | (intros; first | exact True.intro | omega) | (simp only [List.length_cons, List.length_nil, Int.toNat_natCast]; omega)) ?_
            | refine seqI rfl ?_
            | refine regI rfl ?_
            | refine scopeI rfl ?_
            | refine blockI rfl ?_
            | refine exitI rfl ?_
            | refine retI rfl ?_
            | refine skipI rfl ?_)
          refine roundI (i + 1, n + 1) rfl ?_ ?_ ?_
          · refine ⟨by show i + 1 ≤ l.length; omega, ?_⟩
            show Pb b l (i + 1) (n + 1) (bookAll (l.take (i + 1)) _)
            rw [bookAll_take hil]
            exact hstep.1 hf
          · show l.length - (i + 1) < l.length - i
            omega
          · repeat' (first | exact trivial | with_reducible exact rfl | refine And.intro ?_ ?_)
            all_goals first | rfl | exact bookAll_take hil _
        · simp only [decide_eq_false_iff_not] at c3
          have hf : freeF (bookAll (l.take i) (Go.AM.Ytgpnkpiinmicgaa.bookF noCal b)) (getI l Bk.dflt i) = false := by
            cases hf : freeF (bookAll (l.take i) (Go.AM.Ytgpnkpiinmicgaa.bookF noCal b)) (getI l Bk.dflt i) with
            | false => rfl
            | true =>
              exfalso
              apply c3
              show errF (bookAll (l.take i) (Go.AM.Ytgpnkpiinmicgaa.bookF noCal b)) (getI l Bk.dflt i) = 0
              unfold errF
              rw [hf]
              rfl
          repeat' (first
            | with_reducible refine pN ?_
            | with_reducible refine cN ?_
            | with_reducible refine bN ?_
            | with_reducible refine cE ?_
            | with_reducible refine cR ?_
            | with_reducible refine bR ?_
            | with_reducible refine lE ?_
            | with_reducible refine lR ?_
            | with_reducible refine jE ?_
            | with_reducible refine jR ?_
            | refine bE rfl ?_
            | refine bP rfl ?_
            | refine pC (by first | exact True.intro | omega | (intros; first | exact True.intro | omega) | (simp only [List.length_cons, List.length_nil, Int.toNat_natCast]; omega)) ?_
            | refine seqI rfl ?_
            | refine regI rfl ?_
            | refine scopeI rfl ?_
            | refine blockI rfl ?_
            | refine exitI rfl ?_
            | refine retI rfl ?_
            | refine skipI rfl ?_)
          refine roundI (i + 1, n) rfl ?_ ?_ ?_
          · refine ⟨by show i + 1 ≤ l.length; omega, ?_⟩
            show Pb b l (i + 1) n (bookAll (l.take (i + 1)) _)
            rw [bookAll_take hil]
            exact hstep.2 hf
          · show l.length - (i + 1) < l.length - i
            omega
          · repeat' (first | exact trivial | with_reducible exact rfl | refine And.intro ?_ ?_)
            all_goals first | rfl | exact bookAll_take hil _
      · simp only [decide_eq_false_iff_not] at c2
        obtain rfl : i = l.length := by omega
        have hend := hP.ended hgb h9 how
        have hcal2 := hP.len
        generalize hX : bookAll (l.take l.length) (Go.AM.Ytgpnkpiinmicgaa.bookF noCal b) = xss at *
        obtain ⟨hr0, hR⟩ := run_spec hposs
        repeat' (first
          | with_reducible refine pN ?_
          | with_reducible refine cN ?_
          | with_reducible refine bN ?_
          | with_reducible refine cE ?_
          | with_reducible refine cR ?_
          | with_reducible refine bR ?_
          | with_reducible refine lE ?_
          | with_reducible refine lR ?_
          | with_reducible refine jE ?_
          | with_reducible refine jR ?_
          | refine bE rfl ?_
          | refine bP rfl ?_
          | refine pC (by first | exact True.intro | omega | (intros; first | exact True.intro | omega) | (simp only [List.length_cons, List.length_nil, Int.toNat_natCast]; omega) | exact hlen) ?_
          | refine seqI rfl ?_
          | refine regI rfl ?_
          | refine scopeI rfl ?_
          | refine blockI rfl ?_
          | refine exitI rfl ?_
          | refine retI rfl ?_
          | refine skipI rfl ?_)
        obtain ⟨r, hr⟩ : ∃ r, r = (runF e a bb xs ws du mo de tl fa).1 := ⟨_, rfl⟩
        obtain ⟨kd, hkd⟩ : ∃ r, r = (runF e a bb xs ws du mo de tl fa).2.1.1 := ⟨_, rfl⟩
        obtain ⟨nu, hnu⟩ : ∃ r, r = (runF e a bb xs ws du mo de tl fa).2.1.2 := ⟨_, rfl⟩
        rw [← hr, ← hkd, ← hnu] at hR
        simp only [hr0, ← hr, ← hkd, ← hnu]
        refine condF rfl ?_
        repeat' (first
          | with_reducible refine pN ?_
          | with_reducible refine cN ?_
          | with_reducible refine bN ?_
          | with_reducible refine cE ?_
          | with_reducible refine cR ?_
          | with_reducible refine bR ?_
          | with_reducible refine lE ?_
          | with_reducible refine lR ?_
          | with_reducible refine jE ?_
          | with_reducible refine jR ?_
          | refine bE rfl ?_
          | refine bP rfl ?_
          | refine pC (by first | exact True.intro | omega | (intros; first | exact True.intro | omega) | (simp only [List.length_cons, List.length_nil, Int.toNat_natCast]; omega)) ?_
          | refine seqI rfl ?_
          | refine regI rfl ?_
          | refine scopeI rfl ?_
          | refine blockI rfl ?_
          | refine exitI rfl ?_
          | refine retI rfl ?_
          | refine skipI rfl ?_)
        refine loopI (σ := Nat) (fun j => [(22, .int .i64 j)]) (fun j => []) (fun j => j ≤ r.length) (fun j => r.length - j) 0 rfl (fun _ => rfl) rfl ?_ ?_ ?_
        · exact Nat.zero_le _
        · repeat' (first | exact trivial | exact rfl | refine ⟨rfl, ?_⟩ | refine And.intro ?_ ?_)
        intro j hj
        have hrl := hR.len
        repeat' (first
          | with_reducible refine pN ?_
          | with_reducible refine cN ?_
          | with_reducible refine bN ?_
          | with_reducible refine cE ?_
          | with_reducible refine cR ?_
          | with_reducible refine bR ?_
          | with_reducible refine lE ?_
          | with_reducible refine lR ?_
          | with_reducible refine jE ?_
          | with_reducible refine jR ?_
          | refine bE rfl ?_
          | refine bP rfl ?_
          | refine pC (by first | exact True.intro | omega | (intros; first | exact True.intro | omega) | (simp only [List.length_cons, List.length_nil, Int.toNat_natCast]; omega)) ?_
          | refine seqI rfl ?_
          | refine regI rfl ?_
          | refine scopeI rfl ?_
          | refine blockI rfl ?_
          | refine exitI rfl ?_
          | refine retI rfl ?_
          | refine skipI rfl ?_)
        refine condI rfl (fun c4 => ?_) (fun c4 => ?_)
        · simp only [decide_eq_true_eq] at c4
          have hjl : j < r.length := by omega
          have hjn : ((j : Int)).toNat = j := by omega
          have V := visN C (hR.vis j hjl) (by omega)
          unfold VisN at V
          repeat' (first
            | with_reducible refine pN ?_
            | with_reducible refine cN ?_
            | with_reducible refine bN ?_
            | with_reducible refine cE ?_
            | with_reducible refine cR ?_
            | with_reducible refine bR ?_
            | with_reducible refine lE ?_
            | with_reducible refine lR ?_
            | with_reducible refine jE ?_
            | with_reducible refine jR ?_
            | refine bE rfl ?_
            | refine bP rfl ?_
            | refine pC (by first | exact True.intro | omega | (intros; first | exact True.intro | omega) | (simp only [List.length_cons, List.length_nil, Int.toNat_natCast]; omega)) ?_
            | refine seqI rfl ?_
            | refine regI rfl ?_
            | refine scopeI rfl ?_
            | refine blockI rfl ?_
            | refine exitI rfl ?_
            | refine retI rfl ?_
            | refine skipI rfl ?_)
          refine loopI (σ := Nat) (fun k => [(23, .bool ((l.take k).any (covB (vis r j)))), (24, .int .i64 k)]) (fun k => []) (fun k => k ≤ l.length) (fun k => l.length - k) 0 rfl (fun _ => rfl) rfl ?_ ?_ ?_
          · exact Nat.zero_le _
          · repeat' (first | exact trivial | exact rfl | refine ⟨rfl, ?_⟩ | refine And.intro ?_ ?_)
          intro k hk
          repeat' (first
            | with_reducible refine pN ?_
            | with_reducible refine cN ?_
            | with_reducible refine bN ?_
            | with_reducible refine cE ?_
            | with_reducible refine cR ?_
            | with_reducible refine bR ?_
            | with_reducible refine lE ?_
            | with_reducible refine lR ?_
            | with_reducible refine jE ?_
            | with_reducible refine jR ?_
            | refine bE rfl ?_
            | refine bP rfl ?_
            | refine pC (by first | exact True.intro | omega | (intros; first | exact True.intro | omega) | (simp only [List.length_cons, List.length_nil, Int.toNat_natCast]; omega)) ?_
            | refine seqI rfl ?_
            | refine regI rfl ?_
            | refine scopeI rfl ?_
            | refine blockI rfl ?_
            | refine exitI rfl ?_
            | refine retI rfl ?_
            | refine skipI rfl ?_)
          refine condI rfl (fun c5 => ?_) (fun c5 => ?_)
          · simp only [decide_eq_true_eq] at c5
            have hkl : k < l.length := by omega
            have hkn : ((k : Int)).toNat = k := by omega
            repeat' (first
              | with_reducible refine pN ?_
              | with_reducible refine cN ?_
              | with_reducible refine bN ?_
              | with_reducible refine cE ?_
              | with_reducible refine cR ?_
              | with_reducible refine bR ?_
              | with_reducible refine lE ?_
              | with_reducible refine lR ?_
              | with_reducible refine jE ?_
              | with_reducible refine jR ?_
              | refine bE rfl ?_
              | refine bP rfl ?_
              | refine pC (by first | exact True.intro | omega | (intros; first | exact True.intro | omega) | (simp only [List.length_cons, List.length_nil, Int.toNat_natCast]; omega)) ?_
              | refine seqI rfl ?_
              | refine regI rfl ?_
              | refine scopeI rfl ?_
              | refine blockI rfl ?_
              | refine exitI rfl ?_
              | refine retI rfl ?_
              | refine skipI rfl ?_)
            refine roundI (k + 1) rfl ?_ ?_ ?_
            · show k + 1 ≤ l.length
              omega
            · show l.length - (k + 1) < l.length - k
              omega
            · repeat' (first | exact trivial | with_reducible exact rfl | refine And.intro ?_ ?_)
              all_goals first | rfl | skip
              rw [take_succ_getI (d := Bk.dflt) hkl, List.any_append, List.any_cons, List.any_nil, Bool.or_false]
              rfl
          · simp only [decide_eq_false_iff_not] at c5
            obtain rfl : k = l.length := by omega
            rw [List.take_length]
            have hS := C.st j (by omega)
            unfold StOk at hS
            have hA := C.at' j (by omega)
            unfold AtOk at hA
            unfold vis sMt sMs sSt sSs at V
            obtain ⟨c, hc, hct, hcs, hce⟩ : ∃ c ∈ l, tlB c = (getI r tVisit.dflt j).2.1 ∧ stB c ≤ (getI r tVisit.dflt j).2.2.1 ∧ enB c ≥ (getI r tVisit.dflt j).2.2.2 := by
              rcases V.2.1 with h | h
              · refine ⟨bk1 (getI xs tStage.dflt j) 4, (hmem _).2 ⟨j, by omega, .inl rfl⟩, h.1.symm, ?_, ?_⟩
                · show (getI xs tStage.dflt j).2.2.1.2 ≤ _
                  omega
                · show _ ≤ (getI xs tStage.dflt j).2.2.1.2 + (getI xs tStage.dflt j).2.1
                  omega
              · refine ⟨bk2 (getI xs tStage.dflt j) 4, (hmem _).2 ⟨j, by omega, .inr rfl⟩, h.1.symm, ?_, ?_⟩
                · show (getI xs tStage.dflt j).2.2.2.2 ≤ _
                  omega
                · show _ ≤ (getI xs tStage.dflt j).2.2.2.2 + (getI xs tStage.dflt j).2.1
                  omega
            have hany : l.any (covB (vis r j)) = true := List.any_eq_true.2 ⟨c, hc, by
              unfold covB vis
              simp only [Bool.and_eq_true, decide_eq_true_eq]
              exact ⟨⟨hct, hcs⟩, hce⟩⟩
            rw [hany]
            have hbad : pbBad true n l.length bt bs (bs + 1 + bl) (getI r tVisit.dflt j).2.1 (getI r tVisit.dflt j).2.2.1 (getI r tVisit.dflt j).2.2.2 = false := by
              cases hq : pbBad true n l.length bt bs (bs + 1 + bl) (getI r tVisit.dflt j).2.1 (getI r tVisit.dflt j).2.2.1 (getI r tVisit.dflt j).2.2.2 with
              | false => rfl
              | true =>
                exfalso
                unfold pbBad at hq
                simp only [Bool.not_true, Bool.false_or, Bool.and_eq_true, decide_eq_true_eq] at hq
                refine hP.meets hgb h9 how (by omega) hc (by omega) ⟨?_, ?_⟩
                · omega
                · omega
            repeat' (first
              | with_reducible refine pN ?_
              | with_reducible refine cN ?_
              | with_reducible refine bN ?_
              | with_reducible refine cE ?_
              | with_reducible refine cR ?_
              | with_reducible refine bR ?_
              | with_reducible refine lE ?_
              | with_reducible refine lR ?_
              | with_reducible refine jE ?_
              | with_reducible refine jR ?_
              | refine bE rfl ?_
              | refine bP rfl ?_
              | refine pC (by first | exact True.intro | omega | (intros; first | exact True.intro | omega) | (simp only [List.length_cons, List.length_nil, Int.toNat_natCast]; omega)) ?_
              | refine seqI rfl ?_
              | refine regI rfl ?_
              | refine scopeI rfl ?_
              | refine blockI rfl ?_
              | refine exitI rfl ?_
              | refine retI rfl ?_
              | refine skipI rfl ?_)
            refine condI rfl (fun c6 => ?_) (fun c6 => ?_)
            · exfalso
              have c6' : pbBad true n l.length bt bs (bs + 1 + bl) (getI r tVisit.dflt j).2.1 (getI r tVisit.dflt j).2.2.1 (getI r tVisit.dflt j).2.2.2 = true := c6
              rw [hbad] at c6'
              cases c6'
            · repeat' (first
                | with_reducible refine pN ?_
                | with_reducible refine cN ?_
                | with_reducible refine bN ?_
                | with_reducible refine cE ?_
                | with_reducible refine cR ?_
                | with_reducible refine bR ?_
                | with_reducible refine lE ?_
                | with_reducible refine lR ?_
                | with_reducible refine jE ?_
                | with_reducible refine jR ?_
                | refine bE rfl ?_
                | refine bP rfl ?_
                | refine pC (by first | exact True.intro | omega | (intros; first | exact True.intro | omega) | (simp only [List.length_cons, List.length_nil, Int.toNat_natCast]; omega)) ?_
                | refine seqI rfl ?_
                | refine regI rfl ?_
                | refine scopeI rfl ?_
                | refine blockI rfl ?_
                | refine exitI rfl ?_
                | refine retI rfl ?_
                | refine skipI rfl ?_)
              refine roundI (j + 1) rfl ?_ ?_ ?_
              · show j + 1 ≤ r.length
                omega
              · show r.length - (j + 1) < r.length - j
                omega
              · repeat' (first | exact trivial | exact rfl | refine ⟨rfl, ?_⟩ | refine And.intro ?_ ?_)
        · simp only [decide_eq_false_iff_not] at c4
          have hfr := freed_ok hcal.1 4
          have hle : lenF xss - lenF (freedF xss 4) = n := by omega
          repeat' (first
            | with_reducible refine pN ?_
            | with_reducible refine cN ?_
            | with_reducible refine bN ?_
            | with_reducible refine cE ?_
            | with_reducible refine cR ?_
            | with_reducible refine bR ?_
            | with_reducible refine lE ?_
            | with_reducible refine lR ?_
            | with_reducible refine jE ?_
            | with_reducible refine jR ?_
            | refine bE rfl ?_
            | refine bP rfl ?_
            | refine pC (by first | exact True.intro | omega | (intros; first | exact True.intro | omega) | (simp only [List.length_cons, List.length_nil, Int.toNat_natCast]; omega)) ?_
            | refine seqI rfl ?_
            | refine regI rfl ?_
            | refine scopeI rfl ?_
            | refine blockI rfl ?_
            | refine exitI rfl ?_
            | refine retI rfl ?_
            | refine skipI rfl ?_)
          refine regH [(177, true), (183, true)] rfl ?_
          refine pC rfl (pC hcal.1 (pC (by simp only [Bool.true_and, decide_eq_true_eq]; omega) (pC hfr (pN ?_))))
          repeat' (first
            | with_reducible refine pN ?_
            | with_reducible refine cN ?_
            | with_reducible refine bN ?_
            | with_reducible refine cE ?_
            | with_reducible refine cR ?_
            | with_reducible refine bR ?_
            | with_reducible refine lE ?_
            | with_reducible refine lR ?_
            | with_reducible refine jE ?_
            | with_reducible refine jR ?_
            | refine bE rfl ?_
            | refine bP rfl ?_
            | refine pC (by first | exact True.intro | omega | (intros; first | exact True.intro | omega) | (simp only [List.length_cons, List.length_nil, Int.toNat_natCast]; omega)) ?_
            | refine seqI rfl ?_
            | refine regI rfl ?_
            | refine scopeI rfl ?_
            | refine blockI rfl ?_
            | refine exitI rfl ?_
            | refine retI rfl ?_
            | refine skipI rfl ?_)
          refine endR rfl ?_
          repeat' (first | exact trivial | exact rfl | refine ⟨rfl, ?_⟩ | refine And.intro ?_ ?_)
          rw [hend]
          rfl
end Go.AM.Ytgpnkpiinmicgaa.Pl
