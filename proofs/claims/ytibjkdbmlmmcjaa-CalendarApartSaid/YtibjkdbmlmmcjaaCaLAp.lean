/- The law CalendarApart: her function. -/
import Derived.Test.YtibjkdbmlmmcjaaCaU
set_option linter.all false
namespace Go.AM.Ytibjkdbmlmmcjaa
open Go.Proofs
set_option maxRecDepth 100000
set_option maxHeartbeats 8000000

theorem busy_tool {xss yss : List (List Bk.El)} {t : Int} (h : toolL xss t = toolL yss t) (s e : Int) : busyF xss t s e = busyF yss t s e := by unfold busyF; rw [h]
theorem list_tool {xss yss : List (List Bk.El)} {t : Int} (h : toolL xss t = toolL yss t) : listF xss t = listF yss t := by unfold listF; rw [h]
theorem first_tool {xss yss : List (List Bk.El)} {t : Int} (h : toolL xss t = toolL yss t) (f n : Int) : firstF xss t f n = firstF yss t f n := by unfold firstF; rw [h]

theorem book_tool {xss : List (List Bk.El)} (hl : xss.length = 60) (b : Bk.El) {t : Int} (h0 : 0 ≤ t) (h1 : t < 60) :
    toolL (bookF xss b) t = if tlB b = t ∧ freeF xss b = true then addF (toolL xss t) b else toolL xss t := by
  unfold bookF
  by_cases hf : freeF xss b = true
  · rw [if_pos hf]
    have hg := (free_iff.1 hf).1
    by_cases ht : tlB b = t
    · rw [if_pos ⟨ht, hf⟩]
      unfold toolL
      rw [show b.1.toNat = t.toNat by rw [← ht]; rfl, get_set_same (by omega)]
    · rw [if_neg fun h => ht h.1]
      unfold toolL
      refine get_set_other fun h => ht ?_
      have h2 := hg.t0
      have h3 : (tlB b).toNat = t.toNat := h
      omega
  · rw [if_neg hf, if_neg fun h => hf h.2]

theorem free_tool {xss yss : List (List Bk.El)} {b : Bk.El} {t : Int} (h : toolL xss t = toolL yss t) (hb : tlB b = t) : freeF xss b = freeF yss b := by
  unfold freeF
  have : b.1 = t := hb
  rw [this, busy_tool h]

def ofTool (t : Int) (b : Bk.El) : Bool := decide (b.1 = t)

theorem book_len (xss : List (List Bk.El)) (b : Bk.El) : (bookF xss b).length = xss.length := by unfold bookF; split <;> simp

theorem apart_tool {t : Int} (h0 : 0 ≤ t) (h1 : t < 60) : ∀ {l : List Bk.El} {xss yss : List (List Bk.El)}, xss.length = 60 → yss.length = 60 → toolL xss t = toolL yss t → toolL (bookAll l xss) t = toolL (bookAll (l.filter (ofTool t)) yss) t
  | [], _, _, _, _, h => h
  | b :: l, xss, yss, hx, hy, h => by
    by_cases hb : tlB b = t
    · have hb' : ofTool t b = true := decide_eq_true hb
      rw [List.filter_cons_of_pos hb']
      refine apart_tool h0 h1 (l := l) (xss := bookF xss b) (yss := bookF yss b) (by rw [book_len]; exact hx) (by rw [book_len]; exact hy) ?_
      rw [book_tool hx b h0 h1, book_tool hy b h0 h1, free_tool h hb, h]
    · have hb' : ¬ ofTool t b = true := by unfold ofTool; rw [decide_eq_true_eq]; exact hb
      rw [List.filter_cons_of_neg hb']
      refine apart_tool h0 h1 (l := l) (xss := bookF xss b) (yss := yss) (by rw [book_len]; exact hx) hy ?_
      rw [book_tool hx b h0 h1, if_neg fun h => hb h.1, h]

theorem only_len {t : Int} (h0 : 0 ≤ t) (h1 : t < 60) : ∀ {l : List Bk.El} {xss : List (List Bk.El)}, (∀ b ∈ l, tlB b = t) → xss.length = 60 → lenF xss = (toolL xss t).length → lenF (bookAll l xss) = (toolL (bookAll l xss) t).length
  | [], _, _, _, h => h
  | b :: l, xss, hl, hx, h => by
    refine only_len h0 h1 (l := l) (xss := bookF xss b) (fun c hc => hl c (List.mem_cons_of_mem _ hc)) (by rw [book_len]; exact hx) ?_
    have hb := hl b (by simp)
    rw [book_tool hx b h0 h1]
    by_cases hf : freeF xss b = true
    · rw [if_pos ⟨hb, hf⟩]
      unfold bookF
      rw [if_pos hf]
      have e1 : b.1 = t := hb
      rw [e1]
      have := lenF_set (xss := xss) (l := addF (toolL xss t) b) (i := t.toNat) (by omega)
      have e : getI xss [] t.toNat = toolL xss t := rfl
      rw [e] at this
      omega
    · rw [if_neg fun h => hf h.2]
      unfold bookF
      rw [if_neg hf, h]

def apS : Spec := plain fun
  | [.sl (.pair (.int .i64) (.pair (.int .i64) (.pair (.int .i64) (.int .i64)))) _, .int .i64 _, .int .i64 _, .int .i64 _] => outV True (.bool true)
  | _ => none

def sigAp : List (Nat × Spec) := [(10, saneS), (11, someS), (30, bookedS), (16, pickP), (19, firstS), (21, busyS), (24, listS), (23, sameS), (28, lenS)]
theorem sigApOk : SigOk Try.prog (look sigAp) := sigCons (sigCons (sigCons (sigCons (sigCons (sigCons (sigCons (sigCons (sigCons sigNil
  Try.func28 (by kernel_rfl) (c := body Try.f28) rfl lenOk)
  Try.func23 (by kernel_rfl) (c := body Try.f23) rfl sameOk)
  Try.func24 (by kernel_rfl) (c := body Try.f24) rfl listOk)
  Try.func21 (by kernel_rfl) (c := body Try.f21) rfl busyOk)
  Try.func19 (by kernel_rfl) (c := body Try.f19) rfl firstOk)
  Try.func16 (by kernel_rfl) (c := body Try.f16) rfl pickLOk)
  Try.func30 (by kernel_rfl) (c := body Try.f30) rfl bookedOk)
  Try.func11 (by kernel_rfl) (c := body Try.f11) rfl someOk)
  Try.func10 (by kernel_rfl) (c := body Try.f10) rfl saneOk

theorem apOk : SpecSound Try.prog 8 apS := by
  refine soundP (envOf sigApOk) Try.func8 (c := body Try.f8) rfl (by kernel_rfl) rfl ?_
  intro args out hf hpre
  split at hf <;> try (cases hf; done)
  rename_i x ta fa na
  cases hf
  refine ⟨Nat.le_of_ble_eq_true rfl, initI (args := [.sl t4 x, .int .i64 ta, .int .i64 fa, .int .i64 na]) rfl ?_⟩
  have hsl := someF_len x
  have p1 := pick_b (c := ta) (n := 6) (by omega)
  have p2 := pick_b (c := fa) (n := 400) (by omega)
  have p3 := pick_b (c := na) (n := 60) (by omega)
  repeat' (first
    | with_reducible refine pN ?_
    | with_reducible refine cN ?_
    | with_reducible refine bN ?_
    | with_reducible refine cE ?_
    | with_reducible refine cR ?_
    | with_reducible refine bR ?_
    | with_reducible refine lE ?_
    | with_reducible refine lR ?_
    | with_reducible refine jE ?_
    | with_reducible refine jR ?_
    | refine bE rfl ?_
    | refine bP rfl ?_
    | refine pC (by first | exact True.intro | omega | (intros; first | exact True.intro | omega) | (simp only [List.length_cons, List.length_nil, Int.toNat_natCast]; omega)) ?_
    | refine seqI rfl ?_
    | refine regI rfl ?_
    | refine scopeI rfl ?_
    | refine blockI rfl ?_
    | refine exitI rfl ?_
    | refine retI rfl ?_
    | refine skipI rfl ?_)
  generalize pickF ta 6 = t at *
  generalize someF x = l at *
  refine loopI (σ := Nat) (fun i => [(12, .own 12000), (13, .int .i64 i)]) (fun i => [(12000, .seq Bk ((l.take i).filter (ofTool t)))]) (fun i => i ≤ l.length) (fun i => l.length - i) 0 rfl (fun _ => rfl) rfl ?_ ?_ ?_
  · exact Nat.zero_le _
  · repeat' (first | exact trivial | exact rfl | refine ⟨rfl, ?_⟩ | refine And.intro ?_ ?_)
  · intro i hi
    have hfl := List.length_filter_le (ofTool t) (l.take i)
    rw [List.length_take] at hfl
    repeat' (first
      | with_reducible refine pN ?_
      | with_reducible refine cN ?_
      | with_reducible refine bN ?_
      | with_reducible refine cE ?_
      | with_reducible refine cR ?_
      | with_reducible refine bR ?_
      | with_reducible refine lE ?_
      | with_reducible refine lR ?_
      | with_reducible refine jE ?_
      | with_reducible refine jR ?_
      | refine bE rfl ?_
      | refine bP rfl ?_
      | refine pC (by first | exact True.intro | omega | (intros; first | exact True.intro | omega) | (simp only [List.length_cons, List.length_nil, Int.toNat_natCast]; omega)) ?_
      | refine seqI rfl ?_
      | refine regI rfl ?_
      | refine scopeI rfl ?_
      | refine blockI rfl ?_
      | refine exitI rfl ?_
      | refine retI rfl ?_
      | refine skipI rfl ?_)
    refine condI rfl (fun c1 => ?_) (fun c1 => ?_)
    · simp only [decide_eq_true_eq] at c1
      have hin : ((i : Int)).toNat = i := by omega
      have hil : i < l.length := by omega
      repeat' (first
        | with_reducible refine pN ?_
        | with_reducible refine cN ?_
        | with_reducible refine bN ?_
        | with_reducible refine cE ?_
        | with_reducible refine cR ?_
        | with_reducible refine bR ?_
        | with_reducible refine lE ?_
        | with_reducible refine lR ?_
        | with_reducible refine jE ?_
        | with_reducible refine jR ?_
        | refine bE rfl ?_
        | refine bP rfl ?_
        | refine pC (by first | exact True.intro | omega | (intros; first | exact True.intro | omega) | (simp only [List.length_cons, List.length_nil, Int.toNat_natCast]; omega)) ?_
        | refine seqI rfl ?_
        | refine regI rfl ?_
        | refine scopeI rfl ?_
        | refine blockI rfl ?_
        | refine exitI rfl ?_
        | refine retI rfl ?_
        | refine skipI rfl ?_)
      refine condI rfl (fun c2 => ?_) (fun c2 => ?_)
      · have c2' : ofTool t (getI l Bk.dflt ((i : Int)).toNat) = true := c2
        rw [hin] at c2'
        repeat' (first
          | with_reducible refine pN ?_
          | with_reducible refine cN ?_
          | with_reducible refine bN ?_
          | with_reducible refine cE ?_
          | with_reducible refine cR ?_
          | with_reducible refine bR ?_
          | with_reducible refine lE ?_
          | with_reducible refine lR ?_
          | with_reducible refine jE ?_
          | with_reducible refine jR ?_
          | refine bE rfl ?_
          | refine bP rfl ?_
          | refine pC (by first | exact True.intro | omega | (intros; first | exact True.intro | omega) | (simp only [List.length_cons, List.length_nil, Int.toNat_natCast]; omega) | (simp only [List.length_append, List.length_cons, List.length_nil]; omega)) ?_
          | refine seqI rfl ?_
          | refine regI rfl ?_
          | refine scopeI rfl ?_
          | refine blockI rfl ?_
          | refine exitI rfl ?_
          | refine retI rfl ?_
          | refine skipI rfl ?_)
        refine roundI (i + 1) rfl ?_ ?_ ?_
        · show i + 1 ≤ l.length
          omega
        · show l.length - (i + 1) < l.length - i
          omega
        · repeat' (first | exact trivial | with_reducible exact rfl | refine And.intro ?_ ?_)
          · rfl
          · rw [take_succ_getI (d := Bk.dflt) hil, List.filter_append, List.filter_cons_of_pos c2', hin]
            rfl
      · have c2' : ofTool t (getI l Bk.dflt ((i : Int)).toNat) = false := c2
        rw [hin] at c2'
        repeat' (first
          | with_reducible refine pN ?_
          | with_reducible refine cN ?_
          | with_reducible refine bN ?_
          | with_reducible refine cE ?_
          | with_reducible refine cR ?_
          | with_reducible refine bR ?_
          | with_reducible refine lE ?_
          | with_reducible refine lR ?_
          | with_reducible refine jE ?_
          | with_reducible refine jR ?_
          | refine bE rfl ?_
          | refine bP rfl ?_
          | refine pC (by first | exact True.intro | omega | (intros; first | exact True.intro | omega) | (simp only [List.length_cons, List.length_nil, Int.toNat_natCast]; omega)) ?_
          | refine seqI rfl ?_
          | refine regI rfl ?_
          | refine scopeI rfl ?_
          | refine blockI rfl ?_
          | refine exitI rfl ?_
          | refine retI rfl ?_
          | refine skipI rfl ?_)
        refine roundI (i + 1) rfl ?_ ?_ ?_
        · show i + 1 ≤ l.length
          omega
        · show l.length - (i + 1) < l.length - i
          omega
        · repeat' (first | exact trivial | with_reducible exact rfl | refine And.intro ?_ ?_)
          · rfl
          · rw [take_succ_getI (d := Bk.dflt) hil, List.filter_append, List.filter_cons_of_neg (by rw [c2']; simp)]
            simp
    · simp only [decide_eq_false_iff_not] at c1
      rw [List.take_of_length_le (by omega)] at hfl ⊢
      have hno : noCal.length = 60 := noCal_ok.len
      have e1 := apart_tool (t := t) (by omega) (by omega) (l := l) hno hno rfl
      have e2 := only_len (t := t) (by omega) (by omega) (l := l.filter (ofTool t)) (xss := noCal) (fun b hb => of_decide_eq_true (List.mem_filter.1 hb).2) hno (by
        rw [lenF_no]
        unfold toolL getI noCal
        rw [List.getD_eq_getElem?_getD, List.getElem?_replicate]
        split <;> rfl)
      obtain ⟨g1, g2, g3⟩ := bookAll_ok l (by omega)
      obtain ⟨k1, k2, k3⟩ := bookAll_ok (l.filter (ofTool t)) (by omega)
      generalize l.filter (ofTool t) = m at *
      have hc1 : l.length ≤ 1000 := by omega
      have hc2 : m.length ≤ 1000 := by omega
      repeat' (first
        | with_reducible refine pN ?_
        | with_reducible refine cN ?_
        | with_reducible refine bN ?_
        | with_reducible refine cE ?_
        | with_reducible refine cR ?_
        | with_reducible refine bR ?_
        | with_reducible refine lE ?_
        | with_reducible refine lR ?_
        | with_reducible refine jE ?_
        | with_reducible refine jR ?_
        | refine bE rfl ?_
        | refine bP rfl ?_
        | refine pC (by first | exact True.intro | omega | (intros; first | exact True.intro | omega) | (simp only [List.length_cons, List.length_nil, Int.toNat_natCast]; omega) | first | exact g2 | exact k2) ?_
        | refine seqI rfl ?_
        | refine regI rfl ?_
        | refine scopeI rfl ?_
        | refine blockI rfl ?_
        | refine exitI rfl ?_
        | refine retI rfl ?_
        | refine skipI rfl ?_)
      generalize bookAll l noCal = xss at *
      generalize bookAll m noCal = yss at *
      have hb := busy_tool e1
      have hl' := list_tool e1
      have hf := first_tool e1
      rw [hf]
      refine regH [(99, true), (108, true)] rfl ?_
      repeat' (first | with_reducible refine pN ?_ | refine pC (by first | exact True.intro | exact fun _ => g2 | exact fun _ => k2 | exact g2 | exact k2 | (intros; omega) | (simp [hb]; done) | (rw [hl']; exact sameB_iff.2 rfl) | (simp [hl', sameB_iff]; done)) ?_)
      repeat' (first
        | with_reducible refine pN ?_
        | with_reducible refine cN ?_
        | with_reducible refine bN ?_
        | with_reducible refine cE ?_
        | with_reducible refine cR ?_
        | with_reducible refine bR ?_
        | with_reducible refine lE ?_
        | with_reducible refine lR ?_
        | with_reducible refine jE ?_
        | with_reducible refine jR ?_
        | refine bE rfl ?_
        | refine bP rfl ?_
        | refine pC (by first | exact True.intro | omega | (intros; first | exact True.intro | omega) | (simp only [List.length_cons, List.length_nil, Int.toNat_natCast]; omega)) ?_
        | refine seqI rfl ?_
        | refine regI rfl ?_
        | refine scopeI rfl ?_
        | refine blockI rfl ?_
        | refine exitI rfl ?_
        | refine retI rfl ?_
        | refine skipI rfl ?_)
      refine endR rfl ?_
      repeat' (first | exact trivial | exact rfl | refine ⟨rfl, ?_⟩ | refine And.intro ?_ ?_)
      unfold listF
      rw [if_pos (toolB_of (by omega) (by omega)), e2]
      simp
end Go.AM.Ytibjkdbmlmmcjaa
