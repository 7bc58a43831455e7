/- The law DispatchReserved: her function. -/
import Derived.Test.YtkacoophnfljcaaDiLAl
set_option linter.all false
namespace Go.AM.Ytkacoophnfljcaa
open Go.Proofs
set_option maxRecDepth 100000
set_option maxHeartbeats 8000000

abbrev tAsk : Ty := .pair (.int .i64) (.int .i64)

def eqK (a b : Bk.El) : Bool := decide (a.1 = b.1) && (decide (a.2.1 = b.2.1) && (decide (a.2.2.1 = b.2.2.1) && decide (a.2.2.2 = b.2.2.2)))
theorem eqK_iff {a b : Bk.El} : eqK a b = true ↔ a = b := by
  obtain ⟨a1, a2, a3, a4⟩ := a
  obtain ⟨b1, b2, b3, b4⟩ := b
  unfold eqK
  constructor
  · intro h
    simp only [Bool.and_eq_true, decide_eq_true_eq] at h
    obtain ⟨h1, h2, h3, h4⟩ := h
    subst h1 h2 h3 h4
    rfl
  · intro h
    cases h
    simp

/-- The place among the earlier ones. -/
def plcF (p m : Nat) : Nat := if m ≤ p then m else m - 1

theorem put_get {T : List Bk.El} {b : Bk.El} {p m : Nat} (hp : p ≤ T.length) (hm : m ≤ T.length) : getI (T.take p ++ b :: T.drop p) Bk.dflt m = if m = p then b else getI T Bk.dflt (plcF p m) := by
  have hl : (T.take p).length = p := by rw [List.length_take]; omega
  unfold plcF
  simp only [getI, List.getD]
  rcases Nat.lt_trichotomy m p with h | h | h
  · rw [if_neg (by omega), if_pos (by omega), List.getElem?_append_left (by omega), List.getElem?_take_of_lt h]
  · rw [if_pos h, List.getElem?_append_right (by omega), hl, h, Nat.sub_self]
    rfl
  · rw [if_neg (by omega), if_neg (by omega), List.getElem?_append_right (by omega), hl]
    obtain ⟨d, rfl⟩ : ∃ d, m = p + d + 1 := ⟨m - p - 1, by omega⟩
    rw [show p + d + 1 - p = d + 1 by omega, List.getElem?_cons_succ, List.getElem?_drop, show p + d + 1 - 1 = p + d by omega]

theorem getB_mem {T : List Bk.El} {k : Nat} (hk : k < T.length) : getI T Bk.dflt k ∈ T := by
  have := List.getElem_mem (l := T) (n := k) hk
  simpa [getI, List.getD, List.getElem?_eq_getElem hk] using this

theorem tool_len {xss : List (List Bk.El)} (h : Cal xss) {t : Int} (h0 : 0 ≤ t) (h1 : t < 60) : (toolL xss t).length ≤ 1000000 := by
  have hl : t.toNat < xss.length := by have := h.1; omega
  refine h.2 _ ?_
  unfold toolL getI
  rw [List.getD_eq_getElem?_getD, List.getElem?_eq_getElem hl]
  exact List.getElem_mem _

def lrsS : Spec := plain fun
  | [.sl (.pair (.int .i64) (.pair (.int .i64) (.pair (.int .i64) (.int .i64)))) _, .sl (.pair (.int .i64) (.pair (.int .i64) (.pair (.int .i64) (.int .i64)))) _, .int .i64 _, .sl (.pair (.int .i64) (.int .i64)) _] => outV True (.bool true)
  | _ => none

theorem lrsOk : SpecSound Try.prog 9 lrsS := by
  refine soundP (envOf sigDlOk) Try.func9 (c := body Try.f9) rfl (by kernel_rfl) rfl ?_
  intro args out hf hpre
  split at hf <;> try (cases hf; done)
  rename_i bk x n asks
  cases hf
  refine ⟨Nat.le_of_ble_eq_true rfl, initI (args := [.sl t4 bk, .sl t4 x, .int .i64 n, .sl tAsk asks]) rfl ?_⟩
  have hjl := jobsF_len x
  obtain ⟨hr, hrl⟩ := rulesF_ok n
  have hlots := jobsF_lots x
  have hjok := jobsF_ok x
  obtain ⟨g1, g2, g3⟩ := bookAll_ok (someF (bk.take 20)) (by have := someF_len (bk.take 20); omega)
  have hlen0 := (bookAll_good (l := someF (bk.take 20)) noCal_good).2
  have hsl := someF_len (bk.take 20)
  rw [lenF_no] at hlen0
  repeat' (first
    | with_reducible refine pN ?_
    | with_reducible refine cN ?_
    | with_reducible refine bN ?_
    | with_reducible refine cE ?_
    | with_reducible refine cR ?_
    | with_reducible refine bR ?_
    | with_reducible refine lE ?_
    | with_reducible refine lR ?_
    | with_reducible refine jE ?_
    | with_reducible refine jR ?_
    | refine bE rfl ?_
    | refine bP rfl ?_
    | refine pC (by first | exact True.intro | omega | (intros; first | exact True.intro | omega) | (simp only [List.length_cons, List.length_nil, Int.toNat_natCast]; omega)) ?_
    | refine seqI rfl ?_
    | refine regI rfl ?_
    | refine scopeI rfl ?_
    | refine blockI rfl ?_
    | refine exitI rfl ?_
    | refine retI rfl ?_
    | refine skipI rfl ?_)
  generalize bookAll (someF (bk.take 20)) noCal = xs0 at *
  generalize jobsF x = l at *
  refine loopI (σ := Nat × Int × List (List Bk.El)) (fun s => [(10, .ptr 10000 0), (11, .int .i64 (lenF s.2.2)), (13, .int .i64 s.2.1), (14, .int .i64 s.1)]) (fun s => [(10000, .arr Bk s.2.2 none)]) (fun s => s.1 ≤ asks.length ∧ s.1 ≤ 20 ∧ CalG s.2.2 ∧ lenF s.2.2 ≤ 100 + s.1) (fun s => 20 - s.1) (0, 0, xs0) rfl (fun _ => rfl) rfl ?_ ?_ ?_
  · exact ⟨Nat.zero_le _, by omega, g1, by show lenF xs0 ≤ 100 + 0; omega⟩
  · repeat' (first | exact trivial | exact rfl | refine ⟨rfl, ?_⟩ | refine And.intro ?_ ?_)
  rintro ⟨i, rc, xss⟩ ⟨hi, hi20, g, hlf⟩
  dsimp only at hi hi20 g hlf ⊢
  clear g1 g2 g3 hlen0
  have hcal := g.cal (by omega)
  repeat' (first
    | with_reducible refine pN ?_
    | with_reducible refine cN ?_
    | with_reducible refine bN ?_
    | with_reducible refine cE ?_
    | with_reducible refine cR ?_
    | with_reducible refine bR ?_
    | with_reducible refine lE ?_
    | with_reducible refine lR ?_
    | with_reducible refine jE ?_
    | with_reducible refine jR ?_
    | refine bE rfl ?_
    | refine bP rfl ?_
    | refine pC (by first | exact True.intro | omega | (intros; first | exact True.intro | omega) | (simp only [List.length_cons, List.length_nil, Int.toNat_natCast]; omega)) ?_
    | refine seqI rfl ?_
    | refine regI rfl ?_
    | refine scopeI rfl ?_
    | refine blockI rfl ?_
    | refine exitI rfl ?_
    | refine retI rfl ?_
    | refine skipI rfl ?_)
  refine condI rfl (fun c1 => ?_) (fun c1 => ?_)
  · have c1' : (decide ((i : Int) < asks.length) && decide ((i : Int) < 20)) = true := c1
    simp only [Bool.and_eq_true, decide_eq_true_eq] at c1'
    have hil : i < asks.length := by omega
    have hin : ((i : Int)).toNat = i := by omega
    have p1 := pick_b (c := (getI asks tAsk.dflt i).1) (n := 5) (by omega)
    have p2 := pick_b (c := (getI asks tAsk.dflt i).2) (n := 200) (by omega)
    repeat' (first
      | with_reducible refine pN ?_
      | with_reducible refine cN ?_
      | with_reducible refine bN ?_
      | with_reducible refine cE ?_
      | with_reducible refine cR ?_
      | with_reducible refine bR ?_
      | with_reducible refine lE ?_
      | with_reducible refine lR ?_
      | with_reducible refine jE ?_
      | with_reducible refine jR ?_
      | refine bE rfl ?_
      | refine bP rfl ?_
      | refine pC (by first | exact True.intro | omega | (intros; first | exact True.intro | omega) | (simp only [List.length_cons, List.length_nil, Int.toNat_natCast]; omega) | first | exact hcal | exact ⟨hcal, by omega, by omega⟩) ?_
      | refine seqI rfl ?_
      | refine regI rfl ?_
      | refine scopeI rfl ?_
      | refine blockI rfl ?_
      | refine exitI rfl ?_
      | refine retI rfl ?_
      | refine skipI rfl ?_)
    rw [hin]
    generalize pickF (getI asks tAsk.dflt i).1 5 = tool at *
    generalize pickF (getI asks tAsk.dflt i).2 200 = now at *
    generalize rulesF n = rs at *
    have hyes := pick_spec (xss := xss) (tool := tool) (now := now) (rc := rc) hr hlots
    generalize pickJ xss tool now rs rc l = q at *
    obtain ⟨j, ok⟩ := q
    dsimp only at hyes ⊢
    cases ok with
    | false =>
      refine condT rfl ?_
      repeat' (first
        | with_reducible refine pN ?_
        | with_reducible refine cN ?_
        | with_reducible refine bN ?_
        | with_reducible refine cE ?_
        | with_reducible refine cR ?_
        | with_reducible refine bR ?_
        | with_reducible refine lE ?_
        | with_reducible refine lR ?_
        | with_reducible refine jE ?_
        | with_reducible refine jR ?_
        | refine bE rfl ?_
        | refine bP rfl ?_
        | refine pC (by first | exact True.intro | omega | (intros; first | exact True.intro | omega) | (simp only [List.length_cons, List.length_nil, Int.toNat_natCast]; omega)) ?_
        | refine seqI rfl ?_
        | refine regI rfl ?_
        | refine scopeI rfl ?_
        | refine blockI rfl ?_
        | refine exitI rfl ?_
        | refine retI rfl ?_
        | refine skipI rfl ?_)
      refine roundI (i + 1, rc, xss) rfl ?_ ?_ ?_
      · exact ⟨by show i + 1 ≤ asks.length; omega, by show i + 1 ≤ 20; omega, g, by show lenF xss ≤ 100 + (i + 1); omega⟩
      · show 20 - (i + 1) < 20 - i
        omega
      · repeat' (first | exact trivial | exact rfl | refine ⟨rfl, ?_⟩ | refine And.intro ?_ ?_)
    | true =>
      refine condF rfl ?_
      obtain ⟨hm, hf, _⟩ := hyes rfl
      have hj := hjok _ hm
      have hlb := length_b rc j
      have hfree := fit_free (o := 100 + jLot j) g (by omega) (by omega) (by omega) (by omega) (by omega) (by omega) hf
      repeat' (first
        | with_reducible refine pN ?_
        | with_reducible refine cN ?_
        | with_reducible refine bN ?_
        | with_reducible refine cE ?_
        | with_reducible refine cR ?_
        | with_reducible refine bR ?_
        | with_reducible refine lE ?_
        | with_reducible refine lR ?_
        | with_reducible refine jE ?_
        | with_reducible refine jR ?_
        | refine bE rfl ?_
        | refine bP rfl ?_
        | refine pC (by first | exact True.intro | omega | (intros; first | exact True.intro | omega) | (simp only [List.length_cons, List.length_nil, Int.toNat_natCast]; omega) | first | (show In64 (jLen j + 20); omega) | (show In64 (now + lengthF rc j); omega) | exact ⟨hcal, g.sorted⟩) ?_
        | refine seqI rfl ?_
        | refine regI rfl ?_
        | refine scopeI rfl ?_
        | refine blockI rfl ?_
        | refine exitI rfl ?_
        | refine retI rfl ?_
        | refine skipI rfl ?_)
      refine condI rfl (fun c2 => ?_) (fun c2 => ?_)
      · exfalso
        simp only [decide_eq_true_eq] at c2
        exact c2 (errF_zero.2 hfree)
      clear c2
      obtain ⟨y1, y2, y3⟩ := book_yes g hfree
      have hbt := book_tool g hfree
      have hT := y1.tool (t := tool) (by omega) (by omega)
      have hcal2 := y1.cal (by omega)
      have hbn : (tool, now, now + lengthF rc j, 100 + jLot j) ∉ toolL xss tool := fun h => by
        refine (free_iff.1 hfree).2 _ h ⟨?_, ?_⟩ <;> (show now < now + lengthF rc j; omega)
      have hl1 : listF xss tool = toolL xss tool := by
        unfold listF
        rw [if_pos (toolB_of p1.1 (by omega))]
      have hl2 : ∀ c, listF (bookF xss c) tool = toolL (bookF xss c) tool := fun c => by
        unfold listF
        rw [if_pos (toolB_of p1.1 (by omega))]
      repeat' (first
        | with_reducible refine pN ?_
        | with_reducible refine cN ?_
        | with_reducible refine bN ?_
        | with_reducible refine cE ?_
        | with_reducible refine cR ?_
        | with_reducible refine bR ?_
        | with_reducible refine lE ?_
        | with_reducible refine lR ?_
        | with_reducible refine jE ?_
        | with_reducible refine jR ?_
        | refine bE rfl ?_
        | refine bP rfl ?_
        | refine pC (by first | exact True.intro | omega | (intros; first | exact True.intro | omega) | (simp only [List.length_cons, List.length_nil, Int.toNat_natCast]; omega) | exact hcal2) ?_
        | refine seqI rfl ?_
        | refine regI rfl ?_
        | refine scopeI rfl ?_
        | refine blockI rfl ?_
        | refine exitI rfl ?_
        | refine retI rfl ?_
        | refine skipI rfl ?_)
      rw [hl1, hl2]
      have hpl := posF_le (toolL xss tool) now
      have hTe : toolL (bookF xss (tool, now, now + lengthF rc j, 100 + jLot j)) tool = (toolL xss tool).take (posF (toolL xss tool) now) ++ (tool, now, now + lengthF rc j, 100 + jLot j) :: (toolL xss tool).drop (posF (toolL xss tool) now) := hbt
      have hA6 := tool_len hcal2 (t := tool) (by omega) (by omega)
      clear hbt y2 hl1 hl2 hfree hf hyes
      rw [show lengthI rc (jRec j) (jLen j) = lengthF rc j from rfl]
      generalize hB : ((tool, now, now + lengthF rc j, 100 + jLot j) : Bk.El) = b at *
      generalize hX : bookF xss b = ys at *
      generalize toolL xss tool = T at *
      generalize toolL ys tool = A at *
      generalize posF T now = p at *
      have hAl : A.length = T.length + 1 := by
        rw [hTe]
        simp only [List.length_append, List.length_cons, List.length_take, List.length_drop]
        omega
      have hget : ∀ m, m ≤ T.length → getI A Bk.dflt m = if m = p then b else getI T Bk.dflt (plcF p m) := fun m hm => by rw [hTe]; exact put_get hpl hm
      refine loopI (σ := Nat) (fun m => [(22, .int .i64 (plcF p m)), (23, .int .i64 m)]) (fun m => []) (fun m => m ≤ A.length) (fun m => A.length - m) 0 rfl (fun _ => rfl) rfl ?_ ?_ ?_
      · exact Nat.zero_le _
      · repeat' (first | exact trivial | with_reducible exact rfl | refine And.intro ?_ ?_)
        all_goals first | rfl | (show ((plcF p 0 : Nat) : Int) = 0; unfold plcF; rw [if_pos (Nat.zero_le _)]; rfl) | (show (0 : Int) = ((plcF p 0 : Nat) : Int); unfold plcF; rw [if_pos (Nat.zero_le _)]; rfl)
      rintro m hm
      repeat' (first
        | with_reducible refine pN ?_
        | with_reducible refine cN ?_
        | with_reducible refine bN ?_
        | with_reducible refine cE ?_
        | with_reducible refine cR ?_
        | with_reducible refine bR ?_
        | with_reducible refine lE ?_
        | with_reducible refine lR ?_
        | with_reducible refine jE ?_
        | with_reducible refine jR ?_
        | refine bE rfl ?_
        | refine bP rfl ?_
        | refine pC (by first | exact True.intro | omega | (intros; first | exact True.intro | omega) | (simp only [List.length_cons, List.length_nil, Int.toNat_natCast]; omega)) ?_
        | refine seqI rfl ?_
        | refine regI rfl ?_
        | refine scopeI rfl ?_
        | refine blockI rfl ?_
        | refine exitI rfl ?_
        | refine retI rfl ?_
        | refine skipI rfl ?_)
      refine condI rfl (fun c3 => ?_) (fun c3 => ?_)
      · simp only [decide_eq_true_eq] at c3
        have hml : m < A.length := by omega
        have hmn : ((m : Int)).toNat = m := by omega
        have hg := hget m (by omega)
        repeat' (first
          | with_reducible refine pN ?_
          | with_reducible refine cN ?_
          | with_reducible refine bN ?_
          | with_reducible refine cE ?_
          | with_reducible refine cR ?_
          | with_reducible refine bR ?_
          | with_reducible refine lE ?_
          | with_reducible refine lR ?_
          | with_reducible refine jE ?_
          | with_reducible refine jR ?_
          | refine bE rfl ?_
          | refine bP rfl ?_
          | refine pC (by first | exact True.intro | omega | (intros; first | exact True.intro | omega) | (simp only [List.length_cons, List.length_nil, Int.toNat_natCast]; omega) | first | (intro h; have := of_decide_eq_true h; omega) | (intros; omega)) ?_
          | refine seqI rfl ?_
          | refine regI rfl ?_
          | refine scopeI rfl ?_
          | refine blockI rfl ?_
          | refine exitI rfl ?_
          | refine retI rfl ?_
          | refine skipI rfl ?_)
        refine condI rfl (fun c4 => ?_) (fun c4 => ?_)
        · exfalso
          have c4' : (decide ((0 : Int) < (m : Int)) && decide (stB (getI A Bk.dflt m) < enB (getI A Bk.dflt ((m : Int) - 1).toNat))) = true := c4
          simp only [Bool.and_eq_true, decide_eq_true_eq] at c4'
          rw [show ((m : Int) - 1).toNat = m - 1 by omega] at c4'
          have := List.pairwise_iff_getElem.1 hT.ord (m - 1) m (by omega) hml (by omega)
          have e1 : getI A Bk.dflt m = A[m] := by simp [getI, List.getD, List.getElem?_eq_getElem hml]
          have e2 : getI A Bk.dflt (m - 1) = A[m - 1] := by simp [getI, List.getD, List.getElem?_eq_getElem (show m - 1 < A.length by omega)]
          rw [e1, e2] at c4'
          omega
        repeat' (first
          | with_reducible refine pN ?_
          | with_reducible refine cN ?_
          | with_reducible refine bN ?_
          | with_reducible refine cE ?_
          | with_reducible refine cR ?_
          | with_reducible refine bR ?_
          | with_reducible refine lE ?_
          | with_reducible refine lR ?_
          | with_reducible refine jE ?_
          | with_reducible refine jR ?_
          | refine bE rfl ?_
          | refine bP rfl ?_
          | refine pC (by first | exact True.intro | omega | (intros; first | exact True.intro | omega) | (simp only [List.length_cons, List.length_nil, Int.toNat_natCast]; omega)) ?_
          | refine seqI rfl ?_
          | refine regI rfl ?_
          | refine scopeI rfl ?_
          | refine blockI rfl ?_
          | refine exitI rfl ?_
          | refine retI rfl ?_
          | refine skipI rfl ?_)
        refine condI rfl (fun c5 => ?_) (fun c5 => ?_)
        · have c5' : eqK (getI A Bk.dflt m) (tool, now, now + lengthF rc j, 100 + jLot j) = true := c5
          rw [hB] at c5'
          have c5' := eqK_iff.1 c5'
          have hmp : m = p := by
            apply Classical.byContradiction
            intro hne
            rw [hg, if_neg hne] at c5'
            refine hbn (c5' ▸ getB_mem ?_)
            unfold plcF
            split <;> omega
          repeat' (first
            | with_reducible refine pN ?_
            | with_reducible refine cN ?_
            | with_reducible refine bN ?_
            | with_reducible refine cE ?_
            | with_reducible refine cR ?_
            | with_reducible refine bR ?_
            | with_reducible refine lE ?_
            | with_reducible refine lR ?_
            | with_reducible refine jE ?_
            | with_reducible refine jR ?_
            | refine bE rfl ?_
            | refine bP rfl ?_
            | refine pC (by first | exact True.intro | omega | (intros; first | exact True.intro | omega) | (simp only [List.length_cons, List.length_nil, Int.toNat_natCast]; omega)) ?_
            | refine seqI rfl ?_
            | refine regI rfl ?_
            | refine scopeI rfl ?_
            | refine blockI rfl ?_
            | refine exitI rfl ?_
            | refine retI rfl ?_
            | refine skipI rfl ?_)
          refine roundI (m + 1) rfl ?_ ?_ ?_
          · show m + 1 ≤ A.length
            omega
          · show A.length - (m + 1) < A.length - m
            omega
          · repeat' (first | exact trivial | with_reducible exact rfl | refine And.intro ?_ ?_)
            all_goals first | rfl | skip
            show ((plcF p (m + 1) : Nat) : Int) = (plcF p m : Nat)
            unfold plcF
            rw [if_neg (by omega), if_pos (by omega)]
            omega
        · have c5' : eqK (getI A Bk.dflt m) (tool, now, now + lengthF rc j, 100 + jLot j) = false := c5
          rw [hB] at c5'
          have hmp : m ≠ p := fun e => by
            rw [hg, if_pos e, eqK_iff.2 rfl] at c5'
            cases c5'
          rw [if_neg hmp] at hg
          have hpk : plcF p m < T.length ∧ plcF p (m + 1) = plcF p m + 1 := by
            unfold plcF
            by_cases h : m ≤ p
            · rw [if_pos h, if_pos (by omega)]; omega
            · rw [if_neg h, if_neg (by omega)]; omega
          have hpn : ((plcF p m : Int)).toNat = plcF p m := by omega
          repeat' (first
            | with_reducible refine pN ?_
            | with_reducible refine cN ?_
            | with_reducible refine bN ?_
            | with_reducible refine cE ?_
            | with_reducible refine cR ?_
            | with_reducible refine bR ?_
            | with_reducible refine lE ?_
            | with_reducible refine lR ?_
            | with_reducible refine jE ?_
            | with_reducible refine jR ?_
            | refine bE rfl ?_
            | refine bP rfl ?_
            | refine pC (by first | exact True.intro | omega | (intros; first | exact True.intro | omega) | (simp only [List.length_cons, List.length_nil, Int.toNat_natCast]; omega) | (intro h; have := of_decide_eq_false h; omega)) ?_
            | refine seqI rfl ?_
            | refine regI rfl ?_
            | refine scopeI rfl ?_
            | refine blockI rfl ?_
            | refine exitI rfl ?_
            | refine retI rfl ?_
            | refine skipI rfl ?_)
          refine condI rfl (fun c6 => ?_) (fun c6 => ?_)
          · exfalso
            have c6' : (decide (((T.length : Nat) : Int) ≤ (plcF p m : Nat)) || !eqK (getI T Bk.dflt (plcF p m)) (getI A Bk.dflt m)) = true := c6
            rw [decide_eq_false (by omega), hg, eqK_iff.2 rfl] at c6'
            cases c6'
          repeat' (first
            | with_reducible refine pN ?_
            | with_reducible refine cN ?_
            | with_reducible refine bN ?_
            | with_reducible refine cE ?_
            | with_reducible refine cR ?_
            | with_reducible refine bR ?_
            | with_reducible refine lE ?_
            | with_reducible refine lR ?_
            | with_reducible refine jE ?_
            | with_reducible refine jR ?_
            | refine bE rfl ?_
            | refine bP rfl ?_
            | refine pC (by first | exact True.intro | omega | (intros; first | exact True.intro | omega) | (simp only [List.length_cons, List.length_nil, Int.toNat_natCast]; omega)) ?_
            | refine seqI rfl ?_
            | refine regI rfl ?_
            | refine scopeI rfl ?_
            | refine blockI rfl ?_
            | refine exitI rfl ?_
            | refine retI rfl ?_
            | refine skipI rfl ?_)
          refine roundI (m + 1) rfl ?_ ?_ ?_
          · show m + 1 ≤ A.length
            omega
          · show A.length - (m + 1) < A.length - m
            omega
          · repeat' (first | exact trivial | with_reducible exact rfl | refine And.intro ?_ ?_)
            all_goals first | rfl | skip
            show ((plcF p (m + 1) : Nat) : Int) = (plcF p m : Nat) + 1
            rw [hpk.2]
            rfl
      · simp only [decide_eq_false_iff_not] at c3
        have hme : m = T.length + 1 := by omega
        have hpe : plcF p m = T.length := by
          unfold plcF
          rw [if_neg (by omega)]
          omega
        repeat' (first
          | with_reducible refine pN ?_
          | with_reducible refine cN ?_
          | with_reducible refine bN ?_
          | with_reducible refine cE ?_
          | with_reducible refine cR ?_
          | with_reducible refine bR ?_
          | with_reducible refine lE ?_
          | with_reducible refine lR ?_
          | with_reducible refine jE ?_
          | with_reducible refine jR ?_
          | refine bE rfl ?_
          | refine bP rfl ?_
          | refine pC (by first | exact True.intro | omega | (intros; first | exact True.intro | omega) | (simp only [List.length_cons, List.length_nil, Int.toNat_natCast]; omega) | first | exact fun _ => hcal2 | exact hcal2) ?_
          | refine seqI rfl ?_
          | refine regI rfl ?_
          | refine scopeI rfl ?_
          | refine blockI rfl ?_
          | refine exitI rfl ?_
          | refine retI rfl ?_
          | refine skipI rfl ?_)
        refine condI rfl (fun c7 => ?_) (fun c7 => ?_)
        · exfalso
          have c7' : (decide (((plcF p m : Nat) : Int) ≠ (T.length : Nat)) || decide (((lenF ys : Nat) : Int) ≠ (lenF xss : Nat) + 1)) = true := c7
          rw [decide_eq_false (by omega), decide_eq_false (by omega)] at c7'
          cases c7'
        repeat' (first
          | with_reducible refine pN ?_
          | with_reducible refine cN ?_
          | with_reducible refine bN ?_
          | with_reducible refine cE ?_
          | with_reducible refine cR ?_
          | with_reducible refine bR ?_
          | with_reducible refine lE ?_
          | with_reducible refine lR ?_
          | with_reducible refine jE ?_
          | with_reducible refine jR ?_
          | refine bE rfl ?_
          | refine bP rfl ?_
          | refine pC (by first | exact True.intro | omega | (intros; first | exact True.intro | omega) | (simp only [List.length_cons, List.length_nil, Int.toNat_natCast]; omega)) ?_
          | refine seqI rfl ?_
          | refine regI rfl ?_
          | refine scopeI rfl ?_
          | refine blockI rfl ?_
          | refine exitI rfl ?_
          | refine retI rfl ?_
          | refine skipI rfl ?_)
        refine roundI (i + 1, jRec j, ys) rfl ?_ ?_ ?_
        · exact ⟨by show i + 1 ≤ asks.length; omega, by show i + 1 ≤ 20; omega, y1, by show lenF ys ≤ 100 + (i + 1); omega⟩
        · show 20 - (i + 1) < 20 - i
          omega
        · repeat' (first | exact trivial | with_reducible exact rfl | refine And.intro ?_ ?_)
          all_goals first | rfl | skip
          show ((lenF ys : Nat) : Int) = (lenF xss : Nat) + 1
          omega
  · repeat' (first
      | with_reducible refine pN ?_
      | with_reducible refine cN ?_
      | with_reducible refine bN ?_
      | with_reducible refine cE ?_
      | with_reducible refine cR ?_
      | with_reducible refine bR ?_
      | with_reducible refine lE ?_
      | with_reducible refine lR ?_
      | with_reducible refine jE ?_
      | with_reducible refine jR ?_
      | refine bE rfl ?_
      | refine bP rfl ?_
      | refine pC (by first | exact True.intro | omega | (intros; first | exact True.intro | omega) | (simp only [List.length_cons, List.length_nil, Int.toNat_natCast]; omega)) ?_
      | refine seqI rfl ?_
      | refine regI rfl ?_
      | refine scopeI rfl ?_
      | refine blockI rfl ?_
      | refine exitI rfl ?_
      | refine retI rfl ?_
      | refine skipI rfl ?_)
    refine endR rfl ?_
    repeat' (first | exact trivial | exact rfl | refine ⟨rfl, ?_⟩ | refine And.intro ?_ ?_)
end Go.AM.Ytkacoophnfljcaa
