/- The law PlanShorter: her function. -/
import Derived.Test.YtgpnkpiinmicgaaWkFail
set_option linter.all false
namespace Go.AM.Ytgpnkpiinmicgaa
open Go.Proofs
set_option maxRecDepth 100000
set_option maxHeartbeats 8000000

def planLS : Spec := plain fun
  | [.sl (.pair (.int .i64) (.pair (.int .i64) (.pair (.int .i64) (.pair (.int .i64) (.pair (.int .i64) (.int .i64)))))) _, .sl (.pair (.int .i64) (.int .i64)) _, .int .i64 _, .int .i64 _, .sl (.int .i64) _] => outV True (.bool true)
  | _ => none

/-- Moves that are shorter. -/
def LessOk (a : Int) (mo mo' : List Int) : Prop := mo'.length = mo.length ∧ ∀ j, j < mo.length → a ≤ getI mo' 0 j ∧ getI mo' 0 j ≤ getI mo 0 j

theorem getI_set {xs : List Int} {i j : Nat} {v d : Int} (hi : i < xs.length) : getI (xs.set i v) d j = if i = j then v else getI xs d j := by
  unfold getI List.getD
  rw [List.getElem?_set]
  by_cases h : i = j
  · subst h; simp [hi]
  · simp [h]

theorem less_set {a v : Int} {mo mo' : List Int} {i : Nat} (h : LessOk a mo mo') (hi : i < mo.length) (h1 : a ≤ v) (h2 : v ≤ getI mo 0 i) : LessOk a mo (mo'.set i v) := by
  obtain ⟨h3, h4⟩ := h
  refine ⟨by simp [h3], fun j hj => ?_⟩
  rw [getI_set (by omega)]
  split
  · rename_i h; subst h; exact ⟨h1, h2⟩
  · exact h4 j hj

theorem shorterOk : SpecSound Try.prog 5 planLS := by
  refine soundP (envOf sigLaw2Ok) Try.func5 (c := body Try.f5) rfl (by kernel_rfl) rfl ?_
  intro args out hf hpre
  split at hf <;> try (cases hf; done)
  rename_i x y tool at' less
  cases hf
  refine ⟨Nat.le_of_ble_eq_true rfl, initI (args := [.sl tSix x, .sl tTwo y, .int .i64 tool, .int .i64 at', .sl tInt less]) rfl ?_⟩
  have hlen := made_len x
  have hposs := chosen_poss (made_valid x) (made_late x) y tool at'
  refine factSl (t := 4) rfl (fun hle => ?_)
  have hle := hle.1
  unfold maxLen at hle
  repeat' (first
    | with_reducible refine pN ?_
    | with_reducible refine cN ?_
    | with_reducible refine bN ?_
    | with_reducible refine cE ?_
    | with_reducible refine cR ?_
    | with_reducible refine bR ?_
    | with_reducible refine lE ?_
    | with_reducible refine lR ?_
    | with_reducible refine jE ?_
    | with_reducible refine jR ?_
    | refine bE rfl ?_
    | refine bP rfl ?_
    | refine pC (by first | exact True.intro | omega | (intros; first | exact True.intro | omega) | (simp only [List.length_cons, List.length_nil, Int.toNat_natCast]; omega) | first | exact made_valid _ | exact hlen) ?_
    | refine seqI rfl ?_
    | refine regI rfl ?_
    | refine scopeI rfl ?_
    | refine blockI rfl ?_
    | refine exitI rfl ?_
    | refine retI rfl ?_
    | refine skipI rfl ?_)
  generalize cDu (mXs x) y (mXs x).length = du at *
  generalize cMo (mA x) (mB x) y (mXs x).length = mo at *
  generalize cDe (mA x) (mB x) y = de at *
  generalize cTl (mXs x) tool = tl at *
  generalize cFa (mXs x) tool at' = fa at *
  generalize mE x = e at *
  generalize mA x = a at *
  generalize mB x = b at *
  generalize mXs x = xs at *
  generalize mWs x = ws at *
  have C := poss_facts hposs
  have hn := C.n
  have hml := C.mol
  have hde := C.deb
  have hab := C.ab
  refine loopI (σ := Nat × List Int × Int) (fun s => [(15, .int .i64 s.1)]) (fun s => [(14, .box [.own (key 34 0), .own (key 34 1), .int .i64 s.2.2, .int .i64 tl, .int .i64 fa]), (key 34 1, .seq tInt s.2.1)]) (fun s => s.1 ≤ less.length ∧ LessOk a mo s.2.1 ∧ a ≤ s.2.2 ∧ s.2.2 ≤ de) (fun s => less.length - s.1) (0, mo, de) rfl (fun _ => rfl) rfl ?_ ?_ ?_
  · exact ⟨Nat.zero_le _, ⟨rfl, fun j hj => by have := C.at' j (by omega); unfold AtOk at this; show a ≤ getI mo 0 j ∧ getI mo 0 j ≤ getI mo 0 j; omega⟩, hde.1, Int.le_refl _⟩
  · repeat' (first | exact trivial | exact rfl | refine ⟨rfl, ?_⟩ | refine And.intro ?_ ?_)
  · rintro ⟨i, mo', de'⟩ ⟨hi, hlo, hd1, hd2⟩
    dsimp only at hi hlo hd1 hd2 ⊢
    have hll := hlo.1
    repeat' (first
      | with_reducible refine pN ?_
      | with_reducible refine cN ?_
      | with_reducible refine bN ?_
      | with_reducible refine cE ?_
      | with_reducible refine cR ?_
      | with_reducible refine bR ?_
      | with_reducible refine lE ?_
      | with_reducible refine lR ?_
      | with_reducible refine jE ?_
      | with_reducible refine jR ?_
      | refine bE rfl ?_
      | refine bP rfl ?_
      | refine pC (by first | exact True.intro | omega | (intros; first | exact True.intro | omega) | (simp only [List.length_cons, List.length_nil, Int.toNat_natCast]; omega)) ?_
      | refine seqI rfl ?_
      | refine regI rfl ?_
      | refine scopeI rfl ?_
      | refine blockI rfl ?_
      | refine exitI rfl ?_
      | refine retI rfl ?_
      | refine skipI rfl ?_)
    refine condI rfl (fun c1 => ?_) (fun c1 => ?_)
    · simp only [decide_eq_true_eq] at c1
      repeat' (first
        | with_reducible refine pN ?_
        | with_reducible refine cN ?_
        | with_reducible refine bN ?_
        | with_reducible refine cE ?_
        | with_reducible refine cR ?_
        | with_reducible refine bR ?_
        | with_reducible refine lE ?_
        | with_reducible refine lR ?_
        | with_reducible refine jE ?_
        | with_reducible refine jR ?_
        | refine bE rfl ?_
        | refine bP rfl ?_
        | refine pC (by first | exact True.intro | omega | (intros; first | exact True.intro | omega) | (simp only [List.length_cons, List.length_nil, Int.toNat_natCast]; omega)) ?_
        | refine seqI rfl ?_
        | refine regI rfl ?_
        | refine scopeI rfl ?_
        | refine blockI rfl ?_
        | refine exitI rfl ?_
        | refine retI rfl ?_
        | refine skipI rfl ?_)
      refine condI rfl (fun c2 => ?_) (fun c2 => ?_)
      · simp only [decide_eq_true_eq] at c2
        have h1 := hlo.2 i (by omega)
        have h2 := @pick_b (getI less 0 i) (getI mo' 0 i - a + 1) (by omega)
        have hat := C.at' i (by omega)
        unfold AtOk at hat
        repeat' (first
          | with_reducible refine pN ?_
          | with_reducible refine cN ?_
          | with_reducible refine bN ?_
          | with_reducible refine cE ?_
          | with_reducible refine cR ?_
          | with_reducible refine bR ?_
          | with_reducible refine lE ?_
          | with_reducible refine lR ?_
          | with_reducible refine jE ?_
          | with_reducible refine jR ?_
          | refine bE rfl ?_
          | refine bP rfl ?_
          | refine pC (by first | exact True.intro | omega | (intros; first | exact True.intro | omega) | (simp only [List.length_cons, List.length_nil, Int.toNat_natCast]; omega) | (simp only [Int.toNat_natCast, dflt0]; omega)) ?_
          | refine seqI rfl ?_
          | refine regI rfl ?_
          | refine scopeI rfl ?_
          | refine blockI rfl ?_
          | refine exitI rfl ?_
          | refine retI rfl ?_
          | refine skipI rfl ?_)
        refine roundI (i + 1, mo'.set i (getI mo' 0 i - pickF (getI less 0 i) (getI mo' 0 i - a + 1)), de') rfl ⟨by show i + 1 ≤ _; omega, less_set hlo (by omega) (by omega) (by omega), hd1, hd2⟩ (by show less.length - (i + 1) < less.length - i; omega) ?_
        repeat' (first | exact trivial | exact rfl | refine ⟨rfl, ?_⟩ | refine And.intro ?_ ?_)
      · simp only [decide_eq_false_iff_not] at c2
        repeat' (first
          | with_reducible refine pN ?_
          | with_reducible refine cN ?_
          | with_reducible refine bN ?_
          | with_reducible refine cE ?_
          | with_reducible refine cR ?_
          | with_reducible refine bR ?_
          | with_reducible refine lE ?_
          | with_reducible refine lR ?_
          | with_reducible refine jE ?_
          | with_reducible refine jR ?_
          | refine bE rfl ?_
          | refine bP rfl ?_
          | refine pC (by first | exact True.intro | omega | (intros; first | exact True.intro | omega) | (simp only [List.length_cons, List.length_nil, Int.toNat_natCast]; omega)) ?_
          | refine seqI rfl ?_
          | refine regI rfl ?_
          | refine scopeI rfl ?_
          | refine blockI rfl ?_
          | refine exitI rfl ?_
          | refine retI rfl ?_
          | refine skipI rfl ?_)
        refine condI rfl (fun c3 => ?_) (fun c3 => ?_)
        · have h2 := @pick_b (getI less 0 i) (de' - a + 1) (by omega)
          repeat' (first
            | with_reducible refine pN ?_
            | with_reducible refine cN ?_
            | with_reducible refine bN ?_
            | with_reducible refine cE ?_
            | with_reducible refine cR ?_
            | with_reducible refine bR ?_
            | with_reducible refine lE ?_
            | with_reducible refine lR ?_
            | with_reducible refine jE ?_
            | with_reducible refine jR ?_
            | refine bE rfl ?_
            | refine bP rfl ?_
            | refine pC (by first | exact True.intro | omega | (intros; first | exact True.intro | omega) | (simp only [List.length_cons, List.length_nil, Int.toNat_natCast]; omega) | (simp only [Int.toNat_natCast, dflt0]; omega)) ?_
            | refine seqI rfl ?_
            | refine regI rfl ?_
            | refine scopeI rfl ?_
            | refine blockI rfl ?_
            | refine exitI rfl ?_
            | refine retI rfl ?_
            | refine skipI rfl ?_)
          refine roundI (i + 1, mo', de' - pickF (getI less 0 i) (de' - a + 1)) rfl ⟨by show i + 1 ≤ _; omega, hlo, by show a ≤ de' - _; omega, by show de' - _ ≤ de; omega⟩ (by show less.length - (i + 1) < less.length - i; omega) ?_
          repeat' (first | exact trivial | exact rfl | refine ⟨rfl, ?_⟩ | refine And.intro ?_ ?_)
        · repeat' (first
            | with_reducible refine pN ?_
            | with_reducible refine cN ?_
            | with_reducible refine bN ?_
            | with_reducible refine cE ?_
            | with_reducible refine cR ?_
            | with_reducible refine bR ?_
            | with_reducible refine lE ?_
            | with_reducible refine lR ?_
            | with_reducible refine jE ?_
            | with_reducible refine jR ?_
            | refine bE rfl ?_
            | refine bP rfl ?_
            | refine pC (by first | exact True.intro | omega | (intros; first | exact True.intro | omega) | (simp only [List.length_cons, List.length_nil, Int.toNat_natCast]; omega)) ?_
            | refine seqI rfl ?_
            | refine regI rfl ?_
            | refine scopeI rfl ?_
            | refine blockI rfl ?_
            | refine exitI rfl ?_
            | refine retI rfl ?_
            | refine skipI rfl ?_)
          refine roundI (i + 1, mo', de') rfl ⟨by show i + 1 ≤ _; omega, hlo, hd1, hd2⟩ (by show less.length - (i + 1) < less.length - i; omega) ?_
          repeat' (first | exact trivial | exact rfl | refine ⟨rfl, ?_⟩ | refine And.intro ?_ ?_)
    · simp only [decide_eq_false_iff_not] at c1
      have hposs2 : possF e a b xs ws du mo' de' tl fa = true := by
        have hv : validF e a b xs ws = true := by
          unfold possF at hposs
          simp only [Bool.and_eq_true] at hposs
          exact hposs.1.1.1.1.1
        refine poss_of hv C.dul (by omega) ⟨hd1, by omega⟩ (fun j hj => ?_) C.tlb
        have h1 := C.at' j hj
        have h2 := hlo.2 j (by omega)
        unfold AtOk at h1 ⊢
        omega
      obtain ⟨hr0, hR⟩ := run_spec hposs
      obtain ⟨hr1, hR2⟩ := run_spec hposs2
      have hl1 := hR.len
      have hl2 := hR2.len
      have hsame : (runF e a b xs ws du mo de tl fa).2.1.1 = 0 → runF e a b xs ws du mo' de' tl fa = runF e a b xs ws du mo de tl fa := fun h => by
        unfold runF at h ⊢
        rw [hposs] at h ⊢
        rw [hposs2]
        have e1 := runG_less (xs := xs) (ws := ws) (du := du) (mo := mo) (mo' := mo') (de := de) (de' := de') (tl := tl) (fa := fa) (fun i hi => (hlo.2 i (by omega)).2) hd2 xs.length 0 [] e (by omega) h
        rw [e1]
      repeat' (first
        | with_reducible refine pN ?_
        | with_reducible refine cN ?_
        | with_reducible refine bN ?_
        | with_reducible refine cE ?_
        | with_reducible refine cR ?_
        | with_reducible refine bR ?_
        | with_reducible refine lE ?_
        | with_reducible refine lR ?_
        | with_reducible refine jE ?_
        | with_reducible refine jR ?_
        | refine bE rfl ?_
        | refine bP rfl ?_
        | refine pC (by first | exact True.intro | omega | (intros; first | exact True.intro | omega) | (simp only [List.length_cons, List.length_nil, Int.toNat_natCast]; omega) | first | exact hlen | (simp only [Int.toNat_natCast, dflt0]; omega)) ?_
        | refine seqI rfl ?_
        | refine regI rfl ?_
        | refine scopeI rfl ?_
        | refine blockI rfl ?_
        | refine exitI rfl ?_
        | refine retI rfl ?_
        | refine skipI rfl ?_)
      generalize runF e a b xs ws du mo de tl fa = q at *
      generalize runF e a b xs ws du mo' de' tl fa = q2 at *
      refine condI rfl (fun c2 => ?_) (fun c2 => ?_)
      · exfalso
        have c2' : (decide (q.2.2 ≠ 0) || decide (q2.2.2 ≠ 0)) = true := c2
        rw [hr0, hr1] at c2'
        exact absurd c2' (by decide)
      · repeat' (first
          | with_reducible refine pN ?_
          | with_reducible refine cN ?_
          | with_reducible refine bN ?_
          | with_reducible refine cE ?_
          | with_reducible refine cR ?_
          | with_reducible refine bR ?_
          | with_reducible refine lE ?_
          | with_reducible refine lR ?_
          | with_reducible refine jE ?_
          | with_reducible refine jR ?_
          | refine bE rfl ?_
          | refine bP rfl ?_
          | refine pC (by first | exact True.intro | omega | (intros; first | exact True.intro | omega) | (simp only [List.length_cons, List.length_nil, Int.toNat_natCast]; omega)) ?_
          | refine seqI rfl ?_
          | refine regI rfl ?_
          | refine scopeI rfl ?_
          | refine blockI rfl ?_
          | refine exitI rfl ?_
          | refine retI rfl ?_
          | refine skipI rfl ?_)
        refine endR rfl ?_
        repeat' (first | exact trivial | exact rfl | refine ⟨rfl, ?_⟩ | refine And.intro ?_ ?_)
        by_cases h : q.2.1.1 = 0
        · rw [hsame h]; simp [h, eqViF]
        · simp [h]
end Go.AM.Ytgpnkpiinmicgaa
