/- The law PlanSame: her function. -/
import Derived.Test.YtgpnkpiinmicgaaWkFail
set_option linter.all false
namespace Go.AM.Ytgpnkpiinmicgaa
open Go.Proofs
set_option maxRecDepth 100000
set_option maxHeartbeats 8000000

def sigLaw4 : List (Nat × Spec) := (19, sameS) :: sigLaw2
theorem sigLaw4Ok : SigOk Try.prog (look sigLaw4) := sigCons sigLaw2Ok Try.func19 (by kernel_rfl) (c := body Try.f19) rfl sameOk

theorem same_self {e a b : Int} {xs : List StT} {ws : List WiT} : sameF e a b xs ws e a b xs ws = true := by
  simp [sameF, eqStF, eqWiF]
theorem same_ne {e a b e' a' b' : Int} {xs xs' : List StT} {ws ws' : List WiT} (h : e ≠ e' ∨ a ≠ a' ∨ b ≠ b' ∨ xs ≠ xs' ∨ ws ≠ ws') : sameF e a b xs ws e' a' b' xs' ws' = false := by
  unfold sameF eqStF eqWiF
  rcases h with h | h | h | h | h <;> simp [h]
theorem same_ne2 {e a b e' a' b' : Int} {xs xs' : List StT} {ws ws' : List WiT} (h : e ≠ e' ∨ a ≠ a' ∨ b ≠ b' ∨ xs ≠ xs' ∨ ws ≠ ws') : sameF e' a' b' xs' ws' e a b xs ws = false :=
  same_ne (by rcases h with h | h | h | h | h <;> simp [Ne.symm h])

theorem set_ne {xs : List StT} {i : Nat} {s : StT} (hi : i < xs.length) (h : s ≠ getI xs tStage.dflt i) : xs ≠ xs.set i s := fun e => by
  have h1 : getI (xs.set i s) tStage.dflt i = s := by simp [getI, List.getD, hi]
  rw [← e] at h1
  exact h h1.symm

def plan3S : Spec := plain fun
  | [.sl (.pair (.int .i64) (.pair (.int .i64) (.pair (.int .i64) (.pair (.int .i64) (.pair (.int .i64) (.int .i64)))))) _, .int .i64 _, .int .i64 _] => outV True (.bool true)
  | _ => none

theorem samePOk : SpecSound Try.prog 9 plan3S := by
  refine soundP (envOf sigLaw4Ok) Try.func9 (c := body Try.f9) rfl (by kernel_rfl) rfl ?_
  intro args out hf hpre
  split at hf <;> try (cases hf; done)
  rename_i x what which
  cases hf
  refine ⟨Nat.le_of_ble_eq_true rfl, initI (args := [.sl tSix x, .int .i64 what, .int .i64 which]) rfl ?_⟩
  have hlen := made_len x
  have hnb := mXs_b x
  have hnn := nst_b x
  have hv := made_valid x
  have hsm := made_small x
  have F := valid_facts hv
  have hix := @pick_b which ((mXs x).length : Int) (by omega)
  have hwh := @pick_b what 7 (by decide)
  have hwl := F.w
  have hEb := mE_b x
  have hAb := mA_b x
  have hBb := mB_b x
  repeat' (first
    | with_reducible refine pN ?_
    | with_reducible refine cN ?_
    | with_reducible refine bN ?_
    | with_reducible refine cE ?_
    | with_reducible refine cR ?_
    | with_reducible refine bR ?_
    | with_reducible refine lE ?_
    | with_reducible refine lR ?_
    | with_reducible refine jE ?_
    | with_reducible refine jR ?_
    | refine bE rfl ?_
    | refine bP rfl ?_
    | refine pC (by first | exact True.intro | omega | (intros; first | exact True.intro | omega) | (simp only [List.length_cons, List.length_nil, Int.toNat_natCast]; omega) | (intros; refine And.intro ?_ (And.intro ?_ (And.intro ?_ ?_)) <;> omega)) ?_
    | refine seqI rfl ?_
    | refine regI rfl ?_
    | refine scopeI rfl ?_
    | refine exitI rfl ?_
    | refine retI rfl ?_
    | refine skipI rfl ?_)
  simp only [same_self, Bool.and_self]
  generalize mE x = e at *
  generalize mA x = a at *
  generalize mB x = b at *
  generalize mXs x = xs at *
  generalize mWs x = ws at *
  obtain ⟨j, hj⟩ : ∃ j : Int, j = pickF which (xs.length : Int) := ⟨_, rfl⟩
  rw [← hj] at hix ⊢
  obtain ⟨i, rfl⟩ : ∃ i : Nat, j = (i : Int) := ⟨j.toNat, by omega⟩
  have hi : i < xs.length := by omega
  obtain ⟨w, hw⟩ : ∃ w : Int, w = pickF what 7 := ⟨_, rfl⟩
  rw [← hw] at hwh ⊢
  have S := F.st i hi
  unfold StOk at S
  refine joinC (fun _ : Int × Int × Int × List StT × List WiT => []) (fun s => [(9, .box [.int .i64 s.1, .int .i64 s.2.1, .int .i64 s.2.2.1, .own (key 16 0), .own (key 16 1)]), (key 16 0, .seq tStage s.2.2.2.1), (key 16 1, .seq tWin s.2.2.2.2)])
    (fun s => (s.2.2.2.1.length ≤ 1000000000000 ∧ s.2.2.2.2.length ≤ 1000000000000) ∧ (e ≠ s.1 ∨ a ≠ s.2.1 ∨ b ≠ s.2.2.1 ∨ xs ≠ s.2.2.2.1 ∨ ws ≠ s.2.2.2.2)) (fun _ => rfl) ?_ (fun s hs => ?_)
  · have hl2 : ws.length ≤ 1000000000000 := by omega
    repeat' (first
      | with_reducible refine pN ?_
      | with_reducible refine cN ?_
      | with_reducible refine bN ?_
      | with_reducible refine cE ?_
      | with_reducible refine cR ?_
      | with_reducible refine bR ?_
      | with_reducible refine lE ?_
      | with_reducible refine lR ?_
      | with_reducible refine jE ?_
      | with_reducible refine jR ?_
      | refine bE rfl ?_
      | refine bP rfl ?_
      | refine pC (by first | exact True.intro | omega | (intros; first | exact True.intro | omega) | (simp only [List.length_cons, List.length_nil, Int.toNat_natCast]; omega)) ?_
      | refine seqI rfl ?_
      | refine regI rfl ?_
      | refine scopeI rfl ?_
      | refine blockI rfl ?_
      | refine exitI rfl ?_
      | refine retI rfl ?_
      | refine skipI rfl ?_)
    refine condI rfl (fun c0 => ?_) (fun c0 => ?_)
    · repeat' (first
        | with_reducible refine pN ?_
        | with_reducible refine cN ?_
        | with_reducible refine bN ?_
        | with_reducible refine cE ?_
        | with_reducible refine cR ?_
        | with_reducible refine bR ?_
        | with_reducible refine lE ?_
        | with_reducible refine lR ?_
        | with_reducible refine jE ?_
        | with_reducible refine jR ?_
        | refine bE rfl ?_
        | refine bP rfl ?_
        | refine pC (by first | exact True.intro | omega | (intros; first | exact True.intro | omega) | (simp only [List.length_cons, List.length_nil, Int.toNat_natCast]; omega)) ?_
        | refine seqI rfl ?_
        | refine regI rfl ?_
        | refine scopeI rfl ?_
        | refine blockI rfl ?_
        | refine exitI rfl ?_
        | refine retI rfl ?_
        | refine skipI rfl ?_)
      refine meetI (e + 1, a, b, xs, ws) rfl ⟨⟨hlen, hl2⟩, .inl (by dsimp only; omega)⟩ ?_
      repeat' (first | exact trivial | exact rfl | refine ⟨rfl, ?_⟩ | refine And.intro ?_ ?_)
    · repeat' (first
        | with_reducible refine pN ?_
        | with_reducible refine cN ?_
        | with_reducible refine bN ?_
        | with_reducible refine cE ?_
        | with_reducible refine cR ?_
        | with_reducible refine bR ?_
        | with_reducible refine lE ?_
        | with_reducible refine lR ?_
        | with_reducible refine jE ?_
        | with_reducible refine jR ?_
        | refine bE rfl ?_
        | refine bP rfl ?_
        | refine pC (by first | exact True.intro | omega | (intros; first | exact True.intro | omega) | (simp only [List.length_cons, List.length_nil, Int.toNat_natCast]; omega)) ?_
        | refine seqI rfl ?_
        | refine regI rfl ?_
        | refine scopeI rfl ?_
        | refine blockI rfl ?_
        | refine exitI rfl ?_
        | refine retI rfl ?_
        | refine skipI rfl ?_)
      refine condI rfl (fun c1 => ?_) (fun c1 => ?_)
      · repeat' (first
          | with_reducible refine pN ?_
          | with_reducible refine cN ?_
          | with_reducible refine bN ?_
          | with_reducible refine cE ?_
          | with_reducible refine cR ?_
          | with_reducible refine bR ?_
          | with_reducible refine lE ?_
          | with_reducible refine lR ?_
          | with_reducible refine jE ?_
          | with_reducible refine jR ?_
          | refine bE rfl ?_
          | refine bP rfl ?_
          | refine pC (by first | exact True.intro | omega | (intros; first | exact True.intro | omega) | (simp only [List.length_cons, List.length_nil, Int.toNat_natCast]; omega)) ?_
          | refine seqI rfl ?_
          | refine regI rfl ?_
          | refine scopeI rfl ?_
          | refine blockI rfl ?_
          | refine exitI rfl ?_
          | refine retI rfl ?_
          | refine skipI rfl ?_)
        refine meetI (e, a + 1, b, xs, ws) rfl ⟨⟨hlen, hl2⟩, .inr (.inl (by dsimp only; omega))⟩ ?_
        repeat' (first | exact trivial | exact rfl | refine ⟨rfl, ?_⟩ | refine And.intro ?_ ?_)
      · repeat' (first
          | with_reducible refine pN ?_
          | with_reducible refine cN ?_
          | with_reducible refine bN ?_
          | with_reducible refine cE ?_
          | with_reducible refine cR ?_
          | with_reducible refine bR ?_
          | with_reducible refine lE ?_
          | with_reducible refine lR ?_
          | with_reducible refine jE ?_
          | with_reducible refine jR ?_
          | refine bE rfl ?_
          | refine bP rfl ?_
          | refine pC (by first | exact True.intro | omega | (intros; first | exact True.intro | omega) | (simp only [List.length_cons, List.length_nil, Int.toNat_natCast]; omega)) ?_
          | refine seqI rfl ?_
          | refine regI rfl ?_
          | refine scopeI rfl ?_
          | refine blockI rfl ?_
          | refine exitI rfl ?_
          | refine retI rfl ?_
          | refine skipI rfl ?_)
        refine condI rfl (fun c2 => ?_) (fun c2 => ?_)
        · repeat' (first
            | with_reducible refine pN ?_
            | with_reducible refine cN ?_
            | with_reducible refine bN ?_
            | with_reducible refine cE ?_
            | with_reducible refine cR ?_
            | with_reducible refine bR ?_
            | with_reducible refine lE ?_
            | with_reducible refine lR ?_
            | with_reducible refine jE ?_
            | with_reducible refine jR ?_
            | refine bE rfl ?_
            | refine bP rfl ?_
            | refine pC (by first | exact True.intro | omega | (intros; first | exact True.intro | omega) | (simp only [List.length_cons, List.length_nil, Int.toNat_natCast]; omega)) ?_
            | refine seqI rfl ?_
            | refine regI rfl ?_
            | refine scopeI rfl ?_
            | refine blockI rfl ?_
            | refine exitI rfl ?_
            | refine retI rfl ?_
            | refine skipI rfl ?_)
          refine meetI (e, a, b + 1, xs, ws) rfl ⟨⟨hlen, hl2⟩, .inr (.inr (.inl (by dsimp only; omega)))⟩ ?_
          repeat' (first | exact trivial | exact rfl | refine ⟨rfl, ?_⟩ | refine And.intro ?_ ?_)
        · repeat' (first
            | with_reducible refine pN ?_
            | with_reducible refine cN ?_
            | with_reducible refine bN ?_
            | with_reducible refine cE ?_
            | with_reducible refine cR ?_
            | with_reducible refine bR ?_
            | with_reducible refine lE ?_
            | with_reducible refine lR ?_
            | with_reducible refine jE ?_
            | with_reducible refine jR ?_
            | refine bE rfl ?_
            | refine bP rfl ?_
            | refine pC (by first | exact True.intro | omega | (intros; first | exact True.intro | omega) | (simp only [List.length_cons, List.length_nil, Int.toNat_natCast]; omega)) ?_
            | refine seqI rfl ?_
            | refine regI rfl ?_
            | refine scopeI rfl ?_
            | refine blockI rfl ?_
            | refine exitI rfl ?_
            | refine retI rfl ?_
            | refine skipI rfl ?_)
          refine condI rfl (fun c3 => ?_) (fun c3 => ?_)
          · repeat' (first
              | with_reducible refine pN ?_
              | with_reducible refine cN ?_
              | with_reducible refine bN ?_
              | with_reducible refine cE ?_
              | with_reducible refine cR ?_
              | with_reducible refine bR ?_
              | with_reducible refine lE ?_
              | with_reducible refine lR ?_
              | with_reducible refine jE ?_
              | with_reducible refine jR ?_
              | refine bE rfl ?_
              | refine bP rfl ?_
              | refine pC (by first | exact True.intro | omega | (intros; first | exact True.intro | omega) | (simp only [List.length_cons, List.length_nil, Int.toNat_natCast]; omega) | (simp only [Int.toNat_natCast]; omega)) ?_
              | refine seqI rfl ?_
              | refine regI rfl ?_
              | refine scopeI rfl ?_
              | refine blockI rfl ?_
              | refine exitI rfl ?_
              | refine retI rfl ?_
              | refine skipI rfl ?_)
            refine meetI (e, a, b, xs.set i ((getI xs tStage.dflt i).1, (getI xs tStage.dflt i).2.1, ((getI xs tStage.dflt i).2.2.1.1, (getI xs tStage.dflt i).2.2.1.2), (getI xs tStage.dflt i).2.2.2.1, (getI xs tStage.dflt i).2.2.2.2 + 1), ws) rfl ⟨⟨?_, hl2⟩, .inr (.inr (.inr (.inl (set_ne hi fun h => ?_))))⟩ ?_
            · dsimp only; rw [List.length_set]; exact hlen
            · have := congrArg (fun s : StT => s.2.2.2.2) h
              have h2 : (getI xs tStage.dflt i).2.2.2.2 + 1 = (getI xs tStage.dflt i).2.2.2.2 := this
              omega
            · repeat' (first | exact trivial | exact rfl | refine ⟨rfl, ?_⟩ | refine And.intro ?_ ?_)
          · repeat' (first
              | with_reducible refine pN ?_
              | with_reducible refine cN ?_
              | with_reducible refine bN ?_
              | with_reducible refine cE ?_
              | with_reducible refine cR ?_
              | with_reducible refine bR ?_
              | with_reducible refine lE ?_
              | with_reducible refine lR ?_
              | with_reducible refine jE ?_
              | with_reducible refine jR ?_
              | refine bE rfl ?_
              | refine bP rfl ?_
              | refine pC (by first | exact True.intro | omega | (intros; first | exact True.intro | omega) | (simp only [List.length_cons, List.length_nil, Int.toNat_natCast]; omega)) ?_
              | refine seqI rfl ?_
              | refine regI rfl ?_
              | refine scopeI rfl ?_
              | refine blockI rfl ?_
              | refine exitI rfl ?_
              | refine retI rfl ?_
              | refine skipI rfl ?_)
            refine condI rfl (fun c4 => ?_) (fun c4 => ?_)
            · repeat' (first
                | with_reducible refine pN ?_
                | with_reducible refine cN ?_
                | with_reducible refine bN ?_
                | with_reducible refine cE ?_
                | with_reducible refine cR ?_
                | with_reducible refine bR ?_
                | with_reducible refine lE ?_
                | with_reducible refine lR ?_
                | with_reducible refine jE ?_
                | with_reducible refine jR ?_
                | refine bE rfl ?_
                | refine bP rfl ?_
                | refine pC (by first | exact True.intro | omega | (intros; first | exact True.intro | omega) | (simp only [List.length_cons, List.length_nil, Int.toNat_natCast]; omega)) ?_
                | refine seqI rfl ?_
                | refine regI rfl ?_
                | refine scopeI rfl ?_
                | refine blockI rfl ?_
                | refine exitI rfl ?_
                | refine retI rfl ?_
                | refine skipI rfl ?_)
              refine meetI (e, a, b, xs.take (xs.length - 1), ws) rfl ⟨⟨?_, hl2⟩, .inr (.inr (.inr (.inl fun h => ?_)))⟩ ?_
              · dsimp only; rw [List.length_take]; omega
              · have := congrArg List.length h
                dsimp only at this
                rw [List.length_take] at this
                omega
              · repeat' (first | exact trivial | with_reducible exact rfl | refine And.intro ?_ ?_)
                all_goals first | rfl | (rw [show ((xs.length : Int) - 1).toNat = xs.length - 1 by omega])
            · repeat' (first
                | with_reducible refine pN ?_
                | with_reducible refine cN ?_
                | with_reducible refine bN ?_
                | with_reducible refine cE ?_
                | with_reducible refine cR ?_
                | with_reducible refine bR ?_
                | with_reducible refine lE ?_
                | with_reducible refine lR ?_
                | with_reducible refine jE ?_
                | with_reducible refine jR ?_
                | refine bE rfl ?_
                | refine bP rfl ?_
                | refine pC (by first | exact True.intro | omega | (intros; first | exact True.intro | omega) | (simp only [List.length_cons, List.length_nil, Int.toNat_natCast]; omega)) ?_
                | refine seqI rfl ?_
                | refine regI rfl ?_
                | refine scopeI rfl ?_
                | refine blockI rfl ?_
                | refine exitI rfl ?_
                | refine retI rfl ?_
                | refine skipI rfl ?_)
              refine condI rfl (fun c5 => ?_) (fun c5 => ?_)
              · repeat' (first
                  | with_reducible refine pN ?_
                  | with_reducible refine cN ?_
                  | with_reducible refine bN ?_
                  | with_reducible refine cE ?_
                  | with_reducible refine cR ?_
                  | with_reducible refine bR ?_
                  | with_reducible refine lE ?_
                  | with_reducible refine lR ?_
                  | with_reducible refine jE ?_
                  | with_reducible refine jR ?_
                  | refine bE rfl ?_
                  | refine bP rfl ?_
                  | refine pC (by first | exact True.intro | omega | (intros; first | exact True.intro | omega) | (simp only [List.length_cons, List.length_nil, Int.toNat_natCast]; omega)) ?_
                  | refine seqI rfl ?_
                  | refine regI rfl ?_
                  | refine scopeI rfl ?_
                  | refine blockI rfl ?_
                  | refine exitI rfl ?_
                  | refine retI rfl ?_
                  | refine skipI rfl ?_)
                refine meetI (e, a, b, xs, ws ++ [(9, 9, 0)]) rfl ⟨⟨hlen, ?_⟩, .inr (.inr (.inr (.inr fun h => ?_)))⟩ ?_
                · dsimp only; rw [List.length_append]; simp; omega
                · have := congrArg List.length h
                  simp at this
                · repeat' (first | exact trivial | exact rfl | refine ⟨rfl, ?_⟩ | refine And.intro ?_ ?_)
              · repeat' (first
                  | with_reducible refine pN ?_
                  | with_reducible refine cN ?_
                  | with_reducible refine bN ?_
                  | with_reducible refine cE ?_
                  | with_reducible refine cR ?_
                  | with_reducible refine bR ?_
                  | with_reducible refine lE ?_
                  | with_reducible refine lR ?_
                  | with_reducible refine jE ?_
                  | with_reducible refine jR ?_
                  | refine bE rfl ?_
                  | refine bP rfl ?_
                  | refine pC (by first | exact True.intro | omega | (intros; first | exact True.intro | omega) | (simp only [List.length_cons, List.length_nil, Int.toNat_natCast]; omega) | (simp only [Int.toNat_natCast]; omega)) ?_
                  | refine seqI rfl ?_
                  | refine regI rfl ?_
                  | refine scopeI rfl ?_
                  | refine blockI rfl ?_
                  | refine exitI rfl ?_
                  | refine retI rfl ?_
                  | refine skipI rfl ?_)
                refine meetI (e, a, b, xs.set i ((getI xs tStage.dflt i).1, (getI xs tStage.dflt i).2.1 + 1, ((getI xs tStage.dflt i).2.2.1.1, (getI xs tStage.dflt i).2.2.1.2), (getI xs tStage.dflt i).2.2.2.1, (getI xs tStage.dflt i).2.2.2.2), ws) rfl ⟨⟨?_, hl2⟩, .inr (.inr (.inr (.inl (set_ne hi fun h => ?_))))⟩ ?_
                · dsimp only; rw [List.length_set]; exact hlen
                · have := congrArg (fun s : StT => s.2.1) h
                  have h2 : (getI xs tStage.dflt i).2.1 + 1 = (getI xs tStage.dflt i).2.1 := this
                  omega
                · repeat' (first | exact trivial | exact rfl | refine ⟨rfl, ?_⟩ | refine And.intro ?_ ?_)
  · obtain ⟨e', a', b', xs', ws'⟩ := s
    obtain ⟨⟨hl', hl2'⟩, hne⟩ := hs
    dsimp only at hl' hl2' hne ⊢
    have hl2 : ws.length ≤ 1000000000000 := by omega
    refine seqI rfl ?_
    refine regI rfl ?_
    repeat' (first | with_reducible refine pN ?_ | refine pC (by intros; first | exact ⟨hlen, hl', hl2, hl2'⟩ | exact ⟨hl', hlen, hl2', hl2⟩) ?_)
    refine cN ?_
    simp only [same_ne hne, same_ne2 hne]
    repeat' (first
      | with_reducible refine pN ?_
      | with_reducible refine cN ?_
      | with_reducible refine bN ?_
      | with_reducible refine cE ?_
      | with_reducible refine cR ?_
      | with_reducible refine bR ?_
      | with_reducible refine lE ?_
      | with_reducible refine lR ?_
      | with_reducible refine jE ?_
      | with_reducible refine jR ?_
      | refine bE rfl ?_
      | refine bP rfl ?_
      | refine pC (by first | exact True.intro | omega | (intros; first | exact True.intro | omega) | (simp only [List.length_cons, List.length_nil, Int.toNat_natCast]; omega)) ?_
      | refine seqI rfl ?_
      | refine regI rfl ?_
      | refine scopeI rfl ?_
      | refine blockI rfl ?_
      | refine exitI rfl ?_
      | refine retI rfl ?_
      | refine skipI rfl ?_)
    refine endR rfl ?_
    repeat' (first | exact trivial | exact rfl | refine ⟨rfl, ?_⟩ | refine And.intro ?_ ?_)
end Go.AM.Ytgpnkpiinmicgaa
