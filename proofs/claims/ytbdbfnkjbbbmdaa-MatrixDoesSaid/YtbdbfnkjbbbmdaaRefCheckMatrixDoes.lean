/- What the printed storagebarterref06_Check answers at any matrix. -/
import Derived.Test.YtbdbfnkjbbbmdaaEMatrixDoes0
import Derived.Test.YtbdbfnkjbbbmdaaMatData
namespace Go.Proofs.Ytbdbfnkjbbbmdaa.MatMatrixDoes
set_option linter.unusedSimpArgs false
set_option linter.unusedVariables false
open Go.RowKit Go.Proofs.Ytbdbfnkjbbbmdaa.PMatrixDoes Go.Proofs.YtbdbfnkjbbbmdaaW.PrintWords Go.Proofs.YtbdbfnkjbbbmdaaW.PrintLast Go.Proofs.Ytbdbfnkjbbbmdaa.Gf Go.Proofs.Ytbdbfnkjbbbmdaa.Lin Go.Proofs.Ytbdbfnkjbbbmdaa.MatData
theorem storagebarterref06_Check_loop (l : List Int) (hl : l.length ≤ 140737488355328) : ∀ d j : Nat, j + d = l.length → (∀ i, i < j → 0 ≤ l.getD i 0 ∧ l.getD i 0 < 16) → Ev (fun k => storagebarterref06_Check.l0 k l (l.length : Int) (j : Int)) (if isEl l = true then 0 else 1) := by
  intro d
  induction d with
  | zero =>
    intro j hj h
    have : isEl l = true := (isEl_iff l).2 fun i hi => h i (by omega)
    rw [if_pos this]
    refine Ev.step (f := fun _ => some 0) (fun k => ?_) (Ev.now _)
    simp only [storagebarterref06_Check.l0]
    rw [if_neg (by omega)]
  | succ d ih =>
    intro j hj h
    have e : rd l (j : Int) = l.getD j 0 := rfl
    have w : wrap64 ((j : Int) + 1) = ((j + 1 : Nat) : Int) := by unfold wrap64; omega
    have hjl : j < l.length := by omega
    by_cases h1 : l.getD j 0 < 0
    · have : ¬ isEl l = true := fun hi => by have := (isEl_iff l).1 hi j hjl; omega
      rw [if_neg this]
      refine Ev.step (f := fun _ => some 1) (fun k => ?_) (Ev.now _)
      simp only [storagebarterref06_Check.l0]
      rw [if_pos (by omega), if_pos (by omega), if_pos (by omega), e, if_pos h1]
    · by_cases h2 : l.getD j 0 > 15
      · have : ¬ isEl l = true := fun hi => by have := (isEl_iff l).1 hi j hjl; omega
        rw [if_neg this]
        refine Ev.step (f := fun _ => some 1) (fun k => ?_) (Ev.now _)
        simp only [storagebarterref06_Check.l0]
        rw [if_pos (by omega), if_pos (by omega), if_pos (by omega), e, if_neg h1, if_pos h2]
      · refine Ev.step (fun k => ?_) (ih (j + 1) (by omega) fun i hi => ?_)
        · simp only [storagebarterref06_Check.l0]
          rw [if_pos (by omega), if_pos (by omega), if_pos (by omega), e, if_neg h1, if_neg h2, w]
        · by_cases e2 : i = j
          · subst e2; omega
          · exact h i (by omega)
theorem storagebarterref06_Check_ev (R C : Int) (l : List Int) (hl : l.length ≤ 140737488355328) : Ev (fun k => storagebarterref06_Check.f k R C l) (chk R C l) := by
  have bad : chk R C l = 1 → ∀ b, b = true → Ev (fun k => storagebarterref06_Check.j0 k b R C l) (chk R C l) := by
    intro h b hb
    subst hb
    rw [h]
    exact Ev.step (f := fun _ => some 1) (fun k => by simp only [storagebarterref06_Check.j0, if_true]) (Ev.now _)
  have c1 : R < 1 ∨ R > 16 ∨ C < 1 ∨ C > 16 → chk R C l = 1 := fun h => by unfold chk; rw [if_pos h]
  unfold storagebarterref06_Check.f
  by_cases h1 : R < 1
  · simp only [if_pos h1]
    exact bad (c1 (.inl h1)) _ rfl
  · simp only [if_neg h1]
    by_cases h2 : R > 16
    · simp only [if_pos h2]
      exact bad (c1 (.inr (.inl h2))) _ rfl
    · simp only [if_neg h2]
      by_cases h3 : C < 1
      · simp only [if_pos h3]
        exact bad (c1 (.inr (.inr (.inl h3)))) _ rfl
      · simp only [if_neg h3]
        by_cases h4 : C > 16
        · exact bad (c1 (.inr (.inr (.inr h4)))) _ (decide_eq_true h4)
        · rw [decide_eq_false h4]
          have hm := mul_small (a := R) (b := C) (by omega) (by omega)
          have w : wrap64 (R * C) = R * C := wrap_id (by omega) (by omega)
          have e0 : chk R C l = if (l.length : Int) ≠ R * C then 2 else if isEl l = true then 0 else 1 := by
            unfold chk; rw [if_neg (by omega)]
          rw [e0]
          by_cases h5 : (l.length : Int) = R * C
          · rw [if_neg (Classical.not_not.2 h5)]
            refine Ev.step (fun k => ?_) (storagebarterref06_Check_loop l hl l.length 0 (by omega) fun i hi => absurd hi (by omega))
            simp only [storagebarterref06_Check.j0, Bool.false_eq_true, if_false, w]
            rw [if_pos h5]
            rfl
          · rw [if_pos h5]
            refine Ev.step (f := fun _ => some 2) (fun k => ?_) (Ev.now _)
            simp only [storagebarterref06_Check.j0, Bool.false_eq_true, if_false, w]
            rw [if_neg h5]
theorem storagebarterref06_Check_any (R C : Int) (A : Option Addr) (c : Nat) (l : List Int) (w : World) (h : Kd.C (Kd.int .i64) w A l.length l) (hc : l.length ≤ c) (hl : l.length ≤ 140737488355328) :
    Calls Try.prog 33 #[.agg #[.int .i64 R, .int .i64 C, .slice A l.length c]] w fun e w' => e = .returned (.int .i64 (chk R C l)) ∧ Below w.heap.size w w' := by
  obtain ⟨k, hk⟩ := (storagebarterref06_Check_ev R C l hl).rounds
  exact storagebarterref06_Check.calls k R C A c l _ w h hc hk
end Go.Proofs.Ytbdbfnkjbbbmdaa.MatMatrixDoes
