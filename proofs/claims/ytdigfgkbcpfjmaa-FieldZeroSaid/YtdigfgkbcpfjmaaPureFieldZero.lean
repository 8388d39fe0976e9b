/- What the element 0 does: what the printed law answers is true. No condition. -/
import Derived.Test.YtdigfgkbcpfjmaaCallsFieldZero
namespace Go.Proofs.Ytdigfgkbcpfjmaa.Pure
set_option linter.unusedSimpArgs false
set_option linter.unusedVariables false
open Go.RowKit Go.Proofs.Ytdigfgkbcpfjmaa.PFieldZero Go.Proofs.YtdigfgkbcpfjmaaW.PrintWords Go.Proofs.YtdigfgkbcpfjmaaW.PrintLast Go.Proofs.Ytdigfgkbcpfjmaa.Gf Go.Proofs.Ytdigfgkbcpfjmaa.CallsFieldZero
theorem power_zero (n : Int) : Ev (fun k => field_Power.f k 0 n) (if n < 0 then (0, 6) else if n = 0 then (1, 0) else (0, 0)) := by
  have h := element_ok 0
  unfold field_Power.f
  simp only [show ((0 : F).val : Int) = 0 from rfl] at h
  simp only [h, Option.bind_some, if_true]
  by_cases h0 : n = 0
  · subst h0
    simp only [if_true]
    exact Ev.now _
  · simp only [if_neg h0]
    by_cases h1 : n < 0
    · refine Ev.step (f := fun _ => some (0, 6)) (fun k => ?_) ?_
      · simp [field_Power.j0, h1]
      · rw [if_pos h1]; exact Ev.now _
    · refine Ev.step (f := fun _ => some (0, 0)) (fun k => ?_) ?_
      · simp [field_Power.j0, h1]
      · rw [if_neg h1]; exact Ev.now _
theorem FieldZero : storagebarterlaw05_FieldZero.Pure := by
  intro n a h0 ha
  have hn : 0 ≤ n ∧ n ≤ 65535 := by simpa [Lit.wf, IntKind.min, IntKind.max, IntKind.signed, IntKind.bits] using h0
  refine Ev.rounds ?_
  unfold storagebarterlaw05_FieldZero.f
  refine Ev.bind sane_ok ?_
  simp only [if_true]
  have w1 : wrap64 n = n := by unfold wrap64; omega
  have w2 : wrap64 (-1 - n) = -1 - n := by unfold wrap64; omega
  rw [w1, w2]
  have hi : Ev (fun k => field_Inverse.f k 0) (0, 6) := by
    unfold field_Inverse.f
    have h := power_zero (-1)
    rw [if_pos (by decide)] at h
    exact Ev.bind h (Ev.now _)
  have hl : Ev (fun k => field_Log.f k 0) (0, 6) := Ev.of (field_Log.mono _) (k := 1) (by decide)
  refine Ev.bind hi ?_
  refine Ev.bind hl ?_
  refine Ev.bind (power_zero n) ?_
  refine Ev.bind (power_zero (-1 - n)) ?_
  have hm : Ev (fun k => field_Mul.f k a 0) (0, if 0 ≤ a ∧ a < 16 then 0 else 1) := by
    by_cases h : 0 ≤ a ∧ a < 16
    · obtain ⟨x, rfl⟩ := as_element h
      have := mul_ok x 0
      rw [mul_zero] at this
      rw [if_pos h]
      exact this
    · unfold field_Mul.f
      rw [element_no h, if_neg h]
      exact Ev.now _
  refine Ev.bind hm ?_
  rw [if_neg (show ¬ n < 0 by omega), if_pos (show -1 - n < 0 by omega)]
  have key : ∀ b : Bool, ((if 0 ≤ a ∧ a < 16 then (0 : Int) else 1) == 0) = b → (a ≥ 0 → decide (a ≤ 15) = b) → (¬ a ≥ 0 → b = false) → ∀ x y : Int, ((x == 1) == (n == 0)) = true → ((x == 0) == decide (n > 0)) = true →
      Ev (fun _ => if a ≥ 0 then (if (6 : Int) = 6 then (if (6 : Int) = 6 then (if y = 0 then (if ((x == 1) == (n == 0)) = true then (if ((x == 0) == (decide (n > 0))) = true then (if (6 : Int) = 6 then (some (((if 0 ≤ a ∧ a < 16 then (0 : Int) else 1) == 0) == (decide (a ≤ 15)))) else (some false)) else (some false)) else (some false)) else (some false)) else (some false)) else (some false)) else (if (6 : Int) = 6 then (if (6 : Int) = 6 then (if y = 0 then (if ((x == 1) == (n == 0)) = true then (if ((x == 0) == (decide (n > 0))) = true then (if (6 : Int) = 6 then (some (((if 0 ≤ a ∧ a < 16 then (0 : Int) else 1) == 0) == false)) else (some false)) else (some false)) else (some false)) else (some false)) else (some false)) else (some false))) (decide (y = 0)) := by
    intro b hb h1 h2 x y hx hy
    simp only [hb, hx, hy, if_true]
    by_cases hy0 : y = 0
    · simp only [if_pos hy0, hy0, decide_true]
      by_cases h : a ≥ 0
      · simp only [if_pos h, h1 h, beq_self_eq_true]
        exact Ev.now _
      · simp only [if_neg h, h2 h, beq_self_eq_true]
        exact Ev.now _
    · simp only [if_neg hy0, hy0, decide_false]
      by_cases h : a ≥ 0
      · simp only [if_pos h]
        exact Ev.now _
      · simp only [if_neg h]
        exact Ev.now _
  have fin : ((if 0 ≤ a ∧ a < 16 then (0 : Int) else 1) == 0) = decide (0 ≤ a ∧ a < 16) := by
    by_cases h : 0 ≤ a ∧ a < 16
    · simp only [if_pos h, h, decide_true]; rfl
    · simp only [if_neg h, h, decide_false]; rfl
  have k := key _ fin (fun h => by rw [decide_eq_decide]; omega) (fun h => by rw [decide_eq_false_iff_not]; omega)
  by_cases hz : n = 0
  · have := k 1 0 (by subst hz; rfl) (by subst hz; rfl)
    rw [if_pos hz]
    exact this
  · have := k 0 0 (by rw [beq_eq_false_iff_ne.2 hz]; rfl) (by rw [decide_eq_true (show n > 0 by omega)]; rfl)
    rw [if_neg hz]
    exact this
end Go.Proofs.Ytdigfgkbcpfjmaa.Pure
