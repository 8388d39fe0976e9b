/- What the functions of the package field answer at elements, in the words of Gf. -/
import Derived.Test.YtdigfgkbcpfjmaaPFieldPowersx2
import Derived.Test.YtdigfgkbcpfjmaaGf
namespace Go.Proofs.Ytdigfgkbcpfjmaa.CallsFieldPowers
set_option linter.unusedSimpArgs false
set_option linter.unusedVariables false
open Go.RowKit Go.Proofs.Ytdigfgkbcpfjmaa.PFieldPowers Go.Proofs.YtdigfgkbcpfjmaaW.PrintWords Go.Proofs.YtdigfgkbcpfjmaaW.PrintLast Go.Proofs.Ytdigfgkbcpfjmaa.Gf
theorem tmod_pos {a : Int} (n : Int) (h : 0 ≤ a) : Int.tmod a n = a % n := Int.tmod_eq_emod_of_nonneg h
theorem exp_fold {n : Int} : Int.tmod (wrap64 ((Int.tmod n 15) + 15)) 15 = n % 15 := by
  have h : (-15 < Int.tmod n 15 ∧ Int.tmod n 15 < 15) ∧ Int.tmod n 15 % 15 = n % 15 := by
    rcases Int.le_total 0 n with h | h
    · rw [Int.tmod_eq_emod_of_nonneg h]; omega
    · obtain ⟨m, rfl⟩ : ∃ m, n = -m := ⟨-n, by omega⟩
      rw [Int.neg_tmod, Int.tmod_eq_emod_of_nonneg (by omega)]; omega
  have hw : wrap64 (Int.tmod n 15 + 15) = Int.tmod n 15 + 15 := by unfold wrap64; omega
  rw [hw, Int.tmod_eq_emod_of_nonneg (by omega)]
  omega
theorem element_ok (x : F) : field_element.f (x.val : Int) = some true := by
  unfold field_element.f
  rw [if_pos (by omega), decide_eq_true (by omega)]
theorem element_no {a : Int} (h : ¬ (0 ≤ a ∧ a < 16)) : field_element.f a = some false := by
  unfold field_element.f
  by_cases h0 : 0 ≤ a
  · rw [if_pos h0]; simp; omega
  · rw [if_neg h0]
theorem as_element {a : Int} (h : 0 ≤ a ∧ a < 16) : ∃ x : F, a = (x.val : Int) := ⟨⟨a.toNat, by omega⟩, by simp; omega⟩
theorem times_ok (x y : F) : Ev (fun k => field_times.f k x.val y.val) ((mul x y).val : Int) :=
  Ev.of (field_times.mono _ _) ((by decide +kernel : ∀ x y : F, field_times.f 5 x.val y.val = some ((mul x y).val : Int)) x y)
theorem mul_ok (x y : F) : Ev (fun k => field_Mul.f k x.val y.val) (((mul x y).val : Int), 0) := by
  unfold field_Mul.f
  simp only [element_ok, Option.bind_some, if_true]
  exact Ev.bind (times_ok x y) (Ev.now _)
theorem power_loop (x : F) (e : Fin 15) : Ev (fun k => field_Power.l0 k x.val 1 e.val 0) (((pw x e.val).val : Int), 0) :=
  Ev.of (fun k => (field_Power.mono_l k).2 _ _ _ _) ((by decide +kernel : ∀ (x : F) (e : Fin 15), field_Power.l0 20 x.val 1 e.val 0 = some (((pw x e.val).val : Int), 0)) x e)
theorem power_ok (x : F) (n : Int) (hx : x ≠ 0) : Ev (fun k => field_Power.f k x.val n) (((pw x (n % 15).toNat).val : Int), 0) := by
  unfold field_Power.f
  simp only [element_ok, Option.bind_some, if_true]
  by_cases hn : n = 0
  · subst hn
    simp only [if_true]
    exact Ev.now _
  · have hx0 : ¬ ((x.val : Nat) : Int) = 0 := by
      intro h
      exact hx (Fin.ext (by simpa using h))
    simp only [if_neg hn, if_neg hx0]
    refine Ev.step (f := fun k => field_Power.l0 k x.val 1 (n % 15) 0) (fun k => ?_) ?_
    · simp only [field_Power.j0, if_neg hx0]
      rw [exp_fold, if_neg (by decide)]
    · have h := power_loop x ⟨(n % 15).toNat, by omega⟩
      have e : (((n % 15).toNat : Nat) : Int) = n % 15 := by omega
      simp only [e] at h
      exact h
theorem inverse_ok (x : F) (hx : x ≠ 0) : Ev (fun k => field_Inverse.f k x.val) (((inv x).val : Int), 0) := by
  unfold field_Inverse.f
  rw [inv_eq]
  exact Ev.bind (power_ok x (-1) hx) (Ev.now _)
theorem log_ok (x : F) (hx : x ≠ 0) : ∃ n : Fin 15, Ev (fun k => field_Log.f k x.val) (((n.val : Nat) : Int), 0) ∧ pw 2 n.val = x := by
  obtain ⟨n, h1, h2⟩ := (by decide +kernel : ∀ x : F, x ≠ 0 → ∃ n : Fin 15, field_Log.f 25 x.val = some (((n.val : Nat) : Int), 0) ∧ pw 2 n.val = x) x hx
  exact ⟨n, Ev.of (field_Log.mono _) h1, h2⟩
theorem sane_ok : Ev (fun k => storagebarterlaw05_sane.f k) true :=
  Ev.of storagebarterlaw05_sane.mono (k := 40) (by decide +kernel)
end Go.Proofs.Ytdigfgkbcpfjmaa.CallsFieldPowers
