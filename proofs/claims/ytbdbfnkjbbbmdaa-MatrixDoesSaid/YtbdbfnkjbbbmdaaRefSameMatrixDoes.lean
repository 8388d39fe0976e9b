/- What the reference's Same answers: whether two matrices are one. -/
import Derived.Test.YtbdbfnkjbbbmdaaPMatrixDoesx3
import Derived.Test.YtbdbfnkjbbbmdaaMatTab
namespace Go.Proofs.Ytbdbfnkjbbbmdaa.MatMatrixDoes
set_option linter.unusedSimpArgs false
set_option linter.unusedVariables false
open Go.RowKit Go.Proofs.Ytbdbfnkjbbbmdaa.PMatrixDoes Go.Proofs.YtbdbfnkjbbbmdaaW.PrintWords Go.Proofs.YtbdbfnkjbbbmdaaW.PrintLast Go.Proofs.Ytbdbfnkjbbbmdaa.Gf Go.Proofs.Ytbdbfnkjbbbmdaa.Lin Go.Proofs.Ytbdbfnkjbbbmdaa.MatData
theorem getD_ext {l m : List Int} (h : l.length = m.length) (e : ∀ j, j < l.length → l.getD j 0 = m.getD j 0) : l = m :=
  Tab.eq (n := l.length) (g := fun j => l.getD j 0) ⟨rfl, fun _ _ => rfl⟩ ⟨h.symm, fun j hj => (e j hj).symm⟩
theorem rsame_loop (a0 a1 b0 b1 : Int) (l m : List Int) (hl : l.length ≤ 9223372036854775807) (hm : m.length = l.length) : ∀ d j : Nat, j + d = l.length → (∀ i, i < j → l.getD i 0 = m.getD i 0) → Ev (fun k => storagebarterref06_Same.l0 k (l.length : Int) (j : Int) a0 a1 l b0 b1 m) (decide (l = m)) := by
  intro d
  induction d with
  | zero =>
    intro j hj h
    have : l = m := getD_ext hm.symm fun i hi => h i (by omega)
    rw [decide_eq_true this]
    refine Ev.step (f := fun _ => some true) (fun k => ?_) (Ev.now _)
    simp only [storagebarterref06_Same.l0]
    rw [if_neg (by omega)]
  | succ d ih =>
    intro j hj h
    have w : wrap64 ((j : Int) + 1) = ((j + 1 : Nat) : Int) := by unfold wrap64; omega
    have e1 : rd l (j : Int) = l.getD j 0 := rfl
    have e2 : rd m (j : Int) = m.getD j 0 := rfl
    by_cases h1 : l.getD j 0 = m.getD j 0
    · refine Ev.step (fun k => ?_) (ih (j + 1) (by omega) fun i hi => ?_)
      · simp only [storagebarterref06_Same.l0]
        rw [if_pos (by omega), if_pos (by omega), if_pos (by omega), if_pos (by omega), e1, e2, if_pos h1, w]
      · by_cases e : i = j
        · rw [e]; exact h1
        · exact h i (by omega)
    · have : ¬ l = m := fun e => h1 (by rw [e])
      rw [decide_eq_false this]
      refine Ev.step (f := fun _ => some false) (fun k => ?_) (Ev.now _)
      simp only [storagebarterref06_Same.l0]
      rw [if_pos (by omega), if_pos (by omega), if_pos (by omega), if_pos (by omega), e1, e2, if_neg h1]
theorem rsame_ev (a0 a1 b0 b1 : Int) (l m : List Int) (hl : l.length ≤ 9223372036854775807) : Ev (fun k => storagebarterref06_Same.f k a0 a1 l b0 b1 m) (decide (a0 = b0 ∧ a1 = b1 ∧ l = m)) := by
  unfold storagebarterref06_Same.f
  have bad : ¬ (a0 = b0 ∧ a1 = b1 ∧ l = m) → ∀ b, b = true → Ev (fun k => storagebarterref06_Same.j0 k b a0 a1 l b0 b1 m) (decide (a0 = b0 ∧ a1 = b1 ∧ l = m)) := by
    intro h b hb
    subst hb
    rw [decide_eq_false h]
    exact Ev.step (f := fun _ => some _) (fun k => by simp only [storagebarterref06_Same.j0, if_true]) (Ev.now _)
  by_cases h1 : a0 = b0
  · simp only [if_pos h1]
    by_cases h2 : a1 = b1
    · simp only [if_pos h2]
      by_cases h3 : m.length = l.length
      · have e : (((l.length : Nat) : Int) != ((m.length : Nat) : Int)) = false := by rw [bne_eq_false_iff_eq]; omega
        rw [e]
        have := rsame_loop a0 a1 b0 b1 l m hl h3 l.length 0 (by omega) fun i hi => absurd hi (by omega)
        have e2 : decide (a0 = b0 ∧ a1 = b1 ∧ l = m) = decide (l = m) := by
          rw [decide_eq_decide]
          exact ⟨fun h => h.2.2, fun h => ⟨h1, h2, h⟩⟩
        rw [e2]
        refine Ev.step (fun k => ?_) this
        simp only [storagebarterref06_Same.j0, Bool.false_eq_true, if_false]
        rfl
      · refine bad (fun h => h3 (by rw [h.2.2])) _ ?_
        rw [bne_iff_ne]
        omega
    · simp only [if_neg h2]
      exact bad (fun h => h2 h.2.1) _ rfl
  · simp only [if_neg h1]
    exact bad (fun h => h1 h.1) _ rfl
end Go.Proofs.Ytbdbfnkjbbbmdaa.MatMatrixDoes
