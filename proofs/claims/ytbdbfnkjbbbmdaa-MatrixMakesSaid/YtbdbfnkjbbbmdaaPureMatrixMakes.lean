/- The program's identities and Cauchy matrices are the reference's, or so are the errors: what the printed law answers is true. No condition. -/
import Derived.Test.YtbdbfnkjbbbmdaaMatSaneMatrixMakes
import Derived.Test.YtbdbfnkjbbbmdaaMatMakeRefMatrixMakes
import Derived.Test.YtbdbfnkjbbbmdaaMatSameRefMatrixMakes
namespace Go.Proofs.Ytbdbfnkjbbbmdaa.Pure
set_option linter.unusedSimpArgs false
set_option linter.unusedVariables false
open Go.RowKit Go.Proofs.Ytbdbfnkjbbbmdaa.PMatrixMakes Go.Proofs.YtbdbfnkjbbbmdaaW.PrintWords Go.Proofs.YtbdbfnkjbbbmdaaW.PrintLast Go.Proofs.Ytbdbfnkjbbbmdaa.Gf Go.Proofs.Ytbdbfnkjbbbmdaa.Lin Go.Proofs.Ytbdbfnkjbbbmdaa.MatData Go.Proofs.Ytbdbfnkjbbbmdaa.MatMatrixMakes
theorem cells_len {R C : Nat} (M : Nat → Nat → F) (hR : R ≤ 16) (hC : C ≤ 16) : (cells R C M).length ≤ 140737488355328 := by
  rw [(cells_tab R C M).1]
  have := Nat.mul_le_mul hR hC
  omega
theorem ident_len (n : Int) : (identOf n).2.2.1.length ≤ 140737488355328 := by
  unfold identOf
  by_cases h : n < 1 ∨ n > 16
  · rw [if_pos h]; simp
  · rw [if_neg h]; exact cells_len _ (by omega) (by omega)
theorem cauchy_len (r c : Int) : (cauchyOf r c).2.2.1.length ≤ 140737488355328 := by
  unfold cauchyOf
  by_cases h : r < 1 ∨ c < 1 ∨ r + c > 16
  · rw [if_pos h]; simp
  · rw [if_neg h]; exact cells_len _ (by omega) (by omega)
theorem makes_l1 (x1 x6 : Int) (xs : List Int) (m i : Int) (y0 y1 : Int) (H : Ev (fun k => storagebarterlaw06_MatrixMakes.l0 k x1 xs m (wrap64 (i + 1))) true) :
    Ev (fun k => storagebarterlaw06_MatrixMakes.l1 k x1 x6 xs m i [y0, y1] 2 0) true := by
  have w1 : wrap64 (0 + 1) = 1 := by decide +kernel
  have w2 : wrap64 (1 + 1) = 2 := by decide +kernel
  have last : Ev (fun k => storagebarterlaw06_MatrixMakes.l1 k x1 x6 xs m i [y0, y1] 2 2) true := by
    refine Ev.step (fun k => ?_) H
    simp only [storagebarterlaw06_MatrixMakes.l1, Int.lt_irrefl, if_false]
  have step : ∀ (j : Int) (y : Int), 0 ≤ j → j < 2 → rd [y0, y1] j = y → Ev (fun k => storagebarterlaw06_MatrixMakes.l1 k x1 x6 xs m i [y0, y1] 2 (wrap64 (j + 1))) true →
      Ev (fun k => storagebarterlaw06_MatrixMakes.l1 k x1 x6 xs m i [y0, y1] 2 j) true := by
    intro j y hj0 hj2 hy hn
    have hl : j < (([y0, y1] : List Int).length : Int) := by simpa using hj2
    refine Ev.step (fun k => by simp only [storagebarterlaw06_MatrixMakes.l1, if_pos hj2, if_pos hj0, if_pos hl, hy]; rfl) ?_
    refine Ev.bind (cauchy_ev x6 y) ?_
    refine Ev.bind (rcauchy_ev x6 y) ?_
    simp only [if_true]
    refine Ev.bind (rsame_ev _ _ _ _ _ _ (cauchy_len x6 y)) ?_
    simp only [and_self, decide_true, if_true]
    exact hn
  refine step 0 y0 (by decide) (by decide) rfl ?_
  rw [w1]
  refine step 1 y1 (by decide) (by decide) rfl ?_
  rw [w2]
  exact last
theorem makes_l0 (x1 : Int) (y0 y1 : Int) : Ev (fun k => storagebarterlaw06_MatrixMakes.l0 k x1 [y0, y1] 2 0) true := by
  have w1 : wrap64 (0 + 1) = 1 := by decide +kernel
  have w2 : wrap64 (1 + 1) = 2 := by decide +kernel
  have last : Ev (fun k => storagebarterlaw06_MatrixMakes.l0 k x1 [y0, y1] 2 2) true := by
    refine Ev.step (f := fun _ => some true) (fun k => ?_) (Ev.now _)
    simp only [storagebarterlaw06_MatrixMakes.l0, Int.lt_irrefl, if_false]
  have step : ∀ (j : Int) (y : Int), 0 ≤ j → j < 2 → rd [y0, y1] j = y → Ev (fun k => storagebarterlaw06_MatrixMakes.l0 k x1 [y0, y1] 2 (wrap64 (j + 1))) true →
      Ev (fun k => storagebarterlaw06_MatrixMakes.l0 k x1 [y0, y1] 2 j) true := by
    intro j y hj0 hj2 hy hn
    have hl : j < (([y0, y1] : List Int).length : Int) := by simpa using hj2
    refine Ev.step (fun k => by simp only [storagebarterlaw06_MatrixMakes.l0, if_pos hj2, if_pos hj0, if_pos hl, hy]; rfl) ?_
    refine Ev.bind (identity_ev y) ?_
    refine Ev.bind (ridentity_ev y) ?_
    simp only [if_true]
    refine Ev.bind (rsame_ev _ _ _ _ _ _ (ident_len y)) ?_
    simp only [and_self, decide_true, Bool.not_true]
    refine Ev.step (f := fun k => storagebarterlaw06_MatrixMakes.l1 k x1 y [y0, y1] 2 j [x1, Int.tmod (wrap64 ((Int.tmod x1 18) + 18)) 18] 2 0) (fun k => ?_) (makes_l1 x1 y [y0, y1] 2 j _ _ hn)
    simp [storagebarterlaw06_MatrixMakes.j1, storagebartermake_Mod.f]
  refine step 0 y0 (by decide) (by decide) rfl ?_
  rw [w1]
  refine step 1 y1 (by decide) (by decide) rfl ?_
  rw [w2]
  exact last
theorem MatrixMakes : storagebarterlaw06_MatrixMakes.Pure := by
  intro n m _ _
  refine Ev.rounds ?_
  unfold storagebarterlaw06_MatrixMakes.f
  refine Ev.bind sane_ok ?_
  simp only [if_true]
  have h := makes_l0 m n (Int.tmod (wrap64 ((Int.tmod n 18) + 18)) 18)
  refine Ev.congr (fun k => ?_) h
  simp [storagebartermake_Mod.f]
end Go.Proofs.Ytbdbfnkjbbbmdaa.Pure
