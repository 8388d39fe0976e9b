/- The sanity check of layer 6 is true: what the printed sane answers. -/
import Derived.Test.YtbdbfnkjbbbmdaaRMatrixRanks0
import Derived.Test.YtbdbfnkjbbbmdaaMatMakeMatrixRanks
namespace Go.Proofs.Ytbdbfnkjbbbmdaa.MatMatrixRanks
set_option linter.unusedSimpArgs false
set_option linter.unusedVariables false
open Go.RowKit Go.Proofs.Ytbdbfnkjbbbmdaa.PMatrixRanks Go.Proofs.YtbdbfnkjbbbmdaaW.PrintWords Go.Proofs.YtbdbfnkjbbbmdaaW.PrintLast Go.Proofs.Ytbdbfnkjbbbmdaa.Gf Go.Proofs.Ytbdbfnkjbbbmdaa.Lin Go.Proofs.Ytbdbfnkjbbbmdaa.MatData
theorem isRank_idm (n : Nat) : IsRank n n idm n := ⟨fact_rows n n idm, ⟨idm, idm, fun i hi j hj => (mm_id _ hi).trans (mm_id _ hi)⟩⟩
theorem rank_ev {R C r : Nat} {l : List Int} (hv : Valid R C l) (hr : IsRank R C (ent C l) r) : Ev (fun k => matrix_Rank.f k (R : Int) (C : Int) l) ((r : Int), 0) := by
  have e : ∀ k, matrix_Rank.f k (R : Int) (C : Int) l = some ((r : Int), 0) := by
    intro k
    unfold matrix_Rank.f
    have := Nat.mul_le_mul hv.r1 hv.c1
    rw [if_pos (by rw [hv.len]; omega), if_pos (chk_valid hv)]
    simp [rankOf_eq hr]
  exact Ev.congr e (Ev.now _)
theorem sane_ok : Ev (fun k => storagebarterlaw06_sane.f k) true := by
  unfold storagebarterlaw06_sane.f
  have c := cauchy_ev 1 2
  rw [show cauchyOf 1 2 = (1, 2, cells 1 2 (cau 1), 0) from cauchyOf_ok (r := 1) (c := 2) (by omega) (by omega) (by omega)] at c
  have i := identity_ev 2
  rw [show identOf 2 = (2, 2, cells 2 2 idm, 0) from identOf_ok (n := 2) (by omega) (by omega)] at i
  have v := cells_valid (R := 2) (C := 2) idm (by omega) (by omega) (by omega) (by omega)
  have r := rank_ev v ((isRank_idm 2).congr fun i hi j hj => ent_cells idm hi hj)
  have e0 : cells 1 2 (cau 1) = [1, 9] := by decide +kernel
  refine Ev.bind c ?_
  refine Ev.bind i ?_
  refine Ev.bind r ?_
  rw [e0]
  simp only [if_true]
  exact Ev.of (fun k => LeO.refl _) (k := 0) (by decide)
end Go.Proofs.Ytbdbfnkjbbbmdaa.MatMatrixRanks
