/- What matrix.Inverse answers at square matrices, by their rank; inverses as lists. -/
import Derived.Test.YtbdbfnkjbbbmdaaMatInvMatrixRows
import Derived.Test.YtbdbfnkjbbbmdaaRanks
namespace Go.Proofs.Ytbdbfnkjbbbmdaa.MatMatrixRows
set_option linter.unusedSimpArgs false
set_option linter.unusedVariables false
open Go.RowKit Go.Proofs.Ytbdbfnkjbbbmdaa.PMatrixRows Go.Proofs.YtbdbfnkjbbbmdaaW.PrintWords Go.Proofs.YtbdbfnkjbbbmdaaW.PrintLast Go.Proofs.Ytbdbfnkjbbbmdaa.Gf Go.Proofs.Ytbdbfnkjbbbmdaa.Lin Go.Proofs.Ytbdbfnkjbbbmdaa.MatData
theorem inverse_good {n : Nat} {l : List Int} (hv : Valid n n l) (hr : IsRank n n (ent n l) n) : Ev (fun k => matrix_Inverse.f k (n : Int) (n : Int) l) ((n : Int), (n : Int), invOf n l, 0) := by
  have e : ∀ k, matrix_Inverse.f k (n : Int) (n : Int) l = some ((n : Int), (n : Int), invOf n l, 0) := by
    intro k
    unfold matrix_Inverse.f
    have := Nat.mul_le_mul hv.r1 hv.c1
    rw [if_pos (by rw [hv.len]; omega), if_pos (chk_valid hv), if_pos rfl, Int.toNat_natCast, if_pos (rankOf_eq hr)]
  exact Ev.congr e (Ev.now _)
theorem inverse_none {n r : Nat} {l : List Int} (hv : Valid n n l) (hr : IsRank n n (ent n l) r) (hne : r ≠ n) : Ev (fun k => matrix_Inverse.f k (n : Int) (n : Int) l) (0, 0, [], 14) := by
  have e : ∀ k, matrix_Inverse.f k (n : Int) (n : Int) l = some (0, 0, [], 14) := by
    intro k
    unfold matrix_Inverse.f
    have := Nat.mul_le_mul hv.r1 hv.c1
    rw [if_pos (by rw [hv.len]; omega), if_pos (chk_valid hv), if_pos rfl, Int.toNat_natCast, if_neg (by rw [rankOf_eq hr]; exact hne)]
  exact Ev.congr e (Ev.now _)
theorem isInv_exists {n : Nat} {l : List Int} (hv : Valid n n l) (hr : IsRank n n (ent n l) n) : IsInv n l (invOf n l) := by
  obtain ⟨N, h1, h2⟩ := exists_inverse hr
  refine invOf_spec (l' := cells n n N) ⟨cells_valid N hv.r0 hv.r1 hv.c0 hv.c1, fun i hi j hj => ?_, fun i hi j hj => ?_⟩
  · rw [← h1 i hi j hj]
    exact mm_congr (fun _ _ => rfl) fun k hk => ent_cells N hk hj
  · rw [← h2 i hi j hj]
    exact mm_congr (fun k hk => ent_cells N hi hk) fun _ _ => rfl
theorem isInv_rank {n : Nat} {l l' : List Int} (h : IsInv n l l') : IsRank n n (ent n l') n := ⟨fact_rows _ _ _, piv_of_inverse h.2.2⟩
theorem isInv_back {n : Nat} {l l' : List Int} (hv : Valid n n l) (h : IsInv n l l') : IsInv n l' l := ⟨hv, h.2.2, h.2.1⟩
end Go.Proofs.Ytbdbfnkjbbbmdaa.MatMatrixRows
