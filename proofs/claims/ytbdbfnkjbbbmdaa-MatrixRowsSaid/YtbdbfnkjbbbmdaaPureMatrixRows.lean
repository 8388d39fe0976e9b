/- Any rows of an identity with a Cauchy matrix below it, as many as its columns and different, have an inverse: what the printed law answers is true. No condition. -/
import Derived.Test.YtbdbfnkjbbbmdaaMatSaneMatrixRows
import Derived.Test.YtbdbfnkjbbbmdaaMatDrawMatrixRows
import Derived.Test.YtbdbfnkjbbbmdaaMatGoodMatrixRows
import Derived.Test.YtbdbfnkjbbbmdaaMatChooseMatrixRows
import Derived.Test.YtbdbfnkjbbbmdaaRanksRows
namespace Go.Proofs.Ytbdbfnkjbbbmdaa.Pure
set_option linter.unusedSimpArgs false
set_option linter.unusedVariables false
open Go.RowKit Go.Proofs.Ytbdbfnkjbbbmdaa.PMatrixRows Go.Proofs.YtbdbfnkjbbbmdaaW.PrintWords Go.Proofs.YtbdbfnkjbbbmdaaW.PrintLast Go.Proofs.Ytbdbfnkjbbbmdaa.Gf Go.Proofs.Ytbdbfnkjbbbmdaa.Lin Go.Proofs.Ytbdbfnkjbbbmdaa.MatData Go.Proofs.Ytbdbfnkjbbbmdaa.MatMatrixRows
theorem size_arg {a : Int} (h : 0 ≤ a ∧ a ≤ 255) : ∃ r : Nat, wrap64 (1 + (wrap64 (Int.tmod a 8))) = (r : Int) ∧ 0 < r ∧ r ≤ 8 := by
  rw [Int.tmod_eq_emod_of_nonneg h.1]
  have : wrap64 (a % 8) = a % 8 := by unfold wrap64; omega
  rw [this]
  have e : wrap64 (1 + a % 8) = 1 + a % 8 := by unfold wrap64; omega
  rw [e]
  exact ⟨(1 + a % 8).toNat, by omega, by omega, by omega⟩
theorem tall_tab (n k : Nat) (n0 : 0 < n) : Tab (cells n n idm ++ cells k n (cau k)) ((n + k) * n) (fun t => ((tall n k (t / n) (t % n)).val : Int)) := by
  rw [Nat.add_mul]
  refine tab_append ((cells_tab n n idm).congr fun t ht => ?_) ((cells_tab k n (cau k)).congr fun t ht => ?_)
  · have : t / n < n := Nat.div_lt_of_lt_mul ht
    unfold tall
    rw [if_pos this]
  · have e1 : (n * n + t) / n = n + t / n := by rw [Nat.mul_add_div n0]
    have e2 : (n * n + t) % n = t % n := by rw [Nat.mul_add_mod]
    unfold tall
    rw [e1, e2, if_neg (Nat.not_lt.2 (Nat.le_add_right _ _)), Nat.add_sub_cancel_left]
theorem tall_cells (n k : Nat) (n0 : 0 < n) : cells n n idm ++ cells k n (cau k) = cells (n + k) n (tall n k) := Tab.eq (tall_tab n k n0) (cells_tab (n + k) n (tall n k))
theorem MatrixRows : storagebarterlaw06_MatrixRows.Pure := by
  intro l0 a1 a2 _ _ _ h1 h2
  have g1 : 0 ≤ a1 ∧ a1 ≤ 255 := by simpa [Lit.wf, IntKind.min, IntKind.max, IntKind.signed, IntKind.bits] using h1
  have g2 : 0 ≤ a2 ∧ a2 ≤ 255 := by simpa [Lit.wf, IntKind.min, IntKind.max, IntKind.signed, IntKind.bits] using h2
  obtain ⟨n, en, n0, n8⟩ := size_arg g1
  obtain ⟨q, eq, q0, q8⟩ := size_arg g2
  clear g1 g2 h1 h2
  have n16 : n ≤ 16 := by omega
  have nq16 : n + q ≤ 16 := by omega
  have nq0 : 0 < n + q := by omega
  refine Ev.rounds ?_
  unfold storagebarterlaw06_MatrixRows.f
  rw [en, eq]
  refine Ev.bind sane_ok ?_
  simp only [if_true]
  unfold storagebartermake_Few.f
  simp only [Option.bind_some]
  by_cases hf : (l0.length : Int) ≤ 500
  · simp only [decide_eq_true hf, if_true]
    unfold storagebartermake_New.f
    simp only [Option.bind_some]
    have hs : l0.length ≤ 500 := by omega
    have ei := identity_ev (n : Int)
    rw [identOf_ok n0 n16] at ei
    have hc := cauchy_ev (q : Int) (n : Int)
    rw [cauchyOf_ok q0 n0 (by omega)] at hc
    refine Ev.bind ei ?_
    refine Ev.bind hc ?_
    have c0 : ((0 : Int) != 0) = false := rfl
    simp only [if_true, c0]
    obtain ⟨σ, p2, e2, hp2, hσ, iσ⟩ := pick_ok (s := l0) (p := 0) (L := n + q) (n := n) hs (by decide) (by omega) (by omega)
    have hv : Valid (n + q) n (cells (n + q) n (tall n q)) := cells_valid _ nq0 nq16 n0 n16
    have hch := choose_ev hv σ n0 n16 hσ
    have hcv := choose_valid hv σ n0 n16
    have hrk : IsRank n n (ent n (chosen n n (cells (n + q) n (tall n q)) σ)) n := (rank_tall nq16 σ hσ iσ).congr fun i hi j hj => (ent_choose _ σ hi hj).trans (ent_cells (tall n q) (hσ i hi) hj)
    have hll : (cells n n idm).length + (cells q n (cau q)).length < 17592186044416 := by
      rw [(cells_tab n n idm).1, (cells_tab q n (cau q)).1]
      exact Nat.lt_of_le_of_lt (Nat.add_le_add (Nat.mul_le_mul n8 n8) (Nat.mul_le_mul q8 n8)) (by decide)
    have wnq : wrap64 ((n : Int) + (q : Int)) = ((n + q : Nat) : Int) := by unfold wrap64; omega
    refine Ev.step (fun k => ?_) (Ev.bind hch (f := fun k bt => (matrix_Inverse.f k bt.1 bt.2.1 bt.2.2.1).bind fun bt' => if bt.2.2.2 = 0 then some (bt'.2.2.2 == 0) else some false) ?_)
    · simp only [storagebarterlaw06_MatrixRows.j0, Bool.false_eq_true, if_false, if_pos hll, wnq, e2, Option.bind_some, tall_cells n q n0]
      rfl
    · refine Ev.bind (inverse_good hcv hrk) ?_
      simp only [if_true]
      exact Ev.now _
  · simp only [decide_eq_false hf, Bool.false_eq_true, if_false]
    exact Ev.now _
end Go.Proofs.Ytbdbfnkjbbbmdaa.Pure
