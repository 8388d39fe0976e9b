/- The elements of a Cauchy matrix are inverses of sums: what the printed law answers is true. No condition. -/
import Derived.Test.YtbdbfnkjbbbmdaaMatSaneMatrixElements
namespace Go.Proofs.Ytbdbfnkjbbbmdaa.Pure
set_option linter.unusedSimpArgs false
set_option linter.unusedVariables false
open Go.RowKit Go.Proofs.Ytbdbfnkjbbbmdaa.PMatrixElements Go.Proofs.YtbdbfnkjbbbmdaaW.PrintWords Go.Proofs.YtbdbfnkjbbbmdaaW.PrintLast Go.Proofs.Ytbdbfnkjbbbmdaa.Gf Go.Proofs.Ytbdbfnkjbbbmdaa.Lin Go.Proofs.Ytbdbfnkjbbbmdaa.MatData Go.Proofs.Ytbdbfnkjbbbmdaa.MatMatrixElements
theorem rmul_ev (x y : F) : Ev (fun k => storagebarterref05_Mul.f k (x.val : Int) (y.val : Int)) (((mul x y).val : Int), 0) :=
  Ev.of (storagebarterref05_Mul.mono _ _) ((by decide +kernel : ∀ x y : F, storagebarterref05_Mul.f 12 x.val y.val = some (((mul x y).val : Int), 0)) x y)
theorem elements_inner (r c : Nat) (hr : r ≤ 8) (hc : c ≤ 8) (i : Nat) (hi : i < r) (H : Ev (fun k => storagebarterlaw06_MatrixElements.l0 k (r : Int) (c : Int) ((i + 1 : Nat) : Int) (r : Int) (c : Int) (cells r c (cau r))) true) :
    ∀ d j : Nat, j + d = c → Ev (fun k => storagebarterlaw06_MatrixElements.l1 k (r : Int) (c : Int) (i : Int) (j : Int) (r : Int) (c : Int) (cells r c (cau r))) true := by
  intro d
  induction d with
  | zero =>
    intro j hj
    have w : wrap64 ((i : Int) + 1) = ((i + 1 : Nat) : Int) := by unfold wrap64; omega
    refine Ev.step (fun k => ?_) H
    simp only [storagebarterlaw06_MatrixElements.l1, w]
    rw [if_neg (by omega)]
  | succ d ih =>
    intro j hj
    have hic : i * c ≤ 64 := Nat.mul_le_mul (show i ≤ 8 by omega) hc
    have w0 : wrap64 ((i : Int) * (c : Int)) = ((i * c : Nat) : Int) := by
      have : (i : Int) * (c : Int) = ((i * c : Nat) : Int) := by simp
      rw [this]; unfold wrap64; omega
    have w1 : wrap64 (((i * c : Nat) : Int) + (j : Int)) = ((i * c + j : Nat) : Int) := by unfold wrap64; omega
    have w2 : wrap64 ((j : Int) + 1) = ((j + 1 : Nat) : Int) := by unfold wrap64; omega
    have w3 : wrap64 ((r : Int) + (j : Int)) = ((r + j : Nat) : Int) := by unfold wrap64; omega
    have hlen : (cells r c (cau r)).length = r * c := (cells_tab r c (cau r)).1
    have hix := index_lt (R := r) (C := c) hi (show j < c by omega)
    have ne : add (toF (i : Int)) (toF ((r + j : Nat) : Int)) ≠ 0 := by
      rw [Ne, add_eq_zero]
      exact toF_ne (by omega) (by omega) (by omega)
    have e : rd (cells r c (cau r)) ((i * c + j : Nat) : Int) = ((cau r i j).val : Int) := by
      show (cells r c (cau r)).getD (i * c + j) 0 = _
      rw [(cells_tab r c (cau r)).2 _ hix]
      exact cauAt_eq (by omega)
    have one : (((mul (cau r i j) (add (toF (i : Int)) (toF ((r + j : Nat) : Int)))).val : Nat) : Int) = 1 := by
      have : mul (cau r i j) (add (toF (i : Int)) (toF ((r + j : Nat) : Int))) = 1 := inv_mul _ ne
      rw [this]; rfl
    refine Ev.step (fun k => ?_) (Ev.bind (rmul_ev (cau r i j) (add (toF (i : Int)) (toF ((r + j : Nat) : Int)))) (f := fun k bt => if bt.1 = 1 then storagebarterlaw06_MatrixElements.l1 k (r : Int) (c : Int) (i : Int) ((j + 1 : Nat) : Int) (r : Int) (c : Int) (cells r c (cau r)) else some false) ?_)
    · simp only [storagebarterlaw06_MatrixElements.l1, w0, w1, w2, w3]
      rw [if_pos (by omega), if_pos (by omega), if_pos (by rw [hlen]; omega), xor_small (by omega) (by omega), e]
    · simp only [one, if_true]
      exact ih (j + 1) (by omega)
theorem elements_outer (r c : Nat) (hr : r ≤ 8) (hc : c ≤ 8) : ∀ d i : Nat, i + d = r → Ev (fun k => storagebarterlaw06_MatrixElements.l0 k (r : Int) (c : Int) (i : Int) (r : Int) (c : Int) (cells r c (cau r))) true := by
  intro d
  induction d with
  | zero =>
    intro i hi
    refine Ev.step (f := fun _ => some true) (fun k => ?_) (Ev.now _)
    simp only [storagebarterlaw06_MatrixElements.l0]
    rw [if_neg (by omega)]
  | succ d ih =>
    intro i hi
    refine Ev.step (fun k => ?_) (elements_inner r c hr hc i (by omega) (ih (i + 1) (by omega)) c 0 (by omega))
    simp only [storagebarterlaw06_MatrixElements.l0]
    rw [if_pos (by omega)]
    rfl
theorem size_arg {a : Int} (h : 0 ≤ a ∧ a ≤ 255) : ∃ r : Nat, wrap64 (1 + (wrap64 (Int.tmod a 8))) = (r : Int) ∧ 0 < r ∧ r ≤ 8 := by
  rw [Int.tmod_eq_emod_of_nonneg h.1]
  have : wrap64 (a % 8) = a % 8 := by unfold wrap64; omega
  rw [this]
  have e : wrap64 (1 + a % 8) = 1 + a % 8 := by unfold wrap64; omega
  rw [e]
  exact ⟨(1 + a % 8).toNat, by omega, by omega, by omega⟩
theorem MatrixElements : storagebarterlaw06_MatrixElements.Pure := by
  intro a0 a1 h0 h1
  have g0 : 0 ≤ a0 ∧ a0 ≤ 255 := by simpa [Lit.wf, IntKind.min, IntKind.max, IntKind.signed, IntKind.bits] using h0
  have g1 : 0 ≤ a1 ∧ a1 ≤ 255 := by simpa [Lit.wf, IntKind.min, IntKind.max, IntKind.signed, IntKind.bits] using h1
  obtain ⟨r, er, r0, r1⟩ := size_arg g0
  obtain ⟨c, ec, c0, c1⟩ := size_arg g1
  refine Ev.rounds ?_
  unfold storagebarterlaw06_MatrixElements.f
  rw [er, ec]
  refine Ev.bind sane_ok ?_
  simp only [if_true]
  have hc := cauchy_ev (r : Int) (c : Int)
  rw [cauchyOf_ok r0 c0 (by omega)] at hc
  refine Ev.bind hc ?_
  simp only [if_true]
  have hrc : r * c ≤ 64 := Nat.mul_le_mul r1 c1
  have w : wrap64 ((r : Int) * (c : Int)) = ((r * c : Nat) : Int) := by
    have : (r : Int) * (c : Int) = ((r * c : Nat) : Int) := by simp
    rw [this]; unfold wrap64; omega
  have e : ((((cells r c (cau r)).length : Nat) : Int) != wrap64 ((r : Int) * (c : Int))) = false := by
    rw [bne_eq_false_iff_eq, w, (cells_tab r c (cau r)).1]
  rw [e]
  refine Ev.step (fun k => ?_) (elements_outer r c r1 c1 r 0 (by omega))
  simp only [storagebarterlaw06_MatrixElements.j0, Bool.false_eq_true, if_false]
  rfl
end Go.Proofs.Ytbdbfnkjbbbmdaa.Pure
