/- The contracts of matrix.mul and field.Inverse at elements, in the words of Gf. -/
import Derived.Test.YtbdbfnkjbbbmdaaPMatrixDoesx2
import Derived.Test.YtbdbfnkjbbbmdaaMatMem
namespace Go.Proofs.Ytbdbfnkjbbbmdaa.MatMatrixDoes
set_option linter.unusedSimpArgs false
set_option linter.unusedVariables false
open Go.RowKit Go.Proofs.Ytbdbfnkjbbbmdaa.PMatrixDoes Go.Proofs.YtbdbfnkjbbbmdaaW.PrintWords Go.Proofs.YtbdbfnkjbbbmdaaW.PrintLast Go.Proofs.Ytbdbfnkjbbbmdaa.Gf Go.Proofs.Ytbdbfnkjbbbmdaa.Lin Go.Proofs.Ytbdbfnkjbbbmdaa.MatMem
theorem mul_any (x y : F) (w : World) : Calls Try.prog 42 #[.int .i64 (x.val : Int), .int .i64 (y.val : Int)] w fun e w' => e = .returned (.int .i64 ((mul x y).val : Int)) ∧ Drawn0 w w' :=
  matrix_mul.calls 6 _ _ _ w ((by decide +kernel : ∀ x y : F, matrix_mul.f 6 x.val y.val = some ((mul x y).val : Int)) x y)
theorem inv_any (x : F) (h : x ≠ 0) (w : World) : Calls Try.prog 36 #[.int .i64 (x.val : Int)] w fun e w' => e = .returned (.tuple #[.int .i64 ((inv x).val : Int), .int .i64 0]) ∧ Drawn0 w w' :=
  field_Inverse.calls 20 _ _ _ w ((by decide +kernel : ∀ x : F, x ≠ 0 → field_Inverse.f 20 x.val = some (((inv x).val : Int), 0)) x h)
theorem xor_any (x y : F) : Go.bits .xor .i64 (x.val : Int) (y.val : Int) = ((add x y).val : Int) :=
  (by decide +kernel : ∀ x y : F, Go.bits .xor .i64 (x.val : Int) (y.val : Int) = ((add x y).val : Int)) x y
theorem val_zero {x : F} (h : x = 0) : (((x.val : Nat) : Int) == 0) = true := by rw [h]; rfl
theorem val_ne {x : F} (h : x ≠ 0) : (((x.val : Nat) : Int) == 0) = false := by
  rw [beq_eq_false_iff_ne]
  intro e
  exact h (Fin.ext (by simpa using e))
theorem val_wrap (x : F) : 0 ≤ ((x.val : Nat) : Int) ∧ ((x.val : Nat) : Int) < 16 := by omega
end Go.Proofs.Ytbdbfnkjbbbmdaa.MatMatrixDoes
