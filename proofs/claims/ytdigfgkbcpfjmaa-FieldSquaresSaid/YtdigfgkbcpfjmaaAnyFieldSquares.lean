/- The contracts of the callees of a law of the field, at any elements, in the words of gadd and gmul. -/
import Derived.Test.YtdigfgkbcpfjmaaPFieldSquaresx1
import Derived.Test.YtdigfgkbcpfjmaaGf
namespace Go.Proofs.Ytdigfgkbcpfjmaa.AnyFieldSquares
set_option linter.unusedSimpArgs false
set_option linter.unusedVariables false
open Go.RowKit Go.Proofs.Ytdigfgkbcpfjmaa.PFieldSquares Go.Proofs.YtdigfgkbcpfjmaaW.PrintWords Go.Proofs.YtdigfgkbcpfjmaaW.PrintLast Go.Proofs.Ytdigfgkbcpfjmaa.Gf
def toF (p : Int) : F := ⟨p.toNat % 16, Nat.mod_lt _ (by decide)⟩
theorem toF_val (x : F) : toF (x.val : Int) = x := Fin.ext (by show (x.val : Int).toNat % 16 = x.val; omega)
def gadd (p q : Int) : Int := ((add (toF p) (toF q)).val : Int)
def gmul (p q : Int) : Int := ((mul (toF p) (toF q)).val : Int)
def ginv (p : Int) : Int := ((inv (toF p)).val : Int)
theorem gadd_lt (p q : Int) : 0 ≤ gadd p q ∧ gadd p q < 16 := ⟨by unfold gadd; omega, by unfold gadd; omega⟩
theorem gmul_lt (p q : Int) : 0 ≤ gmul p q ∧ gmul p q < 16 := ⟨by unfold gmul; omega, by unfold gmul; omega⟩
theorem as_element {a : Int} (h : 0 ≤ a ∧ a < 16) : ∃ x : F, a = (x.val : Int) := ⟨⟨a.toNat, by omega⟩, by simp; omega⟩
theorem arg_ok {a : Int} (h : 0 ≤ a ∧ a ≤ 255) : 0 ≤ wrap64 (Int.tmod a 16) ∧ wrap64 (Int.tmod a 16) < 16 := by
  rw [Int.tmod_eq_emod_of_nonneg h.1]
  have : wrap64 (a % 16) = a % 16 := by unfold wrap64; omega
  rw [this]
  omega
theorem mul_any (p q : Int) (hp : 0 ≤ p ∧ p < 16) (hq : 0 ≤ q ∧ q < 16) (w : World) : Calls Try.prog 11 #[.int .i64 p, .int .i64 q] w fun e w' => e = .returned (.int .i64 (gmul p q)) ∧ Drawn0 w w' := by
  obtain ⟨x, rfl⟩ := as_element hp
  obtain ⟨y, rfl⟩ := as_element hq
  have h := (by decide +kernel : ∀ x y : F, storagebarterlaw05_mul.f 5 x.val y.val = some ((mul x y).val : Int)) x y
  have e : gmul x.val y.val = ((mul x y).val : Int) := by unfold gmul; rw [toF_val, toF_val]
  rw [e]
  exact storagebarterlaw05_mul.calls 5 _ _ _ w h
theorem add_any (p q : Int) (hp : 0 ≤ p ∧ p < 16) (hq : 0 ≤ q ∧ q < 16) (w : World) : Calls Try.prog 21 #[.int .i64 p, .int .i64 q] w fun e w' => e = .returned (.int .i64 (gadd p q)) ∧ Drawn0 w w' := by
  obtain ⟨x, rfl⟩ := as_element hp
  obtain ⟨y, rfl⟩ := as_element hq
  have h := (by decide +kernel : ∀ x y : F, storagebarterlaw05_add.f x.val y.val = some ((add x y).val : Int)) x y
  have e : gadd x.val y.val = ((add x y).val : Int) := by unfold gadd; rw [toF_val, toF_val]
  rw [e]
  exact storagebarterlaw05_add.calls _ _ _ w h
theorem sane_any (w : World) : Calls Try.prog 8 #[] w fun e w' => e = .returned (.bool true) ∧ Drawn0 w w' :=
  storagebarterlaw05_sane.calls 40 true w (by decide +kernel)
theorem inverse_any (p : Int) (hp : 0 ≤ p ∧ p < 16) (h0 : p ≠ 0) (w : World) : Calls Try.prog 12 #[.int .i64 p] w fun e w' => e = .returned (.tuple #[.int .i64 (ginv p), .int .i64 0]) ∧ Drawn0 w w' := by
  obtain ⟨x, rfl⟩ := as_element hp
  have hx : x ≠ 0 := by rintro rfl; exact h0 rfl
  have h := (by decide +kernel : ∀ x : F, x ≠ 0 → field_Inverse.f 20 x.val = some (((inv x).val : Int), 0)) x hx
  have e : ginv x.val = ((inv x).val : Int) := by unfold ginv; rw [toF_val]
  rw [e]
  exact field_Inverse.calls 20 _ _ _ w h
theorem power_any (p : Int) (n : Int) (q : Int) (h : field_Power.f 25 p n = some (q, 0)) (w : World) : Calls Try.prog 10 #[.int .i64 p, .int .i64 n] w fun e w' => e = .returned (.tuple #[.int .i64 q, .int .i64 0]) ∧ Drawn0 w w' :=
  field_Power.calls 25 _ _ _ _ w h
end Go.Proofs.Ytdigfgkbcpfjmaa.AnyFieldSquares
