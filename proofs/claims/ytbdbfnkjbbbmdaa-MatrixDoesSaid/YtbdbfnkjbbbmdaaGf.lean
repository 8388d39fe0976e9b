/- The field of 16 elements, in plain Lean: sums, products, powers, inverses and their laws (each by the kernel over all elements). -/
import Derived.RowKit
namespace Go.Proofs.Ytbdbfnkjbbbmdaa.Gf
/-- One step of a product: the bit i of b decides whether a shifted a is added. -/
def mulN (a b : Nat) : Nat :=
  let s := (if b % 2 = 1 then a else 0) ^^^ (if b / 2 % 2 = 1 then 2 * a else 0) ^^^ (if b / 4 % 2 = 1 then 4 * a else 0) ^^^ (if b / 8 % 2 = 1 then 8 * a else 0)
  let s := if s / 64 % 2 = 1 then s ^^^ 76 else s
  let s := if s / 32 % 2 = 1 then s ^^^ 38 else s
  if s / 16 % 2 = 1 then s ^^^ 19 else s
theorem mulN_lt : ∀ a b : Fin 16, mulN a.val b.val < 16 := by decide +kernel
theorem xor_lt : ∀ a b : Fin 16, a.val ^^^ b.val < 16 := by decide +kernel
/-- An element. -/
abbrev F := Fin 16
def add (a b : F) : F := ⟨a.val ^^^ b.val, xor_lt a b⟩
def mul (a b : F) : F := ⟨mulN a.val b.val, mulN_lt a b⟩
def pw (a : F) : Nat → F
  | 0 => 1
  | n + 1 => mul (pw a n) a
def inv (a : F) : F := pw a 14
theorem inv_eq (a : F) : inv a = pw a 14 := rfl
theorem add_comm : ∀ a b : F, add a b = add b a := by decide +kernel
theorem add_assoc : ∀ a b c : F, add (add a b) c = add a (add b c) := by decide +kernel
theorem add_zero : ∀ a : F, add a 0 = a := by decide +kernel
theorem zero_add : ∀ a : F, add 0 a = a := by decide +kernel
theorem add_self : ∀ a : F, add a a = 0 := by decide +kernel
theorem mul_comm : ∀ a b : F, mul a b = mul b a := by decide +kernel
theorem mul_assoc : ∀ a b c : F, mul (mul a b) c = mul a (mul b c) := by decide +kernel
theorem mul_one : ∀ a : F, mul a 1 = a := by decide +kernel
theorem one_mul : ∀ a : F, mul 1 a = a := by decide +kernel
theorem mul_zero : ∀ a : F, mul a 0 = 0 := by decide +kernel
theorem zero_mul : ∀ a : F, mul 0 a = 0 := by decide +kernel
theorem mul_add : ∀ a b c : F, mul a (add b c) = add (mul a b) (mul a c) := by decide +kernel
theorem add_mul : ∀ a b c : F, mul (add a b) c = add (mul a c) (mul b c) := by decide +kernel
theorem mul_inv : ∀ a : F, a ≠ 0 → mul a (inv a) = 1 := by decide +kernel
theorem inv_mul : ∀ a : F, a ≠ 0 → mul (inv a) a = 1 := by decide +kernel
theorem mul_ne : ∀ a b : F, a ≠ 0 → b ≠ 0 → mul a b ≠ 0 := by decide +kernel
theorem inv_ne : ∀ a : F, a ≠ 0 → inv a ≠ 0 := by decide +kernel
theorem add_eq_zero : ∀ a b : F, add a b = 0 ↔ a = b := by decide +kernel
theorem pw_15 : ∀ a : F, a ≠ 0 → pw a 15 = 1 := by decide +kernel
theorem pw_ne : ∀ a : F, a ≠ 0 → ∀ n : Fin 15, pw a n.val ≠ 0 := by decide +kernel
theorem pw_pw : ∀ a : F, a ≠ 0 → ∀ u v : Fin 15, mul (pw a u.val) (pw a v.val) = pw a ((u.val + v.val) % 15) := by decide +kernel
attribute [irreducible] add mul inv
end Go.Proofs.Ytbdbfnkjbbbmdaa.Gf
