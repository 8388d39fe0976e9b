/- Matrices as data: two numbers and a list; which are valid; their elements. In plain Lean. -/
import Derived.Test.YtbdbfnkjbbbmdaaLin
import Derived.Test.YtbdbfnkjbbbmdaaWWords
namespace Go.Proofs.Ytbdbfnkjbbbmdaa.MatData
set_option linter.unusedSimpArgs false
set_option linter.unusedVariables false
open Go.RowKit Go.Proofs.YtbdbfnkjbbbmdaaW.PrintWords Go.Proofs.Ytbdbfnkjbbbmdaa.Gf Go.Proofs.Ytbdbfnkjbbbmdaa.Lin
def toF (p : Int) : F := ⟨p.toNat % 16, Nat.mod_lt _ (by decide)⟩
theorem toF_val (x : F) : toF (x.val : Int) = x := Fin.ext (by show (x.val : Int).toNat % 16 = x.val; omega)
theorem val_toF {p : Int} (h : 0 ≤ p ∧ p < 16) : ((toF p).val : Int) = p := by
  show ((p.toNat % 16 : Nat) : Int) = p
  omega
/-- Element j of a list. -/
def el (l : List Int) (j : Nat) : F := toF (l.getD j 0)
/-- The element in a row and a column. -/
def ent (C : Nat) (l : List Int) (i j : Nat) : F := el l (i * C + j)
def isEl (l : List Int) : Bool := l.all fun x => decide (0 ≤ x ∧ x < 16)
theorem isEl_mem {l : List Int} (h : isEl l = true) {x : Int} (hx : x ∈ l) : 0 ≤ x ∧ x < 16 := by
  have := List.all_eq_true.1 h x hx
  simpa using this
theorem getD_mem {l : List Int} {j : Nat} (h : j < l.length) : l.getD j 0 ∈ l := by
  rw [List.getD_eq_getElem?_getD, List.getElem?_eq_getElem h]
  exact List.getElem_mem h
theorem el_val {l : List Int} (h : isEl l = true) {j : Nat} (hj : j < l.length) : ((el l j).val : Int) = l.getD j 0 := val_toF (isEl_mem h (getD_mem hj))
theorem isEl_iff (l : List Int) : isEl l = true ↔ ∀ j, j < l.length → 0 ≤ l.getD j 0 ∧ l.getD j 0 < 16 := by
  constructor
  · intro h j hj
    exact isEl_mem h (getD_mem hj)
  · intro h
    refine List.all_eq_true.2 fun x hx => ?_
    obtain ⟨j, hj, rfl⟩ := List.mem_iff_getElem.1 hx
    have := h j hj
    rw [List.getD_eq_getElem?_getD, List.getElem?_eq_getElem hj] at this
    simpa using this
/-- The first error of a matrix. -/
def chk (R C : Int) (l : List Int) : Int := if R < 1 ∨ R > 16 ∨ C < 1 ∨ C > 16 then 1 else if (l.length : Int) ≠ R * C then 2 else if isEl l = true then 0 else 1
/-- A valid matrix. -/
structure Valid (R C : Nat) (l : List Int) : Prop where
  r0 : 0 < R
  r1 : R ≤ 16
  c0 : 0 < C
  c1 : C ≤ 16
  len : l.length = R * C
  els : isEl l = true
theorem chk_valid {R C : Nat} {l : List Int} (h : Valid R C l) : chk R C l = 0 := by
  obtain ⟨a, b, c, d, e, f⟩ := h
  unfold chk
  rw [if_neg (by omega), if_neg (by rw [e]; simp), if_pos f]
theorem valid_chk {R C : Int} {l : List Int} (h : chk R C l = 0) : ∃ r c : Nat, R = r ∧ C = c ∧ Valid r c l := by
  unfold chk at h
  by_cases h1 : R < 1 ∨ R > 16 ∨ C < 1 ∨ C > 16
  · rw [if_pos h1] at h; omega
  · rw [if_neg h1] at h
    by_cases h2 : (l.length : Int) ≠ R * C
    · rw [if_pos h2] at h; omega
    · rw [if_neg h2] at h
      by_cases h3 : isEl l = true
      · obtain ⟨r, rfl⟩ : ∃ r : Nat, R = r := ⟨R.toNat, by omega⟩
        obtain ⟨c, rfl⟩ : ∃ c : Nat, C = c := ⟨C.toNat, by omega⟩
        have h2' : (l.length : Int) = (r : Int) * (c : Int) := Classical.not_not.1 h2
        refine ⟨r, c, rfl, rfl, by omega, by omega, by omega, by omega, ?_, h3⟩
        have : ((l.length : Nat) : Int) = ((r * c : Nat) : Int) := by rw [h2']; simp
        exact Int.ofNat.inj this
      · rw [if_neg h3] at h; omega
theorem chk_cases (R C : Int) (l : List Int) : chk R C l = 0 ∨ chk R C l = 1 ∨ chk R C l = 2 := by
  unfold chk
  by_cases h1 : R < 1 ∨ R > 16 ∨ C < 1 ∨ C > 16
  · rw [if_pos h1]; exact .inr (.inl rfl)
  · rw [if_neg h1]
    by_cases h2 : (l.length : Int) ≠ R * C
    · rw [if_pos h2]; exact .inr (.inr rfl)
    · rw [if_neg h2]
      by_cases h3 : isEl l = true
      · rw [if_pos h3]; exact .inl rfl
      · rw [if_neg h3]; exact .inr (.inl rfl)
theorem index_lt {R C i j : Nat} (hi : i < R) (hj : j < C) : i * C + j < R * C := by
  have := Nat.mul_le_mul_right C (show i + 1 ≤ R by omega)
  rw [Nat.add_mul, Nat.one_mul] at this
  omega
theorem index_le {R C i : Nat} (hi : i < R) : i * C + C ≤ R * C := by
  have := Nat.mul_le_mul_right C (show i + 1 ≤ R by omega)
  rwa [Nat.add_mul, Nat.one_mul] at this
theorem wrap_id {n : Int} (h0 : -9223372036854775808 ≤ n) (h1 : n ≤ 9223372036854775807) : wrap64 n = n := by unfold wrap64; omega
theorem mul_small {a b : Int} (ha : 1 ≤ a ∧ a ≤ 16) (hb : 1 ≤ b ∧ b ≤ 16) : 1 ≤ a * b ∧ a * b ≤ 256 := by
  have h1 : 1 * 1 ≤ a * b := Int.mul_le_mul ha.1 hb.1 (by omega) (by omega)
  have h2 : a * b ≤ 16 * 16 := Int.mul_le_mul ha.2 hb.2 (by omega) (by omega)
  omega
end Go.Proofs.Ytbdbfnkjbbbmdaa.MatData
