/- Every matrix has a rank; what follows for square matrices. In plain Lean. -/
import Derived.Test.YtbdbfnkjbbbmdaaMatTab
namespace Go.Proofs.Ytbdbfnkjbbbmdaa.Lin
set_option linter.unusedSimpArgs false
set_option linter.unusedVariables false
open Go.Proofs.Ytbdbfnkjbbbmdaa.Gf Go.Proofs.Ytbdbfnkjbbbmdaa.MatData
theorem exists_inv (R W : Nat) (M : Nat → Nat → F) : ∀ k, k ≤ W → ∃ r N, Inv R W M N r k := by
  intro k
  induction k with
  | zero => intro _; exact ⟨0, M, Inv.start R W M⟩
  | succ k ih =>
    intro hk
    obtain ⟨r, N, h⟩ := ih (by omega)
    by_cases hz : ∀ i, r ≤ i → i < R → N i k = 0
    · exact ⟨r, N, h.next hz⟩
    · obtain ⟨q, hq⟩ := Classical.not_forall.1 hz
      obtain ⟨h1, hq⟩ := Classical.not_imp.1 hq
      obtain ⟨h2, hq⟩ := Classical.not_imp.1 hq
      exact ⟨r + 1, fun i j => if i = r then mul (N q j) (inv (N q k)) else add (N (swp r q i) j) (mul (mul (N q j) (inv (N q k))) (N (swp r q i) k)), h.pivot (by omega) h1 h2 hq fun _ _ _ _ => rfl⟩
theorem exists_rank (R C : Nat) (M : Nat → Nat → F) : ∃ r, IsRank R C M r := by
  obtain ⟨r, N, h⟩ := exists_inv R C M C (Nat.le_refl _)
  exact ⟨r, h.rank (Nat.le_refl _)⟩
/-- A square matrix that takes only 0 to 0 has full rank. -/
theorem rank_of_kernel {n : Nat} {M : Nat → Nat → F} (hk : ∀ c : Nat → F, (∀ i, i < n → sum n (fun j => mul (c j) (M i j)) = 0) → ∀ j, j < n → c j = 0) : IsRank n n M n := by
  obtain ⟨r, hr⟩ := exists_rank n n M
  have h1 := full_of_kernel hr.1 hk
  have h2 := hr.le_rows
  obtain rfl : r = n := by omega
  exact hr
/-- A square matrix of full rank has an inverse. -/
theorem exists_inverse {n : Nat} {M : Nat → Nat → F} (h : IsRank n n M n) : ∃ N : Nat → Nat → F, (∀ i, i < n → ∀ j, j < n → mm n M N i j = idm i j) ∧ (∀ i, i < n → ∀ j, j < n → mm n N M i j = idm i j) := by
  obtain ⟨r, N, hN⟩ := exists_inv n (n + n) (fun i j => if j < n then M i j else idm i (j - n)) n (by omega)
  have hr := (hN.rank (by omega)).congr (N := M) fun i _ j hj => (if_pos hj).symm
  obtain rfl := hr.unique h
  have hi := inverse_of rfl hN.eq (fun i hi j hj => by rw [if_neg (by omega), show r + j - r = j by omega]) (hN.square (Nat.le_refl _))
  refine ⟨fun a b => N a (r + b), fun i hi' j hj => ?_, fun i hi' j hj => ?_⟩
  · rw [← hi.1 i hi' j hj]
    exact mm_congr (fun k hk => (if_pos hk).symm) fun _ _ => rfl
  · rw [← hi.2 i hi' j hj]
    exact mm_congr (fun _ _ => rfl) fun k hk => (if_pos hj).symm
/-- A part of a Cauchy matrix. -/
theorem rank_cau {r c n : Nat} (hrc : r + c ≤ 16) (σ τ : Nat → Nat) (hs : ∀ i, i < n → σ i < r) (ht : ∀ i, i < n → τ i < c) (is : ∀ i, i < n → ∀ j, j < n → i ≠ j → σ i ≠ σ j) (it : ∀ i, i < n → ∀ j, j < n → i ≠ j → τ i ≠ τ j) :
    IsRank n n (fun i j => cau r (σ i) (τ j)) n := by
  refine rank_of_kernel fun c' h => cauchy_kernel n (fun i => toF ((σ i : Nat) : Int)) (fun j => toF ((r + τ j : Nat) : Int)) c' ?_ ?_ ?_ h
  · intro i hi j hj e
    have h1 := hs i hi
    have h2 := hs j hj
    exact toF_ne (by omega) (by omega) (is i hi j hj e)
  · intro i hi j hj e
    have h1 := ht i hi
    have h2 := ht j hj
    have h3 := it i hi j hj e
    exact toF_ne (by omega) (by omega) (by omega)
  · intro i hi j hj
    have h1 := hs i hi
    have h2 := ht j hj
    exact toF_ne (by omega) (by omega) (by omega)
end Go.Proofs.Ytbdbfnkjbbbmdaa.Lin
