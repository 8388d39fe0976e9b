/- The rank of a matrix whose rows are all rows of another one, in any order and number, is that one's rank. In plain Lean. -/
import Derived.Test.YtbdbfnkjbbbmdaaRanksRows
namespace Go.Proofs.Ytbdbfnkjbbbmdaa.Lin
set_option linter.unusedSimpArgs false
set_option linter.unusedVariables false
open Go.Proofs.Ytbdbfnkjbbbmdaa.Gf Go.Proofs.Ytbdbfnkjbbbmdaa.MatData
/-- Every number below n is one of n different ones below n. -/
theorem onto {n : Nat} (σ : Nat → Nat) (hs : ∀ i, i < n → σ i < n) (is : ∀ i, i < n → ∀ j, j < n → i ≠ j → σ i ≠ σ j) : ∀ j, j < n → ∃ i, i < n ∧ σ i = j := by
  intro j hj
  refine Classical.byContradiction fun hno => ?_
  have hne : ∀ i, i < n → σ i ≠ j := fun i hi e => hno ⟨i, hi, e⟩
  have := holes (a := n) (s := n - 1) (fun i => if σ i < j then σ i else σ i - 1) (fun i hi => ?_) (fun i hi k hk e => ?_)
  · omega
  · have h1 := hs i hi
    have h2 := hne i hi
    by_cases h : σ i < j
    · simp only [if_pos h]; omega
    · simp only [if_neg h]; omega
  · have h1 := is i hi k hk e
    have h2 := hne i hi
    have h3 := hne k hk
    by_cases h : σ i < j
    · by_cases h' : σ k < j
      · simp only [if_pos h, if_pos h']; omega
      · simp only [if_pos h, if_neg h']; omega
    · by_cases h' : σ k < j
      · simp only [if_neg h, if_pos h']; omega
      · simp only [if_neg h, if_neg h']; omega
theorem IsRank.rows {R C R' r : Nat} {M : Nat → Nat → F} (h : IsRank R C M r) (σ : Nat → Nat) (hs : ∀ i, i < R' → σ i < R) (on : ∀ j, j < R → ∃ i, i < R' ∧ σ i = j) : IsRank R' C (fun i j => M (σ i) j) r := by
  obtain ⟨r', h'⟩ := exists_rank R' C (fun i j => M (σ i) j)
  have h1 : r' ≤ r := piv_le h'.2 (h.1.rows σ hs)
  have h2 : r ≤ r' := by
    refine piv_le h.2 ?_
    have hx := h'.1.rows (R' := R) (fun j => if hj : j < R then Classical.choose (on j hj) else 0) (fun j hj => by
      simp only [dif_pos hj]
      exact (Classical.choose_spec (on j hj)).1)
    refine hx.congr fun j hj k hk => ?_
    simp only [dif_pos hj]
    rw [(Classical.choose_spec (on j hj)).2]
  obtain rfl : r = r' := by omega
  exact h'
end Go.Proofs.Ytbdbfnkjbbbmdaa.Lin
