/- The elements but 0 are powers of 2, and powers add: what the printed law answers is true. No condition. -/
import Derived.Test.YtdigfgkbcpfjmaaCallsFieldPowers
namespace Go.Proofs.Ytdigfgkbcpfjmaa.Pure
set_option linter.unusedSimpArgs false
set_option linter.unusedVariables false
open Go.RowKit Go.Proofs.Ytdigfgkbcpfjmaa.PFieldPowers Go.Proofs.YtdigfgkbcpfjmaaW.PrintWords Go.Proofs.YtdigfgkbcpfjmaaW.PrintLast Go.Proofs.Ytdigfgkbcpfjmaa.Gf Go.Proofs.Ytdigfgkbcpfjmaa.CallsFieldPowers
theorem tmod_range (m : Int) : -1000 < Int.tmod m 1000 ∧ Int.tmod m 1000 < 1000 := by
  rcases Int.le_total 0 m with h | h
  · rw [Int.tmod_eq_emod_of_nonneg h]; omega
  · obtain ⟨k, rfl⟩ : ∃ k, m = -k := ⟨-m, by omega⟩
    rw [Int.neg_tmod, Int.tmod_eq_emod_of_nonneg (by omega)]; omega
theorem FieldPowers : storagebarterlaw05_FieldPowers.Pure := by
  intro a0 m n h0 _ _
  have ha : 0 ≤ a0 ∧ a0 ≤ 255 := by simpa [Lit.wf, IntKind.min, IntKind.max, IntKind.signed, IntKind.bits] using h0
  refine Ev.rounds ?_
  unfold storagebarterlaw05_FieldPowers.f
  refine Ev.bind sane_ok ?_
  simp only [if_true]
  have hw : wrap64 (1 + (wrap64 (Int.tmod a0 15))) = 1 + a0 % 15 := by
    rw [Int.tmod_eq_emod_of_nonneg ha.1]
    have : wrap64 (a0 % 15) = a0 % 15 := by unfold wrap64; omega
    rw [this]; unfold wrap64; omega
  obtain ⟨x, hx⟩ := as_element (a := 1 + a0 % 15) (by omega)
  have hx0 : x ≠ 0 := by
    intro h
    rw [h] at hx
    simp at hx
    omega
  rw [hw, hx]
  obtain ⟨e, he, hpe⟩ := log_ok x hx0
  obtain ⟨hm1, hm2⟩ := tmod_range m
  obtain ⟨hn1, hn2⟩ := tmod_range n
  generalize Int.tmod m 1000 = m at *
  generalize Int.tmod n 1000 = n at *
  have w1 : wrap64 (m + n) = m + n := by unfold wrap64; omega
  have w2 : wrap64 (15 * n) = 15 * n := by unfold wrap64; omega
  have w3 : wrap64 (m + 15 * n) = m + 15 * n := by unfold wrap64; omega
  rw [w1, w2, w3]
  refine Ev.bind he ?_
  refine Ev.bind (power_ok 2 (e.val : Int) (by decide)) ?_
  refine Ev.bind (power_ok x m hx0) ?_
  refine Ev.bind (power_ok x n hx0) ?_
  refine Ev.bind (power_ok x (m + n) hx0) ?_
  refine Ev.bind (power_ok x (m + 15 * n) hx0) ?_
  have e1 : (((e.val : Nat) : Int) % 15).toNat = e.val := by omega
  have e2 : ((m + 15 * n) % 15).toNat = (m % 15).toNat := by omega
  simp only [e1, e2, hpe, if_true]
  have p1 : ((e.val : Nat) : Int) ≥ 0 := by omega
  have p2 : ((e.val : Nat) : Int) < 15 := by omega
  simp only [if_pos p1, if_pos p2]
  have h := pw_pw x hx0 ⟨(m % 15).toNat, by omega⟩ ⟨(n % 15).toNat, by omega⟩
  have e3 : ((m % 15).toNat + (n % 15).toNat) % 15 = ((m + n) % 15).toNat := by omega
  simp only [e3] at h
  unfold storagebarterlaw05_mul.f
  refine Ev.bind (Ev.bind (mul_ok _ _) (Ev.now _)) ?_
  rw [h]
  simp only [if_true, beq_self_eq_true]
  exact Ev.now _
end Go.Proofs.Ytdigfgkbcpfjmaa.Pure
