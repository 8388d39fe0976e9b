/- Draws from a deck, in plain Lean: what they give lies in its bounds. -/
import Derived.Test.YtbdbfnkjbbbmdaaPMatrixDoesx3
namespace Go.Proofs.Ytbdbfnkjbbbmdaa.MatMatrixDoes
set_option linter.unusedSimpArgs false
set_option linter.unusedVariables false
open Go.RowKit Go.Proofs.Ytbdbfnkjbbbmdaa.PMatrixDoes Go.Proofs.YtbdbfnkjbbbmdaaW.PrintWords Go.Proofs.YtbdbfnkjbbbmdaaW.PrintLast
theorem mod_lt {x a r : Int} (ha : 1 ≤ a) (ha2 : a ≤ 1000000) (h : storagebartermake_Mod.f x a = some r) : 0 ≤ r ∧ r < a ∧ r = x % a := by
  unfold storagebartermake_Mod.f at h
  rw [if_neg (by omega)] at h
  have e := Option.some.inj h
  have hx : (-a < Int.tmod x a ∧ Int.tmod x a < a) ∧ Int.tmod x a % a = x % a := by
    rcases Int.le_total 0 x with h0 | h0
    · rw [Int.tmod_eq_emod_of_nonneg h0]
      have h1 := Int.emod_nonneg x (show a ≠ 0 by omega)
      have h2 := Int.emod_lt_of_pos x (show 0 < a by omega)
      exact ⟨⟨by omega, h2⟩, Int.emod_emod_of_dvd x (Int.dvd_refl a)⟩
    · obtain ⟨m, rfl⟩ : ∃ m, x = -m := ⟨-x, by omega⟩
      rw [Int.neg_tmod, Int.tmod_eq_emod_of_nonneg (by omega)]
      have h1 := Int.emod_nonneg m (show a ≠ 0 by omega)
      have h2 := Int.emod_lt_of_pos m (show 0 < a by omega)
      refine ⟨⟨by omega, by omega⟩, ?_⟩
      have e2 : -m = -(m % a) + a * (-(m / a)) := by
        have := Int.emod_add_mul_ediv m a
        rw [Int.mul_neg]
        omega
      rw [e2, Int.add_mul_emod_self_left]
  have hw : wrap64 (Int.tmod x a + a) = Int.tmod x a + a := by unfold wrap64; omega
  rw [hw, Int.tmod_eq_emod_of_nonneg (by omega), Int.add_emod_right, hx.2] at e
  rw [← e]
  exact ⟨Int.emod_nonneg x (by omega), Int.emod_lt_of_pos x (by omega), rfl⟩
theorem next_lt {s : List Int} {p a t p' : Int} (ha : 1 ≤ a) (ha2 : a ≤ 1000000) (h : storagebartermake_Deck_Next.f s p a = some (t, p')) : 0 ≤ t ∧ t < a := by
  unfold storagebartermake_Deck_Next.f at h
  rw [if_neg (by omega)] at h
  by_cases h1 : p ≥ (s.length : Int)
  · rw [if_pos h1] at h
    simp only [Option.some.injEq, Prod.mk.injEq] at h
    omega
  · rw [if_neg h1] at h
    by_cases h2 : 0 ≤ p
    · rw [if_pos h2, if_pos (by omega)] at h
      obtain ⟨m, hm, h⟩ := Option.bind_eq_some_iff.1 h
      simp only [Option.some.injEq, Prod.mk.injEq] at h
      have := mod_lt ha ha2 hm
      omega
    · rw [if_neg h2] at h
      cases h
theorem next_ok {s : List Int} {p a : Int} (hs : s.length ≤ 500) (hp : 0 ≤ p) (ha : 1 ≤ a) (ha2 : a ≤ 1000000) : ∃ t p', storagebartermake_Deck_Next.f s p a = some (t, p') ∧ 0 ≤ t ∧ t < a ∧ 0 ≤ p' := by
  have key : ∃ t p', storagebartermake_Deck_Next.f s p a = some (t, p') ∧ 0 ≤ p' := by
    unfold storagebartermake_Deck_Next.f
    rw [if_neg (by omega)]
    by_cases h1 : p ≥ (s.length : Int)
    · rw [if_pos h1]; exact ⟨_, _, rfl, hp⟩
    · rw [if_neg h1, if_pos hp, if_pos (by omega)]
      unfold storagebartermake_Mod.f
      rw [if_neg (by omega)]
      exact ⟨_, _, rfl, by unfold wrap64; omega⟩
  obtain ⟨t, p', h, hp'⟩ := key
  obtain ⟨h1, h2⟩ := next_lt ha ha2 h
  exact ⟨t, p', h, h1, h2, hp'⟩
end Go.Proofs.Ytbdbfnkjbbbmdaa.MatMatrixDoes
