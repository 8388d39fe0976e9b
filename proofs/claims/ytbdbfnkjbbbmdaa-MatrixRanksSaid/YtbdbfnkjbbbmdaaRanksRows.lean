/- Any n different rows of an identity of n columns with a Cauchy matrix below it have full rank. In plain Lean. -/
import Derived.Test.YtbdbfnkjbbbmdaaRanks
namespace Go.Proofs.Ytbdbfnkjbbbmdaa.Lin
set_option linter.unusedSimpArgs false
set_option linter.unusedVariables false
open Go.Proofs.Ytbdbfnkjbbbmdaa.Gf Go.Proofs.Ytbdbfnkjbbbmdaa.MatData
/-- The numbers below n, parted by p. -/
structure Split (n : Nat) (p : Nat → Prop) (a b : Nat) (e1 e2 : Nat → Nat) : Prop where
  size : a + b = n
  in1 : ∀ t, t < a → e1 t < n ∧ p (e1 t)
  in2 : ∀ t, t < b → e2 t < n ∧ ¬ p (e2 t)
  inj1 : ∀ s, s < a → ∀ t, t < a → s ≠ t → e1 s ≠ e1 t
  inj2 : ∀ s, s < b → ∀ t, t < b → s ≠ t → e2 s ≠ e2 t
  on1 : ∀ j, j < n → p j → ∃ t, t < a ∧ e1 t = j
  on2 : ∀ j, j < n → ¬ p j → ∃ t, t < b ∧ e2 t = j
  sums : ∀ f : Nat → F, sum n f = add (sum a (fun t => f (e1 t))) (sum b (fun t => f (e2 t)))
theorem exists_split (p : Nat → Prop) : ∀ n, ∃ a b e1 e2, Split n p a b e1 e2 := by
  intro n
  induction n with
  | zero => exact ⟨0, 0, id, id, ⟨rfl, fun t h => absurd h (by omega), fun t h => absurd h (by omega), fun t h => absurd h (by omega), fun t h => absurd h (by omega), fun t h => absurd h (by omega), fun t h => absurd h (by omega), fun f => (add_zero 0).symm⟩⟩
  | succ n ih =>
    obtain ⟨a, b, e1, e2, h⟩ := ih
    by_cases hp : p n
    · refine ⟨a + 1, b, fun t => if t = a then n else e1 t, e2, ?_, ?_, ?_, ?_, ?_, ?_, ?_, ?_⟩
      · have := h.size; omega
      · intro t ht
        by_cases e : t = a
        · simp only [if_pos e]; exact ⟨by omega, hp⟩
        · simp only [if_neg e]
          have := h.in1 t (by omega)
          exact ⟨by omega, this.2⟩
      · intro t ht
        have := h.in2 t ht
        exact ⟨by omega, this.2⟩
      · intro s hs t ht hne
        by_cases es : s = a
        · by_cases et : t = a
          · omega
          · simp only [if_pos es, if_neg et]
            have := (h.in1 t (by omega)).1
            omega
        · by_cases et : t = a
          · simp only [if_neg es, if_pos et]
            have := (h.in1 s (by omega)).1
            omega
          · simp only [if_neg es, if_neg et]
            exact h.inj1 s (by omega) t (by omega) hne
      · exact h.inj2
      · intro j hj hpj
        by_cases e : j = n
        · exact ⟨a, by omega, by simp [e]⟩
        · obtain ⟨t, ht, e'⟩ := h.on1 j (by omega) hpj
          exact ⟨t, by omega, by rw [if_neg (by omega)]; exact e'⟩
      · intro j hj hpj
        by_cases e : j = n
        · subst e; exact absurd hp hpj
        · exact h.on2 j (by omega) hpj
      · intro f
        show add (sum n f) (f n) = add (add (sum a fun t => f (if t = a then n else e1 t)) (f (if a = a then n else e1 a))) (sum b fun t => f (e2 t))
        rw [if_pos rfl, h.sums f, sum_congr (f := fun t => f (if t = a then n else e1 t)) (g := fun t => f (e1 t)) fun t ht => by rw [if_neg (by omega)]]
        rw [add_assoc, add_assoc, add_comm (sum b fun t => f (e2 t)) (f n)]
    · refine ⟨a, b + 1, e1, fun t => if t = b then n else e2 t, ?_, ?_, ?_, ?_, ?_, ?_, ?_, ?_⟩
      · have := h.size; omega
      · intro t ht
        have := h.in1 t ht
        exact ⟨by omega, this.2⟩
      · intro t ht
        by_cases e : t = b
        · simp only [if_pos e]; exact ⟨by omega, hp⟩
        · simp only [if_neg e]
          have := h.in2 t (by omega)
          exact ⟨by omega, this.2⟩
      · exact h.inj1
      · intro s hs t ht hne
        by_cases es : s = b
        · by_cases et : t = b
          · omega
          · simp only [if_pos es, if_neg et]
            have := (h.in2 t (by omega)).1
            omega
        · by_cases et : t = b
          · simp only [if_neg es, if_pos et]
            have := (h.in2 s (by omega)).1
            omega
          · simp only [if_neg es, if_neg et]
            exact h.inj2 s (by omega) t (by omega) hne
      · intro j hj hpj
        by_cases e : j = n
        · subst e; exact absurd hpj hp
        · exact h.on1 j (by omega) hpj
      · intro j hj hpj
        by_cases e : j = n
        · exact ⟨b, by omega, by simp [e]⟩
        · obtain ⟨t, ht, e'⟩ := h.on2 j (by omega) hpj
          exact ⟨t, by omega, by rw [if_neg (by omega)]; exact e'⟩
      · intro f
        show add (sum n f) (f n) = add (sum a fun t => f (e1 t)) (add (sum b fun t => f (if t = b then n else e2 t)) (f (if b = b then n else e2 b)))
        rw [if_pos rfl, h.sums f, sum_congr (f := fun t => f (if t = b then n else e2 t)) (g := fun t => f (e2 t)) fun t ht => by rw [if_neg (by omega)]]
        rw [add_assoc]
/-- A map without two equal values does not lead into a smaller set. -/
theorem holes {a s : Nat} (f : Nat → Nat) (hf : ∀ i, i < a → f i < s) (inj : ∀ i, i < a → ∀ j, j < a → i ≠ j → f i ≠ f j) : a ≤ s := by
  refine Classical.byContradiction fun hlt => ?_
  obtain ⟨c, ⟨j, hj, hc⟩, h⟩ := dep s a (fun j i => idm (f j) i) (by omega)
  have := h (f j) (hf j hj)
  rw [sum_single hj fun i hi hne => by rw [idm_ne (inj i hi j hj hne), mul_zero], idm_self, mul_one] at this
  exact hc this
/-- The rows of an identity, and behind them those of a Cauchy matrix. -/
def tall (n k i j : Nat) : F := if i < n then idm i j else cau k (i - n) j
theorem rank_tall {n k : Nat} (hnk : n + k ≤ 16) (σ : Nat → Nat) (hs : ∀ i, i < n → σ i < n + k) (is : ∀ i, i < n → ∀ j, j < n → i ≠ j → σ i ≠ σ j) : IsRank n n (fun i j => tall n k (σ i) j) n := by
  refine rank_of_kernel fun c h => ?_
  obtain ⟨a, b, α, β, hA⟩ := exists_split (fun i => σ i < n) n
  obtain ⟨s, m, γ, τ, hS⟩ := exists_split (fun j => ∃ i, i < n ∧ σ i = j) n
  -- the columns of the rows of the identity
  have hzero : ∀ i, i < n → σ i < n → c (σ i) = 0 := by
    intro i hi hlt
    have := h i hi
    rw [sum_single hlt fun j hj hne => by
      show mul (c j) (tall n k (σ i) j) = 0
      unfold tall
      rw [if_pos hlt, idm_ne (Ne.symm hne), mul_zero]] at this
    unfold tall at this
    rwa [if_pos hlt, idm_self, mul_one] at this
  have has : a ≤ s := by
    have hx : ∀ i, i < a → ∃ t, t < s ∧ γ t = σ (α i) := fun i hi => hS.on1 _ (hA.in1 i hi).2 ⟨α i, (hA.in1 i hi).1, rfl⟩
    refine holes (fun i => if hi : i < a then Classical.choose (hx i hi) else 0) (fun i hi => ?_) fun i hi j hj hne e => ?_
    · simp only [dif_pos hi]
      exact (Classical.choose_spec (hx i hi)).1
    · simp only [dif_pos hi, dif_pos hj] at e
      have e1 := (Classical.choose_spec (hx i hi)).2
      have e2 := (Classical.choose_spec (hx j hj)).2
      rw [e, e2] at e1
      exact is _ (hA.in1 j hj).1 _ (hA.in1 i hi).1 (hA.inj1 j hj i hi (Ne.symm hne)) e1
  have hmb : m ≤ b := by
    have h1 := hA.size
    have h2 := hS.size
    omega
  have hker := cauchy_kernel m (fun t => toF ((σ (β t) - n : Nat) : Int)) (fun t => toF ((k + τ t : Nat) : Int)) (fun t => c (τ t)) ?_ ?_ ?_ ?_
  · intro j hj
    by_cases hp : ∃ i, i < n ∧ σ i = j
    · obtain ⟨i, hi, rfl⟩ := hp
      exact hzero i hi hj
    · obtain ⟨t, ht, rfl⟩ := hS.on2 j hj hp
      exact hker t ht
  · intro t ht u hu hne
    have b1 := hA.in2 t (by omega)
    have b2 := hA.in2 u (by omega)
    have h1 := hs _ b1.1
    have h2 := hs _ b2.1
    have h3 := is _ b1.1 _ b2.1 (hA.inj2 t (by omega) u (by omega) hne)
    have g1 := b1.2
    have g2 := b2.2
    exact toF_ne (by omega) (by omega) (by omega)
  · intro t ht u hu hne
    have h1 := (hS.in2 t ht).1
    have h2 := (hS.in2 u hu).1
    have h3 := hS.inj2 t ht u hu hne
    exact toF_ne (by omega) (by omega) (by omega)
  · intro t ht u hu
    have b1 := hA.in2 t (by omega)
    have h1 := hs _ b1.1
    have h2 := (hS.in2 u hu).1
    have g1 := b1.2
    exact toF_ne (by omega) (by omega) (by omega)
  · intro t ht
    have b1 := hA.in2 t (by omega)
    have := h (β t) b1.1
    rw [hS.sums] at this
    rw [sum_zero (n := s) (fun u hu => by
      obtain ⟨i, hi, e⟩ := (hS.in1 u hu).2
      have e0 : c (γ u) = 0 := by
        rw [← e]
        exact hzero i hi (by rw [e]; exact (hS.in1 u hu).1)
      rw [e0, zero_mul]), zero_add] at this
    rw [← this]
    refine sum_congr fun u hu => ?_
    show mul (c (τ u)) (inv (add _ _)) = mul (c (τ u)) (tall n k (σ (β t)) (τ u))
    unfold tall
    rw [if_neg b1.2]
    rfl
end Go.Proofs.Ytbdbfnkjbbbmdaa.Lin
