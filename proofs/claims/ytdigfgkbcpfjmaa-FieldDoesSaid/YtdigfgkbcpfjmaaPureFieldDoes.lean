/- The program's field and the reference's give the same results and errors for any numbers: what the printed law answers is true. No condition. -/
import Derived.Test.YtdigfgkbcpfjmaaCallsFieldDoes
namespace Go.Proofs.Ytdigfgkbcpfjmaa.Pure
set_option linter.unusedSimpArgs false
set_option linter.unusedVariables false
open Go.RowKit Go.Proofs.Ytdigfgkbcpfjmaa.PFieldDoes Go.Proofs.YtdigfgkbcpfjmaaW.PrintWords Go.Proofs.YtdigfgkbcpfjmaaW.PrintLast Go.Proofs.Ytdigfgkbcpfjmaa.Gf Go.Proofs.Ytdigfgkbcpfjmaa.CallsFieldDoes
theorem relement_ok (x : F) : storagebarterref05_element.f (x.val : Int) = some true := by
  unfold storagebarterref05_element.f
  rw [if_pos (by omega), decide_eq_true (by omega)]
theorem relement_no {a : Int} (h : ¬ (0 ≤ a ∧ a < 16)) : storagebarterref05_element.f a = some false := by
  unfold storagebarterref05_element.f
  by_cases h0 : 0 ≤ a
  · rw [if_pos h0]; simp; omega
  · rw [if_neg h0]
theorem rtimes_ok (x y : F) : Ev (fun k => storagebarterref05_times.f k x.val y.val) ((mul x y).val : Int) :=
  Ev.of (storagebarterref05_times.mono _ _) ((by decide +kernel : ∀ x y : F, storagebarterref05_times.f 12 x.val y.val = some ((mul x y).val : Int)) x y)
/-- Sums. -/
theorem add_same (a b : Int) : ∃ p e, field_Add.f a b = some (p, e) ∧ storagebarterref05_Add.f a b = some (p, e) := by
  unfold field_Add.f storagebarterref05_Add.f
  by_cases ha : 0 ≤ a ∧ a < 16
  · obtain ⟨x, rfl⟩ := as_element ha
    by_cases hb : 0 ≤ b ∧ b < 16
    · obtain ⟨y, rfl⟩ := as_element hb
      simp only [element_ok, relement_ok, Option.bind_some, if_true]
      exact ⟨_, _, rfl, rfl⟩
    · simp only [element_ok, relement_ok, element_no hb, relement_no hb, Option.bind_some, if_true]
      exact ⟨_, _, rfl, rfl⟩
  · simp only [element_no ha, relement_no ha, Option.bind_some]
    exact ⟨_, _, rfl, rfl⟩
/-- Products. -/
theorem mul_same (a b : Int) : ∃ p e, Ev (fun k => field_Mul.f k a b) (p, e) ∧ Ev (fun k => storagebarterref05_Mul.f k a b) (p, e) := by
  by_cases ha : 0 ≤ a ∧ a < 16
  · obtain ⟨x, rfl⟩ := as_element ha
    by_cases hb : 0 ≤ b ∧ b < 16
    · obtain ⟨y, rfl⟩ := as_element hb
      refine ⟨_, _, mul_ok x y, ?_⟩
      unfold storagebarterref05_Mul.f
      simp only [relement_ok, Option.bind_some, if_true]
      exact Ev.bind (rtimes_ok x y) (Ev.now _)
    · unfold field_Mul.f storagebarterref05_Mul.f
      simp only [element_ok, relement_ok, element_no hb, relement_no hb, Option.bind_some, if_true]
      exact ⟨_, _, Ev.now _, Ev.now _⟩
  · unfold field_Mul.f storagebarterref05_Mul.f
    simp only [element_no ha, relement_no ha, Option.bind_some]
    exact ⟨_, _, Ev.now _, Ev.now _⟩
theorem zero_val : (((0 : F).val : Nat) : Int) = 0 := rfl
/-- Powers. -/
theorem rpower_loop (x : F) (e : Fin 15) : Ev (fun k => storagebarterref05_Power.l0 k x.val 1 e.val) (((pw x e.val).val : Int), 0) :=
  Ev.of (fun k => storagebarterref05_Power.mono_l k _ _ _) ((by decide +kernel : ∀ (x : F) (e : Fin 15), storagebarterref05_Power.l0 40 x.val 1 e.val = some (((pw x e.val).val : Int), 0)) x e)
theorem power_same (a n : Int) : ∃ p e, Ev (fun k => field_Power.f k a n) (p, e) ∧ Ev (fun k => storagebarterref05_Power.f k a n) (p, e) := by
  by_cases ha : 0 ≤ a ∧ a < 16
  · obtain ⟨x, rfl⟩ := as_element ha
    by_cases hx : x = 0
    · subst hx
      have h1 := element_ok 0
      have h2 := relement_ok 0
      rw [zero_val] at h1 h2 ⊢
      unfold field_Power.f storagebarterref05_Power.f
      simp only [h1, h2, Option.bind_some, if_true]
      by_cases h0 : n = 0
      · subst h0
        simp only [if_true, Int.lt_irrefl, if_false]
        exact ⟨_, _, Ev.now _, Ev.now _⟩
      · by_cases hn : n < 0
        · simp only [if_neg h0, if_pos hn]
          exact ⟨_, _, Ev.step (f := fun _ => some (0, 6)) (fun k => by simp [field_Power.j0, hn]) (Ev.now _), Ev.now _⟩
        · simp only [if_neg h0, if_neg hn]
          exact ⟨_, _, Ev.step (f := fun _ => some (0, 0)) (fun k => by simp [field_Power.j0, hn]) (Ev.now _), Ev.now _⟩
    · refine ⟨_, _, power_ok x n hx, ?_⟩
      have hx0 : ¬ ((x.val : Nat) : Int) = 0 := fun h => hx (Fin.ext (by simpa using h))
      unfold storagebarterref05_Power.f
      simp only [relement_ok, Option.bind_some, if_true, if_neg hx0, exp_fold]
      have h := rpower_loop x ⟨(n % 15).toNat, by omega⟩
      have e : (((n % 15).toNat : Nat) : Int) = n % 15 := by omega
      simp only [e] at h
      exact h
  · unfold field_Power.f storagebarterref05_Power.f
    simp only [element_no ha, relement_no ha, Option.bind_some]
    exact ⟨_, _, Ev.now _, Ev.now _⟩
theorem inverse_same (a : Int) : ∃ p e, Ev (fun k => field_Inverse.f k a) (p, e) ∧ Ev (fun k => storagebarterref05_Inverse.f k a) (p, e) := by
  by_cases ha : 0 ≤ a ∧ a < 16
  · obtain ⟨x, rfl⟩ := as_element ha
    obtain ⟨p, e, h1, h2⟩ := (by decide +kernel : ∀ x : F, ∃ (p : Fin 16) (e : Fin 7), field_Inverse.f 20 x.val = some ((p.val : Int), (e.val : Int)) ∧ storagebarterref05_Inverse.f 40 x.val = some ((p.val : Int), (e.val : Int))) x
    exact ⟨_, _, Ev.of (field_Inverse.mono _) h1, Ev.of (storagebarterref05_Inverse.mono _) h2⟩
  · unfold field_Inverse.f field_Power.f storagebarterref05_Inverse.f
    simp only [element_no ha, relement_no ha, Option.bind_some]
    exact ⟨_, _, Ev.now _, Ev.now _⟩
theorem log_same (a : Int) : ∃ p e, Ev (fun k => field_Log.f k a) (p, e) ∧ Ev (fun k => storagebarterref05_Log.f k a) (p, e) := by
  by_cases ha : 0 ≤ a ∧ a < 16
  · obtain ⟨x, rfl⟩ := as_element ha
    obtain ⟨p, e, h1, h2⟩ := (by decide +kernel : ∀ x : F, ∃ (p : Fin 16) (e : Fin 7), field_Log.f 25 x.val = some ((p.val : Int), (e.val : Int)) ∧ storagebarterref05_Log.f 40 x.val = some ((p.val : Int), (e.val : Int))) x
    exact ⟨_, _, Ev.of (field_Log.mono _) h1, Ev.of (storagebarterref05_Log.mono _) h2⟩
  · unfold field_Log.f storagebarterref05_Log.f
    simp only [element_no ha, relement_no ha, Option.bind_some]
    exact ⟨_, _, Ev.now _, Ev.now _⟩
/-- The law's loops over two numbers each. -/
theorem does_l2 (a1 a2 x : Int) (xs : List Int) (m i : Int) (y0 y1 : Int) (H : Ev (fun k => storagebarterlaw05_FieldDoes.l0 k a1 a2 xs m (wrap64 (i + 1))) true) :
    Ev (fun k => storagebarterlaw05_FieldDoes.l2 k a1 a2 x xs m i [y0, y1] 2 0) true := by
  have last : Ev (fun k => storagebarterlaw05_FieldDoes.l2 k a1 a2 x xs m i [y0, y1] 2 2) true := by
    refine Ev.step (fun k => ?_) H
    simp only [storagebarterlaw05_FieldDoes.l2, Int.lt_irrefl, if_false]
  have w1 : wrap64 (0 + 1) = 1 := by decide +kernel
  have w2 : wrap64 (1 + 1) = 2 := by decide +kernel
  have step : ∀ (j : Int) (y : Int), 0 ≤ j → j < 2 → rd [y0, y1] j = y → Ev (fun k => storagebarterlaw05_FieldDoes.l2 k a1 a2 x xs m i [y0, y1] 2 (wrap64 (j + 1))) true →
      Ev (fun k => storagebarterlaw05_FieldDoes.l2 k a1 a2 x xs m i [y0, y1] 2 j) true := by
    intro j y hj0 hj2 hy hn
    obtain ⟨p, e, h1, h2⟩ := power_same x y
    have hl : j < (([y0, y1] : List Int).length : Int) := by simpa using hj2
    refine Ev.step (fun k => by simp only [storagebarterlaw05_FieldDoes.l2, if_pos hj2, if_pos hj0, if_pos hl, hy]; rfl) ?_
    refine Ev.bind h1 ?_
    refine Ev.bind h2 ?_
    simp only [if_true]
    exact hn
  refine step 0 y0 (by decide) (by decide) rfl ?_
  rw [w1]
  refine step 1 y1 (by decide) (by decide) rfl ?_
  rw [w2]
  exact last
theorem does_l1 (a1 a2 x : Int) (xs : List Int) (m i : Int) (y0 y1 : Int) (H : Ev (fun k => storagebarterlaw05_FieldDoes.l0 k a1 a2 xs m (wrap64 (i + 1))) true) :
    Ev (fun k => storagebarterlaw05_FieldDoes.l1 k a1 a2 x xs m i [y0, y1] 2 0) true := by
  have last : Ev (fun k => storagebarterlaw05_FieldDoes.l1 k a1 a2 x xs m i [y0, y1] 2 2) true := by
    obtain ⟨p, e, h1, h2⟩ := inverse_same x
    obtain ⟨q, f, h3, h4⟩ := log_same x
    refine Ev.step (fun k => by simp only [storagebarterlaw05_FieldDoes.l1, Int.lt_irrefl, if_false]; rfl) ?_
    refine Ev.bind h1 ?_
    refine Ev.bind h2 ?_
    refine Ev.bind h3 ?_
    refine Ev.bind h4 ?_
    simp only [if_true, bne_self_eq_false]
    refine Ev.step (f := fun k => storagebarterlaw05_FieldDoes.l2 k a1 a2 x xs m i [a2, wrap64 (Int.tmod (wrap64 ((Int.tmod a2 40) + 40)) 40 - 20)] 2 0) (fun k => ?_) (does_l2 a1 a2 x xs m i _ _ H)
    simp [storagebarterlaw05_FieldDoes.j2, storagebartermake_Mod.f]
  have w1 : wrap64 (0 + 1) = 1 := by decide +kernel
  have w2 : wrap64 (1 + 1) = 2 := by decide +kernel
  have step : ∀ (j : Int) (y : Int), 0 ≤ j → j < 2 → rd [y0, y1] j = y → Ev (fun k => storagebarterlaw05_FieldDoes.l1 k a1 a2 x xs m i [y0, y1] 2 (wrap64 (j + 1))) true →
      Ev (fun k => storagebarterlaw05_FieldDoes.l1 k a1 a2 x xs m i [y0, y1] 2 j) true := by
    intro j y hj0 hj2 hy hn
    obtain ⟨p, e, h1, h2⟩ := add_same x y
    obtain ⟨q, f, h3, h4⟩ := mul_same x y
    have hl : j < (([y0, y1] : List Int).length : Int) := by simpa using hj2
    refine Ev.step (fun k => by simp only [storagebarterlaw05_FieldDoes.l1, if_pos hj2, if_pos hj0, if_pos hl, hy, h1, h2, Option.bind_some]; rfl) ?_
    refine Ev.bind h3 ?_
    refine Ev.bind h4 ?_
    simp only [if_true]
    exact hn
  refine step 0 y0 (by decide) (by decide) rfl ?_
  rw [w1]
  refine step 1 y1 (by decide) (by decide) rfl ?_
  rw [w2]
  exact last
theorem does_l0 (a1 a2 : Int) (x0 x1 : Int) : Ev (fun k => storagebarterlaw05_FieldDoes.l0 k a1 a2 [x0, x1] 2 0) true := by
  have w1 : wrap64 (0 + 1) = 1 := by decide +kernel
  have w2 : wrap64 (1 + 1) = 2 := by decide +kernel
  have last : Ev (fun k => storagebarterlaw05_FieldDoes.l0 k a1 a2 [x0, x1] 2 2) true := by
    refine Ev.step (f := fun _ => some true) (fun k => ?_) (Ev.now _)
    simp only [storagebarterlaw05_FieldDoes.l0, Int.lt_irrefl, if_false]
  have step : ∀ (j : Int) (x : Int), 0 ≤ j → j < 2 → rd [x0, x1] j = x → Ev (fun k => storagebarterlaw05_FieldDoes.l0 k a1 a2 [x0, x1] 2 (wrap64 (j + 1))) true →
      Ev (fun k => storagebarterlaw05_FieldDoes.l0 k a1 a2 [x0, x1] 2 j) true := by
    intro j x hj0 hj2 hx hn
    have hl : j < (([x0, x1] : List Int).length : Int) := by simpa using hj2
    refine Ev.step (f := fun k => storagebarterlaw05_FieldDoes.l1 k a1 a2 x [x0, x1] 2 j [a1, Int.tmod (wrap64 ((Int.tmod a1 16) + 16)) 16] 2 0) (fun k => ?_) (does_l1 a1 a2 x [x0, x1] 2 j _ _ hn)
    simp only [storagebarterlaw05_FieldDoes.l0, if_pos hj2, if_pos hj0, if_pos hl, hx]
    simp [storagebartermake_Mod.f]
  refine step 0 x0 (by decide) (by decide) rfl ?_
  rw [w1]
  refine step 1 x1 (by decide) (by decide) rfl ?_
  rw [w2]
  exact last
theorem FieldDoes : storagebarterlaw05_FieldDoes.Pure := by
  intro a b n _ _ _
  refine Ev.rounds ?_
  unfold storagebarterlaw05_FieldDoes.f
  refine Ev.bind sane_ok ?_
  simp only [if_true]
  have h := does_l0 b n a (Int.tmod (wrap64 ((Int.tmod a 16) + 16)) 16)
  refine Ev.congr (fun k => ?_) h
  simp [storagebartermake_Mod.f]
end Go.Proofs.Ytdigfgkbcpfjmaa.Pure
