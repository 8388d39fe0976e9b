/- What make.Matrix answers, in the words of the plain texts. -/
import Derived.Test.YtbdbfnkjbbbmdaaPMatrixDoesx3
import Derived.Test.YtbdbfnkjbbbmdaaMatCheckMatrixDoes
import Derived.Test.YtbdbfnkjbbbmdaaMatMakeMatrixDoes
import Derived.Test.YtbdbfnkjbbbmdaaMatDeckMatrixDoes
namespace Go.Proofs.Ytbdbfnkjbbbmdaa.MatMatrixDoes
set_option linter.unusedSimpArgs false
set_option linter.unusedVariables false
open Go.RowKit Go.Proofs.Ytbdbfnkjbbbmdaa.PMatrixDoes Go.Proofs.YtbdbfnkjbbbmdaaW.PrintWords Go.Proofs.YtbdbfnkjbbbmdaaW.PrintLast Go.Proofs.Ytbdbfnkjbbbmdaa.Gf Go.Proofs.Ytbdbfnkjbbbmdaa.Lin Go.Proofs.Ytbdbfnkjbbbmdaa.MatData
theorem wrap_add {a b : Nat} (h : a + b ≤ 1000000) : wrap64 ((a : Int) + (b : Int)) = ((a + b : Nat) : Int) := by unfold wrap64; omega
theorem wrap_mul {a b : Nat} (h : a * b ≤ 1000000) : wrap64 ((a : Int) * (b : Int)) = ((a * b : Nat) : Int) := by
  have : (a : Int) * (b : Int) = ((a * b : Nat) : Int) := by simp
  rw [this]; unfold wrap64; omega
/-- make.Matrix draws elements. -/
theorem made_loop {s : List Int} (hs : s.length ≤ 500) (N : Nat) (hN : N ≤ 1000) (R C : Int) : ∀ d j : Nat, j + d = N → ∀ (p : Int) (l : List Int), 0 ≤ p → l.length = j → isEl l = true →
    ∃ l' p', 0 ≤ p' ∧ l'.length = N ∧ isEl l' = true ∧ Ev (fun k => storagebartermake_Matrix.l0 k (N : Int) (j : Int) s p R C l) (R, C, l', p') := by
  intro d
  induction d with
  | zero =>
    intro j hj p l hp hl he
    refine ⟨l, p, hp, by omega, he, Ev.step (f := fun _ => some _) (fun k => ?_) (Ev.now _)⟩
    simp only [storagebartermake_Matrix.l0]
    rw [if_neg (by omega)]
  | succ d ih =>
    intro j hj p l hp hl he
    have q1 : (j : Int) < (N : Int) := by omega
    have q2 : l.length < 17592186044416 := by omega
    have q3 : wrap64 ((j : Int) + 1) = ((j + 1 : Nat) : Int) := wrap_add (b := 1) (by omega)
    have q4 : j + 1 + d = N := by omega
    obtain ⟨t, p1, ht, t0, t1, hp1⟩ := next_ok (a := 16) hs hp (by decide) (by decide)
    have he2 : isEl (l ++ [t]) = true := by
      unfold isEl at he ⊢
      rw [List.all_append, he]
      simp
      exact ⟨t0, t1⟩
    obtain ⟨l', p', h1, h2, h3, h4⟩ := ih (j + 1) q4 p1 (l ++ [t]) hp1 (by rw [List.length_append, hl]; rfl) he2
    refine ⟨l', p', h1, h2, h3, Ev.step (fun k => ?_) h4⟩
    simp only [storagebartermake_Matrix.l0, ht, Option.bind_some]
    rw [if_pos q1, if_pos q2, q3]
theorem made_ev {s : List Int} (hs : s.length ≤ 500) {p : Int} (hp : 0 ≤ p) {R C : Nat} (r0 : 0 < R) (r1 : R ≤ 16) (c0 : 0 < C) (c1 : C ≤ 16) :
    ∃ l p', Valid R C l ∧ 0 ≤ p' ∧ Ev (fun k => storagebartermake_Matrix.f k s p (R : Int) (C : Int)) ((R : Int), (C : Int), l, p') := by
  have h := Nat.mul_le_mul r1 c1
  obtain ⟨l, p', h1, h2, h3, h4⟩ := made_loop hs (R * C) (by omega) (R : Int) (C : Int) (R * C) 0 (by omega) p [] hp rfl rfl
  refine ⟨l, p', ⟨r0, r1, c0, c1, h2, h3⟩, h1, ?_⟩
  unfold storagebartermake_Matrix.f
  rw [wrap_mul (by omega)]
  exact h4
theorem valid_len {R C : Nat} {l : List Int} (h : Valid R C l) : l.length ≤ 1000 := by
  rw [h.len]
  exact Nat.le_trans (Nat.mul_le_mul h.r1 h.c1) (by decide)
end Go.Proofs.Ytbdbfnkjbbbmdaa.MatMatrixDoes
