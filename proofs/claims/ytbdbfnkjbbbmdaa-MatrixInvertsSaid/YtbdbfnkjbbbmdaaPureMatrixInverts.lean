/- A matrix times its inverse is the identity, on both sides; the inverse's inverse is the matrix; there is one exactly if the rank is the number of rows: what the printed law answers is true. No condition. -/
import Derived.Test.YtbdbfnkjbbbmdaaMatOpsMatrixInverts
import Derived.Test.YtbdbfnkjbbbmdaaMatSaneMatrixInverts
import Derived.Test.YtbdbfnkjbbbmdaaMatGoodMatrixInverts
namespace Go.Proofs.Ytbdbfnkjbbbmdaa.Pure
set_option linter.unusedSimpArgs false
set_option linter.unusedVariables false
open Go.RowKit Go.Proofs.Ytbdbfnkjbbbmdaa.PMatrixInverts Go.Proofs.YtbdbfnkjbbbmdaaW.PrintWords Go.Proofs.YtbdbfnkjbbbmdaaW.PrintLast Go.Proofs.YtbdbfnkjbbbmdaaW.PrintMore Go.Proofs.Ytbdbfnkjbbbmdaa.Gf Go.Proofs.Ytbdbfnkjbbbmdaa.Lin Go.Proofs.Ytbdbfnkjbbbmdaa.MatData Go.Proofs.Ytbdbfnkjbbbmdaa.MatMatrixInverts
theorem size_arg {a : Int} (h : 0 ≤ a ∧ a ≤ 255) : ∃ r : Nat, wrap64 (1 + (wrap64 (Int.tmod a 6))) = (r : Int) ∧ 0 < r ∧ r ≤ 6 := by
  rw [Int.tmod_eq_emod_of_nonneg h.1]
  have : wrap64 (a % 6) = a % 6 := by unfold wrap64; omega
  rw [this]
  have e : wrap64 (1 + a % 6) = 1 + a % 6 := by unfold wrap64; omega
  rw [e]
  exact ⟨(1 + a % 6).toNat, by omega, by omega, by omega⟩
theorem prod_one {n : Nat} {a b : List Int} (h : ∀ i, i < n → ∀ j, j < n → mm n (ent n a) (ent n b) i j = idm i j) : prod n n n a b = cells n n idm := cells_congr h
theorem inverts_rest {n : Nat} {a b : List Int} (hv : Valid n n a) (h : IsInv n a b) : Ev (fun k => storagebarterlaw06_MatrixInverts.j0 k (n : Int) 0 false (n : Int) (n : Int) a (n : Int) (n : Int) b) true := by
  have hb := h.1
  have ei := identity_ev (n : Int)
  rw [identOf_ok hv.r0 hv.r1] at ei
  have e1 := product_ev hv hb
  have e2 := product_ev hb hv
  rw [prod_one h.2.1] at e1
  rw [prod_one h.2.2] at e2
  have e3 := inverse_good hb (isInv_rank h)
  rw [invOf_eq (isInv_back hv h)] at e3
  have s1 := same_ev (n : Int) (n : Int) (cells n n idm) (valid_len (cells_valid idm hv.r0 hv.r1 hv.c0 hv.c1))
  have s2 := same_ev (n : Int) (n : Int) a (valid_len hv)
  refine Ev.step (fun k => by simp only [storagebarterlaw06_MatrixInverts.j0, Bool.false_eq_true, if_false, if_true]; rfl) ?_
  refine Ev.bind ei ?_
  refine Ev.bind e1 ?_
  refine Ev.bind e2 ?_
  refine Ev.bind e3 ?_
  simp only [if_true]
  refine Ev.bind s1 ?_
  simp only [if_true]
  refine Ev.bind s1 ?_
  simp only [if_true]
  refine Ev.bind s2 ?_
  exact Ev.now _
theorem MatrixInverts : storagebarterlaw06_MatrixInverts.Pure := by
  intro l0 a1 _ _ _ h1
  have g1 : 0 ≤ a1 ∧ a1 ≤ 255 := by simpa [Lit.wf, IntKind.min, IntKind.max, IntKind.signed, IntKind.bits] using h1
  obtain ⟨n, en, n0, n6⟩ := size_arg g1
  have n16 : n ≤ 16 := by omega
  refine Ev.rounds ?_
  unfold storagebarterlaw06_MatrixInverts.f
  rw [en]
  refine Ev.bind sane_ok ?_
  simp only [if_true]
  unfold storagebartermake_Few.f
  simp only [Option.bind_some]
  by_cases hf : (l0.length : Int) ≤ 500
  · simp only [decide_eq_true hf, if_true]
    unfold storagebartermake_New.f
    simp only [Option.bind_some]
    obtain ⟨a, p1, ha, hp1, ea⟩ := made_ev (s := l0) (by omega) (p := 0) (by decide) n0 n16 n0 n16
    refine Ev.bind ea ?_
    obtain ⟨r, hr⟩ := exists_rank n n (ent n a)
    refine Ev.bind (rank_ev ha hr) ?_
    by_cases hrn : r = n
    · subst hrn
      have hi := isInv_exists ha hr
      refine Ev.bind (inverse_good ha hr) ?_
      have c : (((0 : Int) == 0) != ((r : Int) == (r : Int))) = false := by simp
      simp only [if_true, c, Bool.false_eq_true, if_false]
      exact inverts_rest ha hi
    · refine Ev.bind (inverse_none ha hr hrn) ?_
      have c : (((14 : Int) == 0) != ((r : Int) == (n : Int))) = false := by
        have : ((r : Int) == (n : Int)) = false := by rw [beq_eq_false_iff_ne]; omega
        rw [this]; rfl
      have c2 : ((14 : Int) != 14) = false := rfl
      have c3 : ¬ (14 : Int) = 0 := by decide
      simp only [if_true, c, c2, c3, Bool.false_eq_true, if_false]
      refine Ev.step (f := fun _ => some true) (fun k => ?_) (Ev.now _)
      simp only [storagebarterlaw06_MatrixInverts.j0, Bool.false_eq_true, if_false, c3]
  · simp only [decide_eq_false hf, Bool.false_eq_true, if_false]
    exact Ev.now _
end Go.Proofs.Ytbdbfnkjbbbmdaa.Pure
