/- What matrix.Identity and matrix.Cauchy answer, in the words of the plain texts. -/
import Derived.Test.YtbdbfnkjbbbmdaaMatAnyMatrixDoes
import Derived.Test.YtbdbfnkjbbbmdaaMatTab
namespace Go.Proofs.Ytbdbfnkjbbbmdaa.MatMatrixDoes
set_option linter.unusedSimpArgs false
set_option linter.unusedVariables false
open Go.RowKit Go.Proofs.Ytbdbfnkjbbbmdaa.PMatrixDoes Go.Proofs.YtbdbfnkjbbbmdaaW.PrintWords Go.Proofs.YtbdbfnkjbbbmdaaW.PrintLast Go.Proofs.Ytbdbfnkjbbbmdaa.Gf Go.Proofs.Ytbdbfnkjbbbmdaa.Lin Go.Proofs.Ytbdbfnkjbbbmdaa.MatData
theorem inverse_ev (x : F) (h : x ≠ 0) : Ev (fun k => field_Inverse.f k (x.val : Int)) (((inv x).val : Int), 0) :=
  Ev.of (field_Inverse.mono _) ((by decide +kernel : ∀ x : F, x ≠ 0 → field_Inverse.f 20 x.val = some (((inv x).val : Int), 0)) x h)
theorem mul_ev (x y : F) : Ev (fun k => matrix_mul.f k (x.val : Int) (y.val : Int)) ((mul x y).val : Int) :=
  Ev.of (matrix_mul.mono _ _) ((by decide +kernel : ∀ x y : F, matrix_mul.f 6 x.val y.val = some ((mul x y).val : Int)) x y)
theorem xor_small {a b : Nat} (ha : a < 16) (hb : b < 16) : Go.bits .xor .i64 (a : Int) (b : Int) = ((add (toF (a : Int)) (toF (b : Int))).val : Int) := by
  have h := xor_any (toF (a : Int)) (toF (b : Int))
  rwa [val_toF (by omega), val_toF (by omega)] at h
/-- The cells of a Cauchy matrix, one behind the other. -/
def cauAt (r c t : Nat) : Int := ((cau r (t / c) (t % c)).val : Int)
theorem cauAt_eq {r c i j : Nat} (hj : j < c) : cauAt r c (i * c + j) = ((cau r i j).val : Int) := by
  unfold cauAt
  have c0 : 0 < c := by omega
  have e1 : (i * c + j) / c = i := by rw [Nat.mul_comm, Nat.mul_add_div c0, Nat.div_eq_of_lt hj]; omega
  have e2 : (i * c + j) % c = j := by rw [Nat.mul_comm, Nat.mul_add_mod, Nat.mod_eq_of_lt hj]
  rw [e1, e2]
theorem cauchy_inner (r c : Nat) (hrc : r + c ≤ 16) (i : Nat) (hi : i < r) (res : Int × Int × List Int × Int)
    (H : ∀ l, Tab l (i * c + c) (cauAt r c) → Ev (fun k => matrix_Cauchy.l0 k (r : Int) (c : Int) (r : Int) ((i + 1 : Nat) : Int) (r : Int) (c : Int) l) res) :
    ∀ d j : Nat, j + d = c → ∀ l, Tab l (i * c + j) (cauAt r c) → Ev (fun k => matrix_Cauchy.l1 k (r : Int) (c : Int) (i : Int) (r : Int) (i : Int) (c : Int) (j : Int) (r : Int) (c : Int) l) res := by
  intro d
  induction d with
  | zero =>
    intro j hj l hl
    obtain rfl : j = c := by omega
    have w : wrap64 ((i : Int) + 1) = ((i + 1 : Nat) : Int) := by unfold wrap64; omega
    refine Ev.step (fun k => ?_) (H l hl)
    simp only [matrix_Cauchy.l1, w]
    rw [if_neg (by omega)]
  | succ d ih =>
    intro j hj l hl
    have w1 : wrap64 ((r : Int) + (j : Int)) = ((r + j : Nat) : Int) := by unfold wrap64; omega
    have w2 : wrap64 ((j : Int) + 1) = ((j + 1 : Nat) : Int) := by unfold wrap64; omega
    have ne : add (toF (i : Int)) (toF ((r + j : Nat) : Int)) ≠ 0 := by
      rw [Ne, add_eq_zero]
      exact toF_ne (by omega) (by omega) (by omega)
    have hlen : l.length < 17592186044416 := by
      rw [hl.1]
      have := Nat.mul_le_mul (show i ≤ 16 by omega) (show c ≤ 16 by omega)
      omega
    refine Ev.step (fun k => ?_) (Ev.bind (inverse_ev _ ne) (f := fun k bt => if l.length < 17592186044416 then matrix_Cauchy.l1 k (r : Int) (c : Int) (i : Int) (r : Int) (i : Int) (c : Int) ((j + 1 : Nat) : Int) (r : Int) (c : Int) (l ++ [bt.1]) else none) ?_)
    · simp only [matrix_Cauchy.l1, w1, w2]
      rw [if_pos (by omega), xor_small (by omega) (by omega)]
    · simp only [if_pos hlen]
      refine ih (j + 1) (by omega) _ ?_
      have := hl.snoc (v := ((inv (add (toF (i : Int)) (toF ((r + j : Nat) : Int)))).val : Int)) (by rw [cauAt_eq (by omega)]; rfl)
      exact this
theorem cauchy_outer (r c : Nat) (hrc : r + c ≤ 16) : ∀ d i : Nat, i + d = r → ∀ l, Tab l (i * c) (cauAt r c) →
    Ev (fun k => matrix_Cauchy.l0 k (r : Int) (c : Int) (r : Int) (i : Int) (r : Int) (c : Int) l) ((r : Int), (c : Int), cells r c (cau r), 0) := by
  intro d
  induction d with
  | zero =>
    intro i hi l hl
    obtain rfl : i = r := by omega
    have e : l = cells i c (cau i) := Tab.eq hl (cells_tab i c (cau i))
    subst e
    refine Ev.step (f := fun _ => some _) (fun k => ?_) (Ev.now _)
    simp only [matrix_Cauchy.l0]
    rw [if_neg (by omega)]
  | succ d ih =>
    intro i hi l hl
    refine Ev.step (fun k => ?_) (cauchy_inner r c hrc i (by omega) _ (fun l' hl' => ih (i + 1) (by omega) l' (by rwa [Nat.add_mul, Nat.one_mul])) c 0 (by omega) l hl)
    simp only [matrix_Cauchy.l0]
    rw [if_pos (by omega)]
    rfl
/-- What Cauchy answers. -/
def cauchyOf (r c : Int) : Int × Int × List Int × Int := if r < 1 ∨ c < 1 ∨ r + c > 16 then (0, 0, [], 1) else (r, c, cells r.toNat c.toNat (cau r.toNat), 0)
theorem cauchyOf_ok {r c : Nat} (r0 : 0 < r) (c0 : 0 < c) (h : r + c ≤ 16) : cauchyOf r c = ((r : Int), (c : Int), cells r c (cau r), 0) := by
  unfold cauchyOf
  rw [if_neg (by omega)]
  simp
theorem cauchy_ev (r c : Int) : Ev (fun k => matrix_Cauchy.f k r c) (cauchyOf r c) := by
  have bad : (r < 1 ∨ c < 1 ∨ r + c > 16) → ∀ b, b = true → Ev (fun k => matrix_Cauchy.j0 k r c b) (cauchyOf r c) := by
    intro h b hb
    subst hb
    unfold cauchyOf
    rw [if_pos h]
    exact Ev.step (f := fun _ => some _) (fun k => by simp only [matrix_Cauchy.j0, if_true]) (Ev.now _)
  unfold matrix_Cauchy.f
  by_cases h1 : r < 1
  · simp only [if_pos h1]; exact bad (.inl h1) _ rfl
  · simp only [if_neg h1]
    by_cases h2 : c < 1
    · simp only [if_pos h2]; exact bad (.inr (.inl h2)) _ rfl
    · simp only [if_neg h2]
      by_cases h3 : r > 16
      · simp only [if_pos h3]; exact bad (.inr (.inr (by omega))) _ rfl
      · simp only [if_neg h3]
        by_cases h4 : c > 16
        · simp only [if_pos h4]; exact bad (.inr (.inr (by omega))) _ rfl
        · simp only [if_neg h4]
          have w : wrap64 (r + c) = r + c := wrap_id (by omega) (by omega)
          rw [w]
          by_cases h5 : r + c > 16
          · exact bad (.inr (.inr h5)) _ (decide_eq_true h5)
          · rw [decide_eq_false h5]
            obtain ⟨r, rfl⟩ : ∃ n : Nat, r = n := ⟨r.toNat, by omega⟩
            obtain ⟨c, rfl⟩ : ∃ n : Nat, c = n := ⟨c.toNat, by omega⟩
            rw [cauchyOf_ok (by omega) (by omega) (by omega)]
            refine Ev.step (fun k => ?_) (cauchy_outer r c (by omega) r 0 (by omega) [] (by rw [Nat.zero_mul]; exact Tab.nil _))
            simp only [matrix_Cauchy.j0, Bool.false_eq_true, if_false]
            rfl
/-- What Identity answers. -/
def identOf (n : Int) : Int × Int × List Int × Int := if n < 1 ∨ n > 16 then (0, 0, [], 1) else (n, n, cells n.toNat n.toNat idm, 0)
theorem identOf_ok {n : Nat} (h0 : 0 < n) (h1 : n ≤ 16) : identOf n = ((n : Int), (n : Int), cells n n idm, 0) := by
  unfold identOf
  rw [if_neg (by omega)]
  simp
theorem identity_ev (n : Int) : Ev (fun k => matrix_Identity.f k n) (identOf n) := by
  by_cases h : n < 1 ∨ n > 16
  · unfold identOf
    rw [if_pos h]
    unfold matrix_Identity.f
    by_cases h1 : n < 1
    · simp only [if_pos h1]
      exact Ev.step (f := fun _ => some _) (fun k => by simp only [matrix_Identity.j0, if_true]) (Ev.now _)
    · simp only [if_neg h1]
      rw [decide_eq_true (show n > 16 by omega)]
      exact Ev.step (f := fun _ => some _) (fun k => by simp only [matrix_Identity.j0, if_true]) (Ev.now _)
  · obtain ⟨m, rfl⟩ : ∃ m : Nat, n = m := ⟨n.toNat, by omega⟩
    have := (by decide +kernel : ∀ m : Fin 17, m.val ≠ 0 → matrix_Identity.f 30 (m.val : Int) = some (identOf (m.val : Int))) ⟨m, by omega⟩ (by show m ≠ 0; omega)
    exact Ev.of (matrix_Identity.mono _) this
end Go.Proofs.Ytbdbfnkjbbbmdaa.MatMatrixDoes
