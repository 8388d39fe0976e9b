/- Every square part of a Cauchy matrix has an inverse: what the printed law answers is true. No condition. -/
import Derived.Test.YtbdbfnkjbbbmdaaMatSaneMatrixSquares
import Derived.Test.YtbdbfnkjbbbmdaaMatDrawMatrixSquares
import Derived.Test.YtbdbfnkjbbbmdaaMatInvMatrixSquares
import Derived.Test.YtbdbfnkjbbbmdaaRanks
namespace Go.Proofs.Ytbdbfnkjbbbmdaa.Pure
set_option linter.unusedSimpArgs false
set_option linter.unusedVariables false
open Go.RowKit Go.Proofs.Ytbdbfnkjbbbmdaa.PMatrixSquares Go.Proofs.YtbdbfnkjbbbmdaaW.PrintWords Go.Proofs.YtbdbfnkjbbbmdaaW.PrintLast Go.Proofs.Ytbdbfnkjbbbmdaa.Gf Go.Proofs.Ytbdbfnkjbbbmdaa.Lin Go.Proofs.Ytbdbfnkjbbbmdaa.MatData Go.Proofs.Ytbdbfnkjbbbmdaa.MatMatrixSquares
theorem inverse_good {n : Nat} {l : List Int} (hv : Valid n n l) (hr : IsRank n n (ent n l) n) : Ev (fun k => matrix_Inverse.f k (n : Int) (n : Int) l) ((n : Int), (n : Int), invOf n l, 0) := by
  have e : ∀ k, matrix_Inverse.f k (n : Int) (n : Int) l = some ((n : Int), (n : Int), invOf n l, 0) := by
    intro k
    unfold matrix_Inverse.f
    have := Nat.mul_le_mul hv.r1 hv.c1
    rw [if_pos (by rw [hv.len]; omega), if_pos (chk_valid hv), if_pos rfl, Int.toNat_natCast, if_pos (rankOf_eq hr)]
  exact Ev.congr e (Ev.now _)
theorem wrap_add {a b : Nat} (h : a + b ≤ 1000000) : wrap64 ((a : Int) + (b : Int)) = ((a + b : Nat) : Int) := by unfold wrap64; omega
theorem wrap_mul {a b : Nat} (h : a * b ≤ 1000000) : wrap64 ((a : Int) * (b : Int)) = ((a * b : Nat) : Int) := by
  have : (a : Int) * (b : Int) = ((a * b : Nat) : Int) := by simp
  rw [this]; unfold wrap64; omega
def picked (n : Nat) (σ : Nat → Nat) : List Int := (List.range n).map (fun i => ((σ i : Nat) : Int))
theorem picked_rd {n i : Nat} (σ : Nat → Nat) (hi : i < n) : rd (picked n σ) (i : Int) = ((σ i : Nat) : Int) := by
  show (picked n σ).getD i 0 = _
  simp [picked, List.getD_eq_getElem?_getD, hi]
theorem picked_len (n : Nat) (σ : Nat → Nat) : (picked n σ).length = n := by simp [picked]
section
variable (r c n : Nat) (hr : r ≤ 8) (hc : c ≤ 8) (hnr : n ≤ r) (hnc : n ≤ c) (σ τ : Nat → Nat) (hs : ∀ i, i < n → σ i < r) (ht : ∀ i, i < n → τ i < c)
/-- The elements of the part, one behind the other. -/
def partAt (t : Nat) : Int := ((cau r (σ (t / n)) (τ (t % n))).val : Int)
theorem partAt_eq {i j : Nat} (hj : j < n) : partAt r n σ τ (i * n + j) = ((cau r (σ i) (τ j)).val : Int) := by
  unfold partAt
  have e1 : (i * n + j) / n = i := by rw [Nat.mul_comm, Nat.mul_add_div (by omega), Nat.div_eq_of_lt hj]; omega
  have e2 : (i * n + j) % n = j := by rw [Nat.mul_comm, Nat.mul_add_mod, Nat.mod_eq_of_lt hj]
  rw [e1, e2]
include hr hc hnr hnc hs ht
theorem squares_inner (i : Nat) (hi : i < n) (H : ∀ l, Tab l (i * n + n) (partAt r n σ τ) → Ev (fun k => storagebarterlaw06_MatrixSquares.l0 k (c : Int) (picked n τ) (picked n σ) (n : Int) ((i + 1 : Nat) : Int) (r : Int) (c : Int) (cells r c (cau r)) (n : Int) (n : Int) l) true) :
    ∀ d j : Nat, j + d = n → ∀ l, Tab l (i * n + j) (partAt r n σ τ) → Ev (fun k => storagebarterlaw06_MatrixSquares.l1 k (c : Int) (picked n τ) ((σ i : Nat) : Int) (picked n σ) (n : Int) (i : Int) (picked n τ) (n : Int) (j : Int) (r : Int) (c : Int) (cells r c (cau r)) (n : Int) (n : Int) l) true := by
  intro d
  induction d with
  | zero =>
    intro j hj l hl
    obtain rfl : j = n := by omega
    have w : wrap64 ((i : Int) + 1) = ((i + 1 : Nat) : Int) := by unfold wrap64; omega
    refine Ev.step (fun k => ?_) (H l hl)
    simp only [storagebarterlaw06_MatrixSquares.l1, w]
    rw [if_neg (by omega)]
  | succ d ih =>
    intro j hj l hl
    have hjn : j < n := by omega
    have hj8 : j ≤ 8 := by omega
    have hj2 : j + 1 + d = n := by omega
    have hi8 : i ≤ 8 := by omega
    have hn8 : n ≤ 8 := by omega
    have hsi := hs i hi
    have hs8 : σ i ≤ 8 := by omega
    have htj := ht j hjn
    have ht8 : τ j ≤ 8 := by omega
    have q1 : (j : Int) < (n : Int) := Int.ofNat_lt.2 hjn
    have q2 : (0 : Int) ≤ (j : Int) := Int.natCast_nonneg j
    have w0 : wrap64 (((σ i : Nat) : Int) * (c : Int)) = ((σ i * c : Nat) : Int) := wrap_mul (Nat.le_trans (Nat.mul_le_mul hs8 hc) (by decide))
    have w1 : wrap64 (((σ i * c : Nat) : Int) + ((τ j : Nat) : Int)) = ((σ i * c + τ j : Nat) : Int) := wrap_add (Nat.le_trans (Nat.add_le_add (Nat.mul_le_mul hs8 hc) ht8) (by decide))
    have w2 : wrap64 ((j : Int) + 1) = ((j + 1 : Nat) : Int) := wrap_add (b := 1) (Nat.le_trans (Nat.add_le_add_right hj8 1) (by decide))
    have hlen : (cells r c (cau r)).length = r * c := (cells_tab r c (cau r)).1
    have hix := index_lt (R := r) (C := c) hsi htj
    have e : rd (cells r c (cau r)) ((σ i * c + τ j : Nat) : Int) = ((cau r (σ i) (τ j)).val : Int) := by
      show (cells r c (cau r)).getD (σ i * c + τ j) 0 = _
      rw [(cells_tab r c (cau r)).2 _ hix]
      exact cauAt_eq htj
    have q3 : (0 : Int) ≤ ((σ i * c + τ j : Nat) : Int) := Int.natCast_nonneg _
    have q4 : ((σ i * c + τ j : Nat) : Int) < ((cells r c (cau r)).length : Int) := by rw [hlen]; exact Int.ofNat_lt.2 hix
    have hll : l.length < 17592186044416 := by rw [hl.1]; exact Nat.lt_of_le_of_lt (Nat.add_le_add (Nat.mul_le_mul hi8 hn8) hj8) (by decide)
    refine Ev.step (fun k => ?_) (ih (j + 1) hj2 (l ++ [((cau r (σ i) (τ j)).val : Int)]) (hl.snoc (partAt_eq r n σ τ hjn).symm))
    simp only [storagebarterlaw06_MatrixSquares.l1, picked_len]
    rw [if_pos q1, if_pos q2, if_pos q1, picked_rd τ hjn, w0, w1, w2, if_pos q3, if_pos q4, if_pos hll, e]
theorem squares_outer (is : ∀ i, i < n → ∀ j, j < n → i ≠ j → σ i ≠ σ j) (it : ∀ i, i < n → ∀ j, j < n → i ≠ j → τ i ≠ τ j) (n0 : 0 < n) : ∀ d i : Nat, i + d = n → ∀ l, Tab l (i * n) (partAt r n σ τ) →
    Ev (fun k => storagebarterlaw06_MatrixSquares.l0 k (c : Int) (picked n τ) (picked n σ) (n : Int) (i : Int) (r : Int) (c : Int) (cells r c (cau r)) (n : Int) (n : Int) l) true := by
  intro d
  induction d with
  | zero =>
    intro i hi l hl
    obtain rfl : i = n := by omega
    have e : l = cells i i (fun a b => cau r (σ a) (τ b)) := Tab.eq hl (cells_tab i i (fun a b => cau r (σ a) (τ b)))
    subst e
    have hv := cells_valid (R := i) (C := i) (fun a b => cau r (σ a) (τ b)) n0 (by omega) n0 (by omega)
    have hrk := (rank_cau (r := r) (c := c) (by omega) σ τ hs ht is it).congr (fun a ha b hb => ent_cells (fun a b => cau r (σ a) (τ b)) ha hb)
    refine Ev.step (fun k => ?_) (Ev.bind (inverse_good hv hrk) (f := fun k bt => some (bt.2.2.2 == 0)) (Ev.now _))
    simp only [storagebarterlaw06_MatrixSquares.l0]
    rw [if_neg (by omega)]
  | succ d ih =>
    intro i hi l hl
    refine Ev.step (fun k => ?_) (squares_inner r c n hr hc hnr hnc σ τ hs ht i (by omega) (fun l' hl' => ih (i + 1) (by omega) l' (by rwa [Nat.add_mul, Nat.one_mul])) n 0 (by omega) l hl)
    simp only [storagebarterlaw06_MatrixSquares.l0, picked_len]
    rw [if_pos (by omega), if_pos (by omega), if_pos (by omega), picked_rd σ (by omega)]
    rfl
end
theorem size_arg {a : Int} (h : 0 ≤ a ∧ a ≤ 255) : ∃ r : Nat, wrap64 (1 + (wrap64 (Int.tmod a 8))) = (r : Int) ∧ 0 < r ∧ r ≤ 8 := by
  rw [Int.tmod_eq_emod_of_nonneg h.1]
  have : wrap64 (a % 8) = a % 8 := by unfold wrap64; omega
  rw [this]
  have e : wrap64 (1 + a % 8) = 1 + a % 8 := by unfold wrap64; omega
  rw [e]
  exact ⟨(1 + a % 8).toNat, by omega, by omega, by omega⟩
theorem MatrixSquares : storagebarterlaw06_MatrixSquares.Pure := by
  intro l0 a0 a1 _ _ _ h0 h1
  have g0 : 0 ≤ a0 ∧ a0 ≤ 255 := by simpa [Lit.wf, IntKind.min, IntKind.max, IntKind.signed, IntKind.bits] using h0
  have g1 : 0 ≤ a1 ∧ a1 ≤ 255 := by simpa [Lit.wf, IntKind.min, IntKind.max, IntKind.signed, IntKind.bits] using h1
  obtain ⟨r, er, r0, r1⟩ := size_arg g0
  obtain ⟨c, ec, c0, c1⟩ := size_arg g1
  refine Ev.rounds ?_
  unfold storagebarterlaw06_MatrixSquares.f
  rw [er, ec]
  refine Ev.bind sane_ok ?_
  simp only [if_true]
  unfold storagebartermake_Few.f
  simp only [Option.bind_some]
  by_cases hf : (l0.length : Int) ≤ 500
  · simp only [decide_eq_true hf, if_true]
    unfold storagebartermake_New.f
    simp only [Option.bind_some]
    have hc := cauchy_ev (r : Int) (c : Int)
    rw [cauchyOf_ok r0 c0 (by omega)] at hc
    refine Ev.bind hc ?_
    simp only [if_true]
    have hrc : r * c ≤ 64 := Nat.mul_le_mul r1 c1
    have w : wrap64 ((r : Int) * (c : Int)) = ((r * c : Nat) : Int) := by
      have : (r : Int) * (c : Int) = ((r * c : Nat) : Int) := by simp
      rw [this]; unfold wrap64; omega
    have e : ((((cells r c (cau r)).length : Nat) : Int) != wrap64 ((r : Int) * (c : Int))) = false := by
      rw [bne_eq_false_iff_eq, w, (cells_tab r c (cau r)).1]
    rw [e]
    have hm : mn (r : Int) (c : Int) = ((min r c : Nat) : Int) := by unfold mn; split <;> omega
    obtain ⟨t, p1, e1, t0, t1, hp1⟩ := next_ok (s := l0) (p := 0) (a := mn (r : Int) (c : Int)) (by omega) (by omega) (by rw [hm]; omega) (by rw [hm]; omega)
    rw [hm] at t1
    obtain ⟨n, hn⟩ : ∃ n : Nat, wrap64 (1 + t) = (n : Int) ∧ 0 < n ∧ n ≤ r ∧ n ≤ c := ⟨(1 + t).toNat, by unfold wrap64; omega, by omega, by omega, by omega⟩
    obtain ⟨σ, p2, e2, hp2, hs, is⟩ := pick_ok (s := l0) (p := p1) (L := r) (n := n) (by omega) hp1 (by omega) hn.2.2.1
    obtain ⟨τ, p3, e3, hp3, ht, it⟩ := pick_ok (s := l0) (p := p2) (L := c) (n := n) (by omega) hp2 (by omega) hn.2.2.2
    refine Ev.step (fun k => ?_) (squares_outer r c n r1 c1 hn.2.2.1 hn.2.2.2 σ τ hs ht is it hn.2.1 n 0 (by omega) [] (by rw [Nat.zero_mul]; exact Tab.nil _))
    simp only [storagebarterlaw06_MatrixSquares.j0, Bool.false_eq_true, if_false]
    rw [e1]
    simp only [Option.bind_some, hn.1, e2, e3]
    show storagebarterlaw06_MatrixSquares.l0 k (c : Int) (picked n τ) (picked n σ) ((picked n σ).length : Int) 0 _ _ _ _ _ _ = _
    rw [picked_len]
    rfl
  · simp only [decide_eq_false hf, Bool.false_eq_true, if_false]
    exact Ev.now _
end Go.Proofs.Ytbdbfnkjbbbmdaa.Pure
