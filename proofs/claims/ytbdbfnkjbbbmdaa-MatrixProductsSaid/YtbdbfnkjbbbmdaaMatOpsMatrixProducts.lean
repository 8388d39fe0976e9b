/- What make.Matrix, matrix.Product and matrix.Same answer at valid matrices, in the words of the plain texts. -/
import Derived.Test.YtbdbfnkjbbbmdaaPMatrixProductsx4
import Derived.Test.YtbdbfnkjbbbmdaaMatCheckMatrixProducts
import Derived.Test.YtbdbfnkjbbbmdaaMatMakeMatrixProducts
import Derived.Test.YtbdbfnkjbbbmdaaMatDeckMatrixProducts
namespace Go.Proofs.Ytbdbfnkjbbbmdaa.MatMatrixProducts
set_option linter.unusedSimpArgs false
set_option linter.unusedVariables false
open Go.RowKit Go.Proofs.Ytbdbfnkjbbbmdaa.PMatrixProducts Go.Proofs.YtbdbfnkjbbbmdaaW.PrintWords Go.Proofs.YtbdbfnkjbbbmdaaW.PrintLast Go.Proofs.Ytbdbfnkjbbbmdaa.Gf Go.Proofs.Ytbdbfnkjbbbmdaa.Lin Go.Proofs.Ytbdbfnkjbbbmdaa.MatData
theorem wrap_add {a b : Nat} (h : a + b ≤ 1000000) : wrap64 ((a : Int) + (b : Int)) = ((a + b : Nat) : Int) := by unfold wrap64; omega
theorem wrap_mul {a b : Nat} (h : a * b ≤ 1000000) : wrap64 ((a : Int) * (b : Int)) = ((a * b : Nat) : Int) := by
  have : (a : Int) * (b : Int) = ((a * b : Nat) : Int) := by simp
  rw [this]; unfold wrap64; omega
/-- make.Matrix draws elements. -/
theorem made_loop {s : List Int} (hs : s.length ≤ 500) (N : Nat) (hN : N ≤ 1000) (R C : Int) : ∀ d j : Nat, j + d = N → ∀ (p : Int) (l : List Int), 0 ≤ p → l.length = j → isEl l = true →
    ∃ l' p', 0 ≤ p' ∧ l'.length = N ∧ isEl l' = true ∧ Ev (fun k => storagebartermake_Matrix.l0 k (N : Int) (j : Int) s p R C l) (R, C, l', p') := by
  intro d
  induction d with
  | zero =>
    intro j hj p l hp hl he
    refine ⟨l, p, hp, by omega, he, Ev.step (f := fun _ => some _) (fun k => ?_) (Ev.now _)⟩
    simp only [storagebartermake_Matrix.l0]
    rw [if_neg (by omega)]
  | succ d ih =>
    intro j hj p l hp hl he
    have q1 : (j : Int) < (N : Int) := by omega
    have q2 : l.length < 17592186044416 := by omega
    have q3 : wrap64 ((j : Int) + 1) = ((j + 1 : Nat) : Int) := wrap_add (b := 1) (by omega)
    have q4 : j + 1 + d = N := by omega
    obtain ⟨t, p1, ht, t0, t1, hp1⟩ := next_ok (a := 16) hs hp (by decide) (by decide)
    have he2 : isEl (l ++ [t]) = true := by
      unfold isEl at he ⊢
      rw [List.all_append, he]
      simp
      exact ⟨t0, t1⟩
    obtain ⟨l', p', h1, h2, h3, h4⟩ := ih (j + 1) q4 p1 (l ++ [t]) hp1 (by rw [List.length_append, hl]; rfl) he2
    refine ⟨l', p', h1, h2, h3, Ev.step (fun k => ?_) h4⟩
    simp only [storagebartermake_Matrix.l0, ht, Option.bind_some]
    rw [if_pos q1, if_pos q2, q3]
theorem made_ev {s : List Int} (hs : s.length ≤ 500) {p : Int} (hp : 0 ≤ p) {R C : Nat} (r0 : 0 < R) (r1 : R ≤ 16) (c0 : 0 < C) (c1 : C ≤ 16) :
    ∃ l p', Valid R C l ∧ 0 ≤ p' ∧ Ev (fun k => storagebartermake_Matrix.f k s p (R : Int) (C : Int)) ((R : Int), (C : Int), l, p') := by
  have h := Nat.mul_le_mul r1 c1
  obtain ⟨l, p', h1, h2, h3, h4⟩ := made_loop hs (R * C) (by omega) (R : Int) (C : Int) (R * C) 0 (by omega) p [] hp rfl rfl
  refine ⟨l, p', ⟨r0, r1, c0, c1, h2, h3⟩, h1, ?_⟩
  unfold storagebartermake_Matrix.f
  rw [wrap_mul (by omega)]
  exact h4
/-- The product of two matrices, as a list. -/
def prod (R M C : Nat) (a b : List Int) : List Int := cells R C (mm M (ent M a) (ent C b))
section
variable {R M C : Nat} {a b : List Int} (ha : Valid R M a) (hb : Valid M C b)
include ha hb
theorem product_sum (i k : Nat) (hi : i < R) (hk : k < C) (l : List Int) (hl : l.length < 1000) (res : Int × Int × List Int × Int)
    (H : Ev (fun q => matrix_Product.l1 q (i : Int) (R : Int) (i : Int) (C : Int) ((k + 1 : Nat) : Int) (R : Int) (M : Int) a (M : Int) (C : Int) b (R : Int) (C : Int) (l ++ [((mm M (ent M a) (ent C b) i k).val : Int)])) res) :
    ∀ d j : Nat, j + d = M → Ev (fun q => matrix_Product.l2 q (i : Int) (k : Int) ((sum j (fun t => mul (ent M a i t) (ent C b t k))).val : Int) (R : Int) (i : Int) (C : Int) (k : Int) (M : Int) (j : Int) (R : Int) (M : Int) a (M : Int) (C : Int) b (R : Int) (C : Int) l) res := by
  intro d
  have hk16 : k + 1 ≤ 1000000 := by have := hb.c1; omega
  have w2 : wrap64 ((k : Int) + 1) = ((k + 1 : Nat) : Int) := wrap_add (b := 1) hk16
  induction d with
  | zero =>
    intro j hj
    obtain rfl : j = M := by omega
    refine Ev.step (fun q => ?_) H
    simp only [matrix_Product.l2, w2]
    rw [if_neg (by omega), if_pos (by omega)]
    rfl
  | succ d ih =>
    intro j hj
    have hjM : j < M := by omega
    have hd : j + 1 + d = M := by omega
    have i1 := index_lt (R := R) (C := M) hi hjM
    have i2 := index_lt (R := M) (C := C) hjM hk
    have p3 : i * M + j ≤ 1000000 := Nat.le_trans (Nat.le_of_lt i1) (Nat.le_trans (Nat.mul_le_mul ha.r1 ha.c1) (by decide))
    have p4 : j * C + k ≤ 1000000 := Nat.le_trans (Nat.le_of_lt i2) (Nat.le_trans (Nat.mul_le_mul hb.r1 hb.c1) (by decide))
    have p1 : i * M ≤ 1000000 := Nat.le_trans (Nat.le_add_right _ _) p3
    have p2 : j * C ≤ 1000000 := Nat.le_trans (Nat.le_add_right _ _) p4
    have p5 : j + 1 ≤ 1000000 := Nat.le_trans hjM (Nat.le_trans ha.c1 (by decide))
    have q1 : ((i * M + j : Nat) : Int) < (a.length : Int) := by rw [ha.len]; exact Int.ofNat_lt.2 i1
    have q2 : ((j * C + k : Nat) : Int) < (b.length : Int) := by rw [hb.len]; exact Int.ofNat_lt.2 i2
    have q3 : (j : Int) < (M : Int) := Int.ofNat_lt.2 hjM
    have e1 : rd a ((i * M + j : Nat) : Int) = ((ent M a i j).val : Int) := (el_val ha.els (by rw [ha.len]; exact i1)).symm
    have e2 : rd b ((j * C + k : Nat) : Int) = ((ent C b j k).val : Int) := (el_val hb.els (by rw [hb.len]; exact i2)).symm
    refine Ev.step (fun q => ?_) (Ev.bind (mul_ev (ent M a i j) (ent C b j k)) (f := fun q t => matrix_Product.l2 q (i : Int) (k : Int) (Go.bits .xor .i64 ((sum j (fun t => mul (ent M a i t) (ent C b t k))).val : Int) t) (R : Int) (i : Int) (C : Int) (k : Int) (M : Int) ((j + 1 : Nat) : Int) (R : Int) (M : Int) a (M : Int) (C : Int) b (R : Int) (C : Int) l) ?_)
    · simp only [matrix_Product.l2]
      rw [if_pos q3, wrap_mul p1, wrap_add p3, wrap_mul p2, wrap_add p4, if_pos (Int.natCast_nonneg _), if_pos q1, if_pos (Int.natCast_nonneg _), if_pos q2, e1, e2, show wrap64 ((j : Int) + 1) = ((j + 1 : Nat) : Int) from wrap_add (b := 1) p5]
    · simp only [xor_any]
      exact ih (j + 1) hd
theorem product_inner (i : Nat) (hi : i < R) (res : Int × Int × List Int × Int)
    (H : ∀ l, Tab l (i * C + C) (fun t => ((mm M (ent M a) (ent C b) (t / C) (t % C)).val : Int)) → Ev (fun q => matrix_Product.l0 q (R : Int) ((i + 1 : Nat) : Int) (R : Int) (M : Int) a (M : Int) (C : Int) b (R : Int) (C : Int) l) res) :
    ∀ d k : Nat, k + d = C → ∀ l, Tab l (i * C + k) (fun t => ((mm M (ent M a) (ent C b) (t / C) (t % C)).val : Int)) → Ev (fun q => matrix_Product.l1 q (i : Int) (R : Int) (i : Int) (C : Int) (k : Int) (R : Int) (M : Int) a (M : Int) (C : Int) b (R : Int) (C : Int) l) res := by
  intro d
  have hi16 : i + 1 ≤ 1000000 := by have := ha.r1; omega
  have w1 : wrap64 ((i : Int) + 1) = ((i + 1 : Nat) : Int) := wrap_add (b := 1) hi16
  induction d with
  | zero =>
    intro k hk l hl
    obtain rfl : k = C := by omega
    refine Ev.step (fun q => ?_) (H l hl)
    simp only [matrix_Product.l1, w1]
    rw [if_neg (by omega)]
  | succ d ih =>
    intro k hk l hl
    have hkC : k < C := by omega
    have hd : k + 1 + d = C := by omega
    have i1 := index_lt (R := R) (C := C) hi hkC
    have hll : l.length < 1000 := by
      rw [hl.1]
      exact Nat.lt_of_lt_of_le i1 (Nat.le_trans (Nat.mul_le_mul ha.r1 hb.c1) (by decide))
    have e1 : (i * C + k) / C = i := by rw [Nat.mul_comm, Nat.mul_add_div (by omega), Nat.div_eq_of_lt hkC]; rfl
    have e2 : (i * C + k) % C = k := by rw [Nat.mul_comm, Nat.mul_add_mod, Nat.mod_eq_of_lt hkC]
    have h1 := product_sum ha hb i k hi hkC l hll res (ih (k + 1) hd _ (hl.snoc (v := ((mm M (ent M a) (ent C b) i k).val : Int)) (by simp only [e1, e2]))) M 0 (by omega)
    refine Ev.step (fun q => ?_) h1
    simp only [matrix_Product.l1]
    rw [if_pos (Int.ofNat_lt.2 hkC)]
    rfl
theorem product_outer : ∀ d i : Nat, i + d = R → ∀ l, Tab l (i * C) (fun t => ((mm M (ent M a) (ent C b) (t / C) (t % C)).val : Int)) →
    Ev (fun q => matrix_Product.l0 q (R : Int) (i : Int) (R : Int) (M : Int) a (M : Int) (C : Int) b (R : Int) (C : Int) l) ((R : Int), (C : Int), prod R M C a b, 0) := by
  intro d
  induction d with
  | zero =>
    intro i hi l hl
    obtain rfl : i = R := by omega
    have e : l = prod i M C a b := Tab.eq hl (cells_tab i C (mm M (ent M a) (ent C b)))
    subst e
    refine Ev.step (f := fun _ => some _) (fun k => ?_) (Ev.now _)
    simp only [matrix_Product.l0]
    rw [if_neg (by omega)]
  | succ d ih =>
    intro i hi l hl
    have hiR : i < R := by omega
    have hd : i + 1 + d = R := by omega
    refine Ev.step (fun k => ?_) (product_inner ha hb i hiR _ (fun l' hl' => ih (i + 1) hd l' (by rwa [Nat.add_mul, Nat.one_mul])) C 0 (by omega) l hl)
    simp only [matrix_Product.l0]
    rw [if_pos (Int.ofNat_lt.2 hiR)]
    rfl
theorem product_ev : Ev (fun k => matrix_Product.f k (R : Int) (M : Int) a (M : Int) (C : Int) b) ((R : Int), (C : Int), prod R M C a b, 0) := by
  have k1 := matrix_Check_ev (R : Int) (M : Int) a (by have := Nat.mul_le_mul ha.r1 ha.c1; rw [ha.len]; omega)
  have k2 := matrix_Check_ev (M : Int) (C : Int) b (by have := Nat.mul_le_mul hb.r1 hb.c1; rw [hb.len]; omega)
  rw [chk_valid ha] at k1
  rw [chk_valid hb] at k2
  unfold matrix_Product.f
  refine Ev.bind k1 ?_
  simp only [if_true]
  refine Ev.bind k2 ?_
  simp only [if_true]
  exact product_outer ha hb R 0 (by omega) [] (by rw [Nat.zero_mul]; exact Tab.nil _)
theorem prod_valid : Valid R C (prod R M C a b) := cells_valid _ ha.r0 ha.r1 hb.c0 hb.c1
end
theorem ent_prod {R M C i j : Nat} (a b : List Int) (hi : i < R) (hj : j < C) : ent C (prod R M C a b) i j = mm M (ent M a) (ent C b) i j := ent_cells _ hi hj
theorem same_loop (l : List Int) (hl : l.length ≤ 1000) : ∀ d j : Nat, j + d = l.length → Ev (fun k => slices_Equal_int_int.l0 k l l (l.length : Int) (j : Int)) true := by
  intro d
  induction d with
  | zero =>
    intro j hj
    refine Ev.step (f := fun _ => some true) (fun k => ?_) (Ev.now _)
    simp only [slices_Equal_int_int.l0]
    rw [if_neg (by omega)]
  | succ d ih =>
    intro j hj
    have w : wrap64 ((j : Int) + 1) = ((j + 1 : Nat) : Int) := by unfold wrap64; omega
    refine Ev.step (fun k => ?_) (ih (j + 1) (by omega))
    simp only [slices_Equal_int_int.l0, w, if_true]
    rw [if_pos (by omega), if_pos (by omega), if_pos (by omega), if_pos (by omega)]
/-- Same at two equal matrices. -/
theorem same_ev (R C : Int) (l : List Int) (hl : l.length ≤ 1000) : Ev (fun k => matrix_Same.f k R C l R C l) true := by
  unfold matrix_Same.f
  simp only [if_true]
  refine Ev.bind ?_ (Ev.now _)
  unfold slices_Equal_int_int.f
  simp only [if_true]
  exact same_loop l hl l.length 0 (by omega)
theorem valid_len {R C : Nat} {l : List Int} (h : Valid R C l) : l.length ≤ 1000 := by
  rw [h.len]
  exact Nat.le_trans (Nat.mul_le_mul h.r1 h.c1) (by decide)
end Go.Proofs.Ytbdbfnkjbbbmdaa.MatMatrixProducts
