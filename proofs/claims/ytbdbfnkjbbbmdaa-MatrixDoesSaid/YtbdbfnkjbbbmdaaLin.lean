/- Sums, products of matrices, dependence, ranks and row operations over the field of 16 elements, in plain Lean. -/
import Derived.Test.YtbdbfnkjbbbmdaaGf
namespace Go.Proofs.Ytbdbfnkjbbbmdaa.Lin
open Go.Proofs.Ytbdbfnkjbbbmdaa.Gf
instance : Std.Associative (α := F) add := ⟨add_assoc⟩
instance : Std.Commutative (α := F) add := ⟨add_comm⟩
instance : Std.Associative (α := F) mul := ⟨mul_assoc⟩
instance : Std.Commutative (α := F) mul := ⟨mul_comm⟩
/-- The sum of f below n. -/
def sum : Nat → (Nat → F) → F
  | 0, _ => 0
  | n + 1, f => add (sum n f) (f n)
theorem sum_congr {n : Nat} {f g : Nat → F} (h : ∀ i, i < n → f i = g i) : sum n f = sum n g := by
  induction n with
  | zero => rfl
  | succ n ih => simp only [sum]; rw [ih (fun i hi => h i (by omega)), h n (by omega)]
theorem sum_zero {n : Nat} {f : Nat → F} (h : ∀ i, i < n → f i = 0) : sum n f = 0 := by
  induction n with
  | zero => rfl
  | succ n ih => simp only [sum]; rw [ih (fun i hi => h i (by omega)), h n (by omega), add_zero]
theorem sum_add (n : Nat) (f g : Nat → F) : sum n (fun i => add (f i) (g i)) = add (sum n f) (sum n g) := by
  induction n with
  | zero => exact (add_zero 0).symm
  | succ n ih => simp only [sum]; rw [ih]; ac_rfl
theorem mul_sum (n : Nat) (c : F) (f : Nat → F) : mul c (sum n f) = sum n (fun i => mul c (f i)) := by
  induction n with
  | zero => exact mul_zero c
  | succ n ih => simp only [sum]; rw [mul_add, ih]
theorem sum_mul (n : Nat) (c : F) (f : Nat → F) : mul (sum n f) c = sum n (fun i => mul (f i) c) := by
  rw [mul_comm, mul_sum]; exact sum_congr fun i _ => mul_comm _ _
theorem sum_comm (n m : Nat) (f : Nat → Nat → F) : sum n (fun i => sum m (fun j => f i j)) = sum m (fun j => sum n (fun i => f i j)) := by
  induction n with
  | zero => simp only [sum]; exact (sum_zero fun _ _ => rfl).symm
  | succ n ih => simp only [sum]; rw [ih, ← sum_add]
theorem sum_single {n p : Nat} {f : Nat → F} (hp : p < n) (h : ∀ i, i < n → i ≠ p → f i = 0) : sum n f = f p := by
  induction n with
  | zero => omega
  | succ n ih =>
    simp only [sum]
    by_cases e : p = n
    · subst e
      rw [sum_zero fun i hi => h i (by omega) (by omega), zero_add]
    · rw [ih (by omega) fun i hi hn => h i (by omega) hn, h n (by omega) (by omega), add_zero]
def skip (p j : Nat) : Nat := if j < p then j else j + 1
theorem sum_skip (f : Nat → F) : ∀ n p : Nat, p < n + 1 → sum (n + 1) f = add (f p) (sum n (fun j => f (skip p j))) := by
  intro n
  induction n with
  | zero =>
    intro p hp
    obtain rfl : p = 0 := by omega
    simp only [sum]; rw [add_zero, zero_add]
  | succ n ih =>
    intro p hp
    by_cases e : p = n + 1
    · subst e
      rw [sum, add_comm]
      congr 1
      refine sum_congr fun i hi => ?_
      unfold skip; rw [if_pos hi]
    · rw [sum, ih p (by omega)]
      conv => rhs; rw [sum]
      have : f (skip p n) = f (n + 1) := by unfold skip; rw [if_neg (by omega)]
      rw [this]; ac_rfl
def idm (i j : Nat) : F := if i = j then 1 else 0
theorem idm_self (i : Nat) : idm i i = 1 := if_pos rfl
theorem idm_ne {i j : Nat} (h : i ≠ j) : idm i j = 0 := if_neg h
theorem idm_comm (i j : Nat) : idm i j = idm j i := by
  unfold idm
  by_cases h : i = j
  · rw [if_pos h, if_pos h.symm]
  · rw [if_neg h, if_neg (Ne.symm h)]
theorem sum_idm {n i : Nat} (f : Nat → F) (h : i < n) : sum n (fun k => mul (idm i k) (f k)) = f i := by
  rw [sum_single h fun k _ hk => by rw [idm_ne (Ne.symm hk), zero_mul], idm_self, one_mul]
theorem sum_idm' {n j : Nat} (f : Nat → F) (h : j < n) : sum n (fun k => mul (f k) (idm k j)) = f j := by
  rw [sum_single h fun k _ hk => by rw [idm_ne hk, mul_zero], idm_self, mul_one]
/-- The product of matrices with p columns and p rows. -/
def mm (p : Nat) (A B : Nat → Nat → F) (i j : Nat) : F := sum p (fun k => mul (A i k) (B k j))
theorem mm_assoc (p q : Nat) (A B C : Nat → Nat → F) (i j : Nat) : mm q (mm p A B) C i j = mm p A (mm q B C) i j := by
  unfold mm
  simp only [sum_mul, mul_sum]
  rw [sum_comm]
  exact sum_congr fun k _ => sum_congr fun l _ => mul_assoc _ _ _
theorem mm_congr {p i j : Nat} {A B A' B' : Nat → Nat → F} (hA : ∀ k, k < p → A i k = A' i k) (hB : ∀ k, k < p → B k j = B' k j) : mm p A B i j = mm p A' B' i j :=
  sum_congr fun k hk => by rw [hA k hk, hB k hk]
theorem mm_id {p i j : Nat} (A : Nat → Nat → F) (h : i < p) : mm p idm A i j = A i j := sum_idm (fun k => A k j) h
theorem mm_id' {p i j : Nat} (A : Nat → Nat → F) (h : j < p) : mm p A idm i j = A i j := sum_idm' (fun k => A i k) h
/-- More vectors than coordinates depend on each other. -/
theorem dep : ∀ (s r : Nat) (v : Nat → Nat → F), s < r → ∃ c : Nat → F, (∃ j, j < r ∧ c j ≠ 0) ∧ ∀ i, i < s → sum r (fun j => mul (c j) (v j i)) = 0 := by
  intro s
  induction s with
  | zero =>
    intro r v h
    exact ⟨fun _ => 1, ⟨0, h, by decide⟩, fun i hi => by omega⟩
  | succ s ih =>
    intro r v h
    by_cases hz : ∀ j, j < r → v j s = 0
    · obtain ⟨c, hc, h0⟩ := ih r v (by omega)
      refine ⟨c, hc, fun i hi => ?_⟩
      by_cases e : i = s
      · subst e
        exact sum_zero fun j hj => by rw [hz j hj, mul_zero]
      · exact h0 i (by omega)
    · have : ∃ p, p < r ∧ v p s ≠ 0 := by
        refine Classical.byContradiction fun hn => hz fun j hj => ?_
        exact Classical.byContradiction fun hv => hn ⟨j, hj, hv⟩
      obtain ⟨p, hp, hv⟩ := this
      obtain ⟨n, rfl⟩ : ∃ n, r = n + 1 := ⟨r - 1, by omega⟩
      let t : Nat → F := fun j => mul (v j s) (inv (v p s))
      obtain ⟨c, ⟨j0, hj0, hc0⟩, h0⟩ := ih n (fun j i => add (v (skip p j) i) (mul (t (skip p j)) (v p i))) (by omega)
      let u : Nat → Nat := fun j => if j < p then j else j - 1
      have us : ∀ j, u (skip p j) = j := by
        intro j
        show (if skip p j < p then skip p j else skip p j - 1) = j
        unfold skip
        by_cases hj : j < p
        · rw [if_pos hj, if_pos hj]
        · rw [if_neg hj, if_neg (by omega)]; omega
      have sp : ∀ j, skip p j ≠ p := by
        intro j
        unfold skip
        by_cases hj : j < p
        · rw [if_pos hj]; omega
        · rw [if_neg hj]; omega
      have key : ∀ i, sum (n + 1) (fun j => mul (if j = p then sum n (fun j => mul (c j) (t (skip p j))) else c (u j)) (v j i)) = sum n (fun j => mul (c j) (add (v (skip p j) i) (mul (t (skip p j)) (v p i)))) := by
        intro i
        rw [sum_skip _ n p hp, if_pos rfl, sum_mul]
        have e1 : ∀ j, (if skip p j = p then sum n (fun j => mul (c j) (t (skip p j))) else c (u (skip p j))) = c j := by
          intro j; rw [if_neg (sp j), us]
        simp only [e1]
        rw [← sum_add]
        refine sum_congr fun j _ => ?_
        rw [mul_add, mul_assoc, add_comm]
      refine ⟨fun j => if j = p then sum n (fun j => mul (c j) (t (skip p j))) else c (u j), ⟨skip p j0, ?_, ?_⟩, fun i hi => ?_⟩
      · unfold skip
        by_cases hj : j0 < p
        · rw [if_pos hj]; omega
        · rw [if_neg hj]; omega
      · show (if skip p j0 = p then _ else c (u (skip p j0))) ≠ 0
        rw [if_neg (sp j0), us]
        exact hc0
      · rw [key]
        by_cases e : i = s
        · subst e
          refine sum_zero fun j _ => ?_
          have : mul (t (skip p j)) (v p i) = v (skip p j) i := by
            show mul (mul (v (skip p j) i) (inv (v p i))) (v p i) = v (skip p j) i
            rw [mul_assoc, inv_mul _ hv, mul_one]
          rw [this, add_self, mul_zero]
        · exact h0 i (by omega)
/-- M (R rows, C columns) is a product through r. -/
def Fact (R C : Nat) (M : Nat → Nat → F) (r : Nat) : Prop := ∃ A B : Nat → Nat → F, ∀ i, i < R → ∀ j, j < C → M i j = mm r A B i j
/-- An identity of r rows is reached from M from both sides. -/
def Piv (R C : Nat) (M : Nat → Nat → F) (r : Nat) : Prop := ∃ L Q : Nat → Nat → F, ∀ i, i < r → ∀ j, j < r → mm R L (mm C M Q) i j = idm i j
theorem piv_le {R C r s : Nat} {M : Nat → Nat → F} (hp : Piv R C M r) (hf : Fact R C M s) : r ≤ s := by
  refine Classical.byContradiction fun hlt => ?_
  obtain ⟨L, Q, h⟩ := hp
  obtain ⟨A, B, hm⟩ := hf
  obtain ⟨c, ⟨j0, hj0, hc⟩, h0⟩ := dep s r (fun j k => mm C B Q k j) (by omega)
  have e : ∀ i, i < r → ∀ j, j < r → idm i j = mm s (mm R L A) (mm C B Q) i j := by
    intro i hi j hj
    rw [← h i hi j hj, mm_assoc]
    refine mm_congr (fun _ _ => rfl) fun a ha => ?_
    rw [← mm_assoc]
    exact mm_congr (fun b hb => hm a ha b hb) fun _ _ => rfl
  apply hc
  rw [← sum_idm c hj0]
  have : sum r (fun j => mul (idm j0 j) (c j)) = sum r (fun j => sum s (fun k => mul (mm R L A j0 k) (mul (c j) (mm C B Q k j)))) := by
    refine sum_congr fun j hj => ?_
    rw [e j0 hj0 j hj]
    show mul (sum s _) _ = _
    rw [sum_mul]
    refine sum_congr fun k _ => ?_
    rw [mul_assoc, mul_comm (mm C B Q k j)]
  rw [this, sum_comm]
  refine sum_zero fun k hk => ?_
  rw [← mul_sum, h0 k hk, mul_zero]
/-- r is the rank of M. -/
def IsRank (R C : Nat) (M : Nat → Nat → F) (r : Nat) : Prop := Fact R C M r ∧ Piv R C M r
theorem IsRank.unique {R C r s : Nat} {M : Nat → Nat → F} (h : IsRank R C M r) (k : IsRank R C M s) : r = s :=
  Nat.le_antisymm (piv_le h.2 k.1) (piv_le k.2 h.1)
theorem Fact.congr {R C r : Nat} {M N : Nat → Nat → F} (h : Fact R C M r) (e : ∀ i, i < R → ∀ j, j < C → N i j = M i j) : Fact R C N r := by
  obtain ⟨A, B, h⟩ := h
  exact ⟨A, B, fun i hi j hj => (e i hi j hj).trans (h i hi j hj)⟩
theorem Piv.congr {R C r : Nat} {M N : Nat → Nat → F} (h : Piv R C M r) (e : ∀ i, i < R → ∀ j, j < C → N i j = M i j) : Piv R C N r := by
  obtain ⟨L, Q, h⟩ := h
  exact ⟨L, Q, fun i hi j hj => (mm_congr (fun _ _ => rfl) fun a ha => mm_congr (fun b hb => e a ha b hb) fun _ _ => rfl).trans (h i hi j hj)⟩
theorem IsRank.congr {R C r : Nat} {M N : Nat → Nat → F} (h : IsRank R C M r) (e : ∀ i, i < R → ∀ j, j < C → N i j = M i j) : IsRank R C N r := ⟨h.1.congr e, h.2.congr e⟩
theorem mm_flip (p : Nat) (A B : Nat → Nat → F) (i j : Nat) : mm p A B i j = mm p (fun a b => B b a) (fun a b => A b a) j i := sum_congr fun _ _ => mul_comm _ _
theorem Fact.flip {R C r : Nat} {M : Nat → Nat → F} (h : Fact R C M r) : Fact C R (fun i j => M j i) r := by
  obtain ⟨A, B, h⟩ := h
  exact ⟨fun a b => B b a, fun a b => A b a, fun i hi j hj => (h j hj i hi).trans (mm_flip _ _ _ _ _)⟩
theorem Piv.flip {R C r : Nat} {M : Nat → Nat → F} (h : Piv R C M r) : Piv C R (fun i j => M j i) r := by
  obtain ⟨L, Q, h⟩ := h
  refine ⟨fun a b => Q b a, fun a b => L b a, fun i hi j hj => ?_⟩
  rw [idm_comm, ← h j hj i hi, ← mm_assoc, mm_flip R (mm C _ _)]
  refine mm_congr (fun _ _ => rfl) fun a _ => ?_
  exact (mm_flip C M Q a i).symm
theorem IsRank.flip {R C r : Nat} {M : Nat → Nat → F} (h : IsRank R C M r) : IsRank C R (fun i j => M j i) r := ⟨h.1.flip, h.2.flip⟩
theorem Fact.rows {R C R' r : Nat} {M : Nat → Nat → F} (h : Fact R C M r) (σ : Nat → Nat) (hs : ∀ i, i < R' → σ i < R) : Fact R' C (fun i j => M (σ i) j) r := by
  obtain ⟨A, B, h⟩ := h
  exact ⟨fun i => A (σ i), B, fun i hi j hj => h (σ i) (hs i hi) j hj⟩
theorem Fact.mulRight {R C D r : Nat} {M : Nat → Nat → F} (h : Fact R C M r) (N : Nat → Nat → F) : Fact R D (mm C M N) r := by
  obtain ⟨A, B, h⟩ := h
  refine ⟨A, mm C B N, fun i hi j _ => ?_⟩
  rw [← mm_assoc]
  exact mm_congr (fun k hk => h i hi k hk) fun _ _ => rfl
theorem Fact.mulLeft {R C D r : Nat} {M : Nat → Nat → F} (h : Fact C D M r) (N : Nat → Nat → F) : Fact R D (mm C N M) r := by
  obtain ⟨A, B, h⟩ := h
  refine ⟨mm C N A, B, fun i _ j hj => ?_⟩
  rw [mm_assoc]
  exact mm_congr (fun _ _ => rfl) fun k hk => h k hk j hj
theorem fact_rows (R C : Nat) (M : Nat → Nat → F) : Fact R C M R := ⟨idm, M, fun _ hi _ _ => (mm_id M hi).symm⟩
theorem fact_columns (R C : Nat) (M : Nat → Nat → F) : Fact R C M C := ⟨M, idm, fun _ _ _ hj => (mm_id' M hj).symm⟩
theorem IsRank.le_rows {R C r : Nat} {M : Nat → Nat → F} (h : IsRank R C M r) : r ≤ R := piv_le h.2 (fact_rows R C M)
theorem IsRank.le_columns {R C r : Nat} {M : Nat → Nat → F} (h : IsRank R C M r) : r ≤ C := piv_le h.2 (fact_columns R C M)
/-- A matrix that takes only 0 to 0 has as many columns as its rank. -/
theorem full_of_kernel {R C r : Nat} {M : Nat → Nat → F} (h : Fact R C M r) (hk : ∀ c : Nat → F, (∀ i, i < R → sum C (fun j => mul (c j) (M i j)) = 0) → ∀ j, j < C → c j = 0) : C ≤ r := by
  refine Classical.byContradiction fun hlt => ?_
  obtain ⟨A, B, h⟩ := h
  obtain ⟨c, ⟨j0, hj0, hc⟩, h0⟩ := dep r C (fun j k => B k j) (by omega)
  apply hc
  refine hk c (fun i hi => ?_) j0 hj0
  have : sum C (fun j => mul (c j) (M i j)) = sum C (fun j => sum r (fun k => mul (A i k) (mul (c j) (B k j)))) := by
    refine sum_congr fun j hj => ?_
    rw [h i hi j hj]
    unfold mm
    rw [mul_sum]
    refine sum_congr fun k _ => ?_
    ac_rfl
  rw [this, sum_comm]
  refine sum_zero fun k hk' => ?_
  rw [← mul_sum, h0 k hk', mul_zero]
/-- Each row of N is a sum of multiples of the rows of M. -/
def Comb (R W : Nat) (M N : Nat → Nat → F) : Prop := ∃ E : Nat → Nat → F, ∀ i, i < R → ∀ j, j < W → N i j = mm R E M i j
theorem Comb.refl (R W : Nat) (M : Nat → Nat → F) : Comb R W M M := ⟨idm, fun _ hi _ _ => (mm_id M hi).symm⟩
theorem Comb.trans {R W : Nat} {M N P : Nat → Nat → F} (h : Comb R W M N) (k : Comb R W N P) : Comb R W M P := by
  obtain ⟨E, h⟩ := h
  obtain ⟨D, k⟩ := k
  refine ⟨mm R D E, fun i hi j hj => ?_⟩
  rw [k i hi j hj, mm_assoc]
  exact mm_congr (fun _ _ => rfl) fun a ha => h a ha j hj
theorem Comb.of {R W p : Nat} {M N : Nat → Nat → F} (hp : p < R) (σ : Nat → Nat) (α β : Nat → F) (hs : ∀ i, i < R → σ i < R)
    (h : ∀ i, i < R → ∀ j, j < W → N i j = add (mul (α i) (M (σ i) j)) (mul (β i) (M p j))) : Comb R W M N := by
  refine ⟨fun i a => add (mul (α i) (idm (σ i) a)) (mul (β i) (idm p a)), fun i hi j hj => ?_⟩
  rw [h i hi j hj]
  unfold mm
  have : ∀ a, mul (add (mul (α i) (idm (σ i) a)) (mul (β i) (idm p a))) (M a j) = add (mul (α i) (mul (idm (σ i) a) (M a j))) (mul (β i) (mul (idm p a) (M a j))) := by
    intro a; rw [add_mul, mul_assoc, mul_assoc]
  simp only [this]
  rw [sum_add, ← mul_sum, ← mul_sum, sum_idm (fun a => M a j) (hs i hi), sum_idm (fun a => M a j) hp]
/-- M and N have rows that are sums of multiples of each other's. -/
def RowEq (R W : Nat) (M N : Nat → Nat → F) : Prop := Comb R W M N ∧ Comb R W N M
theorem RowEq.refl (R W : Nat) (M : Nat → Nat → F) : RowEq R W M M := ⟨.refl .., .refl ..⟩
theorem RowEq.trans {R W : Nat} {M N P : Nat → Nat → F} (h : RowEq R W M N) (k : RowEq R W N P) : RowEq R W M P := ⟨h.1.trans k.1, k.2.trans h.2⟩
theorem RowEq.of_eq {R W : Nat} {M N : Nat → Nat → F} (h : ∀ i, i < R → ∀ j, j < W → N i j = M i j) : RowEq R W M N :=
  ⟨⟨idm, fun i hi j hj => (h i hi j hj).trans (mm_id M hi).symm⟩, ⟨idm, fun i hi j hj => (h i hi j hj).symm.trans (mm_id N hi).symm⟩⟩
/-- Two rows are exchanged. -/
def swp (p q i : Nat) : Nat := if i = p then q else if i = q then p else i
theorem swp_swp (p q i : Nat) : swp p q (swp p q i) = i := by
  unfold swp
  by_cases h1 : i = p
  · rw [if_pos h1]
    by_cases h2 : q = p
    · rw [if_pos h2]; omega
    · rw [if_neg h2, if_pos rfl, h1]
  · rw [if_neg h1]
    by_cases h2 : i = q
    · rw [if_pos h2, if_pos rfl, h2]
    · rw [if_neg h2, if_neg h1, if_neg h2]
theorem swp_lt {R p q i : Nat} (hp : p < R) (hq : q < R) (hi : i < R) : swp p q i < R := by
  unfold swp
  by_cases h1 : i = p
  · rw [if_pos h1]; exact hq
  · rw [if_neg h1]
    by_cases h2 : i = q
    · rw [if_pos h2]; exact hp
    · rw [if_neg h2]; exact hi
theorem rowEq_swap {R W p q : Nat} {M N : Nat → Nat → F} (hp : p < R) (hq : q < R) (h : ∀ i, i < R → ∀ j, j < W → N i j = M (swp p q i) j) : RowEq R W M N := by
  refine ⟨Comb.of hp (swp p q) (fun _ => 1) (fun _ => 0) (fun i hi => swp_lt hp hq hi) fun i hi j hj => ?_, Comb.of hp (swp p q) (fun _ => 1) (fun _ => 0) (fun i hi => swp_lt hp hq hi) fun i hi j hj => ?_⟩
  · rw [h i hi j hj, one_mul, zero_mul, add_zero]
  · rw [h _ (swp_lt hp hq hi) j hj, swp_swp, one_mul, zero_mul, add_zero]
/-- A row is multiplied by c, which is not 0. -/
theorem rowEq_scale {R W p : Nat} {M N : Nat → Nat → F} {c : F} (hp : p < R) (hc : c ≠ 0) (h : ∀ i, i < R → ∀ j, j < W → N i j = if i = p then mul (M i j) c else M i j) : RowEq R W M N := by
  refine ⟨Comb.of hp (fun i => i) (fun i => if i = p then c else 1) (fun _ => 0) (fun i hi => hi) fun i hi j hj => ?_, Comb.of hp (fun i => i) (fun i => if i = p then inv c else 1) (fun _ => 0) (fun i hi => hi) fun i hi j hj => ?_⟩
  · rw [h i hi j hj, zero_mul, add_zero]
    by_cases e : i = p
    · rw [if_pos e, if_pos e, mul_comm]
    · rw [if_neg e, if_neg e, one_mul]
  · rw [h i hi j hj, zero_mul, add_zero]
    by_cases e : i = p
    · rw [if_pos e, if_pos e, mul_comm, mul_assoc, mul_inv c hc, mul_one]
    · rw [if_neg e, if_neg e, one_mul]
/-- Multiples of one row are added to the others. -/
theorem rowEq_take {R W p : Nat} {M N : Nat → Nat → F} {g : Nat → F} (hp : p < R) (h : ∀ i, i < R → ∀ j, j < W → N i j = if i = p then M i j else add (M i j) (mul (M p j) (g i))) : RowEq R W M N := by
  refine ⟨Comb.of hp (fun i => i) (fun _ => 1) (fun i => if i = p then 0 else g i) (fun i hi => hi) fun i hi j hj => ?_, Comb.of hp (fun i => i) (fun _ => 1) (fun i => if i = p then 0 else g i) (fun i hi => hi) fun i hi j hj => ?_⟩
  · rw [h i hi j hj, one_mul]
    by_cases e : i = p
    · rw [if_pos e, if_pos e, zero_mul, add_zero]
    · rw [if_neg e, if_neg e, mul_comm]
  · rw [h i hi j hj, h p hp j hj, one_mul, if_pos rfl]
    by_cases e : i = p
    · rw [if_pos e, if_pos e, zero_mul, add_zero]
    · rw [if_neg e, if_neg e, add_assoc, mul_comm, add_self, add_zero]
/-- What holds when the columns below k have been looked at, and r of them have a pivot. M0 is the matrix at the beginning; R rows, W columns. -/
structure Inv (R W : Nat) (M0 M : Nat → Nat → F) (r k : Nat) : Prop where
  eq : RowEq R W M0 M
  low : r ≤ R
  piv : ∃ π : Nat → Nat, (∀ t, t < r → π t < k) ∧ (∀ t, t < r → ∀ i, i < R → M i (π t) = idm i t) ∧ (∀ t, t + 1 < r → π t < π (t + 1))
  rest : ∀ i, r ≤ i → i < R → ∀ j, j < k → M i j = 0
theorem Inv.start (R W : Nat) (M : Nat → Nat → F) : Inv R W M M 0 0 :=
  ⟨.refl .., Nat.zero_le _, ⟨fun _ => 0, fun t h => by omega, fun t h => by omega, fun t h => by omega⟩, fun i _ _ j hj => by omega⟩
theorem Inv.next {R W r k : Nat} {M0 M : Nat → Nat → F} (h : Inv R W M0 M r k) (hz : ∀ i, r ≤ i → i < R → M i k = 0) : Inv R W M0 M r (k + 1) := by
  obtain ⟨π, h1, h2, h3⟩ := h.piv
  refine ⟨h.eq, h.low, ⟨π, fun t ht => by have := h1 t ht; omega, h2, h3⟩, fun i hi hR j hj => ?_⟩
  by_cases e : j = k
  · subst e; exact hz i hi hR
  · exact h.rest i hi hR j (by omega)
/-- One pivot: the row q is exchanged with the row r, made to begin with 1, and taken from all others. -/
theorem Inv.pivot {R W r k q : Nat} {M0 M N : Nat → Nat → F} (h : Inv R W M0 M r k) (hk : k < W) (hr : r ≤ q) (hq : q < R) (hm : M q k ≠ 0)
    (hN : ∀ i, i < R → ∀ j, j < W → N i j = if i = r then mul (M q j) (inv (M q k)) else add (M (swp r q i) j) (mul (mul (M q j) (inv (M q k))) (M (swp r q i) k))) : Inv R W M0 N (r + 1) (k + 1) := by
  have hrR : r < R := by omega
  have sr : swp r q r = q := by unfold swp; rw [if_pos rfl]
  let A : Nat → Nat → F := fun i j => M (swp r q i) j
  let B : Nat → Nat → F := fun i j => if i = r then mul (A i j) (inv (M q k)) else A i j
  have e1 : RowEq R W M A := rowEq_swap hrR hq fun i _ j _ => rfl
  have e2 : RowEq R W A B := rowEq_scale (c := inv (M q k)) hrR (inv_ne _ hm) fun i _ j _ => rfl
  have e3 : RowEq R W B N := by
    refine rowEq_take (g := fun i => M (swp r q i) k) hrR fun i hi j hj => ?_
    rw [hN i hi j hj]
    have b0 : B r j = mul (M q j) (inv (M q k)) := by
      show (if r = r then mul (M (swp r q r) j) _ else _) = _
      rw [if_pos rfl, sr]
    by_cases e : i = r
    · rw [if_pos e, if_pos e, e, b0]
    · rw [if_neg e, if_neg e, b0]
      have : B i j = M (swp r q i) j := by show (if i = r then _ else A i j) = _; rw [if_neg e]
      rw [this]
  obtain ⟨π, h1, h2, h3⟩ := h.piv
  have sge : ∀ i, r ≤ i → r ≤ swp r q i := by
    intro i hi
    unfold swp
    by_cases a : i = r
    · rw [if_pos a]; exact hr
    · rw [if_neg a]
      by_cases b : i = q
      · rw [if_pos b]; exact Nat.le_refl _
      · rw [if_neg b]; exact hi
  have slo : ∀ i, i < r → swp r q i = i := by
    intro i hi
    unfold swp
    rw [if_neg (by omega), if_neg (by omega)]
  have mid : ∀ t, t < r → ∀ i, i < R → N i (π t) = idm i t := by
    intro t ht i hi
    have hpt := h1 t ht
    rw [hN i hi _ (by omega)]
    have hq0 : M q (π t) = 0 := by rw [h2 t ht q hq]; exact idm_ne (by omega)
    rw [hq0, zero_mul, zero_mul, add_zero]
    by_cases e : i = r
    · rw [if_pos e]; exact (idm_ne (by omega)).symm
    · rw [if_neg e, h2 t ht _ (swp_lt hrR hq hi)]
      by_cases l : i < r
      · rw [slo i l]
      · rw [idm_ne (by have := sge i (by omega); omega), idm_ne (by omega)]
  have new : ∀ i, i < R → N i k = idm i r := by
    intro i hi
    rw [hN i hi k hk, mul_inv _ hm, one_mul, add_self]
    rfl
  refine ⟨h.eq.trans (e1.trans (e2.trans e3)), by omega, ⟨fun t => if t = r then k else π t, fun t ht => ?_, fun t ht i hi => ?_, fun t ht => ?_⟩, fun i hi hR j hj => ?_⟩
  · show (if t = r then k else π t) < k + 1
    by_cases e : t = r
    · rw [if_pos e]; omega
    · rw [if_neg e]; have := h1 t (by omega); omega
  · show N i (if t = r then k else π t) = idm i t
    by_cases e : t = r
    · rw [if_pos e, e]; exact new i hi
    · rw [if_neg e]; exact mid t (by omega) i hi
  · show (if t = r then k else π t) < (if t + 1 = r then k else π (t + 1))
    rw [if_neg (show ¬ t = r by omega)]
    by_cases e : t + 1 = r
    · rw [if_pos e]; exact h1 t (by omega)
    · rw [if_neg e]; exact h3 t (by omega)
  · by_cases e : j = k
    · rw [e, new i hR]; exact idm_ne (by omega)
    · rw [hN i hR j (by omega), if_neg (by omega)]
      have a : M q j = 0 := h.rest q hr hq j (by omega)
      have b : M (swp r q i) j = 0 := h.rest _ (sge i (by omega)) (swp_lt hrR hq hR) j (by omega)
      rw [a, b, zero_mul, zero_mul, add_zero]
theorem Inv.congr {R W r k : Nat} {M0 M N : Nat → Nat → F} (h : Inv R W M0 M r k) (hk : k ≤ W) (e : ∀ i, i < R → ∀ j, j < W → N i j = M i j) : Inv R W M0 N r k := by
  obtain ⟨π, h1, h2, h3⟩ := h.piv
  refine ⟨h.eq.trans (RowEq.of_eq e), h.low, ⟨π, h1, fun t ht i hi => ?_, h3⟩, fun i hi hR j hj => ?_⟩
  · rw [e i hi _ (by have := h1 t ht; omega)]; exact h2 t ht i hi
  · rw [e i hR j (by omega)]; exact h.rest i hi hR j hj
/-- At the end, r is the rank of the first C columns. -/
theorem Inv.rank {R W C r : Nat} {M0 M : Nat → Nat → F} (h : Inv R W M0 M r C) (hC : C ≤ W) : IsRank R C M0 r := by
  obtain ⟨⟨E, hE⟩, ⟨D, hD⟩⟩ := h.eq
  obtain ⟨π, h1, h2, h3⟩ := h.piv
  constructor
  · refine ⟨D, M, fun i hi j hj => ?_⟩
    rw [hD i hi j (by omega)]
    unfold mm
    have : ∀ n, r ≤ n → n ≤ R → sum n (fun k => mul (D i k) (M k j)) = sum r (fun k => mul (D i k) (M k j)) := by
      intro n
      induction n with
      | zero =>
        intro a _
        rw [Nat.le_zero.1 a]
      | succ n ih =>
        intro a b
        by_cases e : r = n + 1
        · rw [e]
        · rw [sum, ih (by omega) (by omega), h.rest n (by omega) (by omega) j hj, mul_zero, add_zero]
    exact this R h.low (Nat.le_refl _)
  · refine ⟨E, fun b t => idm b (π t), fun i hi t ht => ?_⟩
    have hl := h.low
    rw [← mm_assoc]
    have hp := h1 t ht
    show sum C (fun b => mul (mm R E M0 i b) (idm b (π t))) = _
    rw [sum_idm' _ hp, ← hE i (by omega) _ (by omega)]
    exact h2 t ht i (by omega)
/-- The same where all rows have a pivot before the last column. -/
theorem Inv.rank_full {R W C r k : Nat} {M0 M : Nat → Nat → F} (h : Inv R W M0 M r k) (hC : C ≤ W) (hk : k ≤ C) (hr : r = R) : IsRank R C M0 r := by
  refine Inv.rank (M := M) (W := W) ⟨h.eq, h.low, ?_, fun i hi hR j hj => by omega⟩ hC
  obtain ⟨π, h1, h2, h3⟩ := h.piv
  exact ⟨π, fun t ht => by have := h1 t ht; omega, h2, h3⟩
/-- A square matrix that has as many pivots as rows has become the identity. -/
theorem Inv.square {R W k : Nat} {M0 M : Nat → Nat → F} (h : Inv R W M0 M R k) (hk : k ≤ R) : ∀ i, i < R → ∀ j, j < R → M i j = idm i j := by
  obtain ⟨π, h1, h2, h3⟩ := h.piv
  have up : ∀ d t, t + d < R → π t + d ≤ π (t + d) := by
    intro d
    induction d with
    | zero => intro t _; exact Nat.le_refl _
    | succ d ih =>
      intro t ht
      have a := ih t (by omega)
      have b := h3 (t + d) (by omega)
      have : t + (d + 1) = t + d + 1 := by omega
      rw [this]; omega
  intro i hi j hj
  have hj' : π j = j := by
    have a := up j 0 (by omega)
    have b := up (R - 1 - j) j (by omega)
    have c := h1 (j + (R - 1 - j)) (by omega)
    have : 0 + j = j := by omega
    rw [this] at a
    omega
  have := h2 j hj i hi
  rw [hj'] at this
  exact this
/-- Beside a square matrix lies the identity; behind the row operations, the inverse lies there. -/
theorem inverse_of {R W : Nat} {M0 M : Nat → Nat → F} (hW : W = R + R) (h : RowEq R W M0 M) (hu : ∀ i, i < R → ∀ j, j < R → M0 i (R + j) = idm i j) (hone : ∀ i, i < R → ∀ j, j < R → M i j = idm i j) :
    (∀ i, i < R → ∀ j, j < R → mm R M0 (fun a b => M a (R + b)) i j = idm i j) ∧ (∀ i, i < R → ∀ j, j < R → mm R (fun a b => M a (R + b)) M0 i j = idm i j) := by
  obtain ⟨⟨E, hE⟩, ⟨D, hD⟩⟩ := h
  have eE : ∀ i, i < R → ∀ j, j < R → M i (R + j) = E i j := by
    intro i hi j hj
    rw [hE i hi _ (by omega)]
    unfold mm
    rw [sum_congr (g := fun a => mul (E i a) (idm a j)) fun a ha => by rw [hu a ha j hj]]
    exact sum_idm' _ hj
  have eD : ∀ i, i < R → ∀ j, j < R → M0 i j = D i j := by
    intro i hi j hj
    rw [hD i hi _ (by omega)]
    unfold mm
    rw [sum_congr (g := fun a => mul (D i a) (idm a j)) fun a ha => by rw [hone a ha j hj]]
    exact sum_idm' _ hj
  constructor
  · intro i hi j hj
    rw [← hu i hi j hj, hD i hi _ (by omega)]
    exact mm_congr (fun a ha => eD i hi a ha) fun _ _ => rfl
  · intro i hi j hj
    rw [← hone i hi j hj, hE i hi j (by omega)]
    exact mm_congr (fun a ha => eE i hi a ha) fun _ _ => rfl
/-- Left and right inverses are one. -/
theorem inverse_unique {n : Nat} {A B C : Nat → Nat → F} (h : ∀ i, i < n → ∀ j, j < n → mm n B A i j = idm i j) (k : ∀ i, i < n → ∀ j, j < n → mm n A C i j = idm i j) : ∀ i, i < n → ∀ j, j < n → B i j = C i j := by
  intro i hi j hj
  rw [← mm_id' (p := n) B hj, ← mm_id (p := n) C hi]
  have e1 : mm n B idm i j = mm n B (mm n A C) i j := mm_congr (fun _ _ => rfl) fun a ha => (k a ha j hj).symm
  have e2 : mm n idm C i j = mm n (mm n B A) C i j := mm_congr (fun a ha => (h i hi a ha).symm) fun _ _ => rfl
  rw [e1, e2, mm_assoc]
theorem piv_of_inverse {n : Nat} {A B : Nat → Nat → F} (h : ∀ i, i < n → ∀ j, j < n → mm n A B i j = idm i j) : Piv n n A n :=
  ⟨idm, B, fun i hi j hj => (mm_id _ hi).trans (h i hi j hj)⟩
/-- No combination of the columns of a Cauchy matrix is 0, but the one of zeros. -/
theorem cauchy_kernel : ∀ (n : Nat) (x y c : Nat → F), (∀ i, i < n → ∀ j, j < n → i ≠ j → x i ≠ x j) → (∀ i, i < n → ∀ j, j < n → i ≠ j → y i ≠ y j) → (∀ i, i < n → ∀ j, j < n → x i ≠ y j) →
    (∀ i, i < n → sum n (fun j => mul (c j) (inv (add (x i) (y j)))) = 0) → ∀ j, j < n → c j = 0 := by
  intro n
  induction n with
  | zero => intro x y c _ _ _ _ j hj; omega
  | succ n ih =>
    intro x y c hx hy hxy h
    have nz : ∀ a b : F, a ≠ b → add a b ≠ 0 := fun a b hab h => hab ((add_eq_zero a b).1 h)
    have first : ∀ j, j < n → mul (c j) (mul (add (y n) (y j)) (inv (add (x n) (y j)))) = 0 := by
      refine ih x y (fun j => mul (c j) (mul (add (y n) (y j)) (inv (add (x n) (y j))))) (fun i hi j hj => hx i (by omega) j (by omega)) (fun i hi j hj => hy i (by omega) j (by omega)) (fun i hi j hj => hxy i (by omega) j (by omega)) fun i hi => ?_
      have one : ∀ i, i < n + 1 → add (sum n c) (add (c n) (sum n (fun j => mul (c j) (mul (add (y n) (y j)) (inv (add (x i) (y j))))))) = 0 := by
        intro i hi
        have e : mul (add (x i) (y n)) (sum (n + 1) (fun j => mul (c j) (inv (add (x i) (y j))))) = 0 := by rw [h i hi, mul_zero]
        rw [← e, mul_sum, sum]
        have last : mul (add (x i) (y n)) (mul (c n) (inv (add (x i) (y n)))) = c n := by
          have a := mul_inv _ (nz _ _ (hxy i hi n (by omega)))
          calc mul (add (x i) (y n)) (mul (c n) (inv (add (x i) (y n)))) = mul (c n) (mul (add (x i) (y n)) (inv (add (x i) (y n)))) := by ac_rfl
            _ = c n := by rw [a, mul_one]
        rw [last]
        have mid : sum n (fun j => mul (add (x i) (y n)) (mul (c j) (inv (add (x i) (y j))))) = sum n (fun j => add (c j) (mul (c j) (mul (add (y n) (y j)) (inv (add (x i) (y j)))))) := by
          refine sum_congr fun j hj => ?_
          have a := mul_inv _ (nz _ _ (hxy i hi j (by omega)))
          have b : add (x i) (y n) = add (add (x i) (y j)) (add (y n) (y j)) := by
            calc add (x i) (y n) = add (add (x i) (y n)) (add (y j) (y j)) := by rw [add_self, add_zero]
              _ = add (add (x i) (y j)) (add (y n) (y j)) := by ac_rfl
          rw [b, add_mul]
          have c1 : mul (add (x i) (y j)) (mul (c j) (inv (add (x i) (y j)))) = c j := by
            calc mul (add (x i) (y j)) (mul (c j) (inv (add (x i) (y j)))) = mul (c j) (mul (add (x i) (y j)) (inv (add (x i) (y j)))) := by ac_rfl
              _ = c j := by rw [a, mul_one]
          rw [c1]
          congr 1
          ac_rfl
        rw [mid, sum_add]
        ac_rfl
      have e1 := one i (by omega)
      have e2 := one n (by omega)
      have xin := nz _ _ (hx i (by omega) n (by omega) (by omega))
      have d : add (sum n (fun j => mul (c j) (mul (add (y n) (y j)) (inv (add (x i) (y j)))))) (sum n (fun j => mul (c j) (mul (add (y n) (y j)) (inv (add (x n) (y j)))))) = 0 := by
        rw [add_eq_zero]
        have cancel : ∀ a b c d : F, add a (add b c) = 0 → add a (add b d) = 0 → c = d := by
          intro a b c d h1 h2
          rw [← add_assoc] at h1 h2
          rw [add_eq_zero] at h1 h2
          rw [← h1, h2]
        exact cancel _ _ _ _ e1 e2
      rw [← sum_add] at d
      have f : sum n (fun j => mul (add (x i) (x n)) (mul (mul (c j) (mul (add (y n) (y j)) (inv (add (x n) (y j))))) (inv (add (x i) (y j))))) = 0 := by
        rw [← d]
        refine sum_congr fun j hj => ?_
        have a := mul_inv _ (nz _ _ (hxy i (by omega) j (by omega)))
        have b := mul_inv _ (nz _ _ (hxy n (by omega) j (by omega)))
        have s : add (inv (add (x i) (y j))) (inv (add (x n) (y j))) = mul (add (x i) (x n)) (mul (inv (add (x n) (y j))) (inv (add (x i) (y j)))) := by
          have t : add (x i) (x n) = add (add (x i) (y j)) (add (x n) (y j)) := by
            calc add (x i) (x n) = add (add (x i) (x n)) (add (y j) (y j)) := by rw [add_self, add_zero]
              _ = add (add (x i) (y j)) (add (x n) (y j)) := by ac_rfl
          rw [t, add_mul]
          have u1 : mul (add (x i) (y j)) (mul (inv (add (x n) (y j))) (inv (add (x i) (y j)))) = inv (add (x n) (y j)) := by
            calc mul (add (x i) (y j)) (mul (inv (add (x n) (y j))) (inv (add (x i) (y j)))) = mul (inv (add (x n) (y j))) (mul (add (x i) (y j)) (inv (add (x i) (y j)))) := by ac_rfl
              _ = inv (add (x n) (y j)) := by rw [a, mul_one]
          have u2 : mul (add (x n) (y j)) (mul (inv (add (x n) (y j))) (inv (add (x i) (y j)))) = inv (add (x i) (y j)) := by
            rw [← mul_assoc, b, one_mul]
          rw [u1, u2, add_comm]
        rw [← mul_add, ← mul_add, s]
        ac_rfl
      rw [← mul_sum] at f
      refine Classical.byContradiction fun hne => ?_
      exact mul_ne _ _ xin hne f
    have zero : ∀ j, j < n → c j = 0 := by
      intro j hj
      refine Classical.byContradiction fun hne => ?_
      exact mul_ne _ _ hne (mul_ne _ _ (nz _ _ (hy n (by omega) j (by omega) (by omega))) (inv_ne _ (nz _ _ (hxy n (by omega) j (by omega))))) (first j hj)
    intro j hj
    by_cases e : j = n
    · subst e
      have a := h j (by omega)
      rw [sum, sum_zero fun i hi => by rw [zero i hi, zero_mul], zero_add] at a
      refine Classical.byContradiction fun hne => ?_
      exact mul_ne _ _ hne (inv_ne _ (nz _ _ (hxy j (by omega) j (by omega)))) a
    · exact zero j (by omega)
end Go.Proofs.Ytbdbfnkjbbbmdaa.Lin
