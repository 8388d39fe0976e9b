/- What matrix.Pick answers at a valid matrix and rows of it. -/
import Derived.Test.YtbdbfnkjbbbmdaaPMatrixRanksx4
import Derived.Test.YtbdbfnkjbbbmdaaMatCheckMatrixRanks
import Derived.Test.YtbdbfnkjbbbmdaaMatTab
namespace Go.Proofs.Ytbdbfnkjbbbmdaa.MatMatrixRanks
set_option linter.unusedSimpArgs false
set_option linter.unusedVariables false
open Go.RowKit Go.Proofs.Ytbdbfnkjbbbmdaa.PMatrixRanks Go.Proofs.YtbdbfnkjbbbmdaaW.PrintWords Go.Proofs.YtbdbfnkjbbbmdaaW.PrintLast Go.Proofs.Ytbdbfnkjbbbmdaa.Gf Go.Proofs.Ytbdbfnkjbbbmdaa.Lin Go.Proofs.Ytbdbfnkjbbbmdaa.MatData
theorem tab_append {l m : List Int} {n k : Nat} {g : Nat → Int} (h : Tab l n g) (hm : Tab m k (fun j => g (n + j))) : Tab (l ++ m) (n + k) g := by
  refine ⟨by rw [List.length_append, h.1, hm.1], fun j hj => ?_⟩
  rw [List.getD_eq_getElem?_getD]
  by_cases e : j < n
  · rw [List.getElem?_append_left (by rw [h.1]; exact e), ← List.getD_eq_getElem?_getD]
    exact h.2 j e
  · rw [List.getElem?_append_right (by rw [h.1]; omega), h.1, ← List.getD_eq_getElem?_getD, hm.2 (j - n) (by omega)]
    show g (n + (j - n)) = g j
    rw [show n + (j - n) = j by omega]
theorem tab_part (l : List Int) (a b : Nat) (hb : b ≤ l.length) (ha : a ≤ b) : Tab ((l.take b).drop a) (b - a) (fun j => l.getD (a + j) 0) := by
  refine ⟨by simp; omega, fun j hj => ?_⟩
  rw [List.getD_eq_getElem?_getD, List.getElem?_drop, List.getElem?_take, if_pos (by omega), ← List.getD_eq_getElem?_getD]
/-- A list of numbers of rows. -/
def picked (n : Nat) (σ : Nat → Nat) : List Int := (List.range n).map (fun i => ((σ i : Nat) : Int))
theorem picked_rd {n i : Nat} (σ : Nat → Nat) (hi : i < n) : rd (picked n σ) (i : Int) = ((σ i : Nat) : Int) := by
  show (picked n σ).getD i 0 = _
  simp [picked, List.getD_eq_getElem?_getD, hi]
theorem picked_len (n : Nat) (σ : Nat → Nat) : (picked n σ).length = n := by simp [picked]
theorem wrap_nat {a : Nat} (h : a ≤ 1000000) : wrap64 (a : Int) = (a : Int) := by unfold wrap64; omega
theorem wrap_prod {a b : Nat} (h : a * b ≤ 1000000) : wrap64 ((a : Int) * (b : Int)) = ((a * b : Nat) : Int) := by
  have : (a : Int) * (b : Int) = ((a * b : Nat) : Int) := by simp
  rw [this]; exact wrap_nat h
theorem wrap_succ {a : Nat} (h : a + 1 ≤ 1000000) : wrap64 ((a : Int) + 1) = ((a + 1 : Nat) : Int) := by unfold wrap64; omega
/-- The rows chosen. -/
def chosen (C n : Nat) (l : List Int) (σ : Nat → Nat) : List Int := cells n C (fun i j => ent C l (σ i) j)
theorem choose_loop {R C n : Nat} {l : List Int} (hv : Valid R C l) (σ : Nat → Nat) (hn : n ≤ 16) (hs : ∀ i, i < n → σ i < R) : ∀ d i : Nat, i + d = n → ∀ out, Tab out (i * C) (fun t => ((ent C l (σ (t / C)) (t % C)).val : Int)) →
    Ev (fun k => matrix_Pick.l0 k (picked n σ) (n : Int) (i : Int) (R : Int) (C : Int) l (n : Int) (C : Int) out) ((n : Int), (C : Int), chosen C n l σ, 0) := by
  intro d
  induction d with
  | zero =>
    intro i hi out hout
    obtain rfl : i = n := by omega
    have e : out = chosen C i l σ := Tab.eq hout (cells_tab i C _)
    subst e
    refine Ev.step (f := fun _ => some _) (fun k => ?_) (Ev.now _)
    simp only [matrix_Pick.l0]
    rw [if_neg (by omega)]
  | succ d ih =>
    intro i hi out hout
    have hin : i < n := by omega
    have hd : i + 1 + d = n := by omega
    have hi6 : i + 1 ≤ 1000000 := by omega
    have hsi := hs i hin
    have q0 : (i : Int) < (n : Int) := Int.ofNat_lt.2 hin
    have q1 : ¬ ((σ i : Nat) : Int) < 0 := by have := Int.natCast_nonneg (σ i); omega
    have q2 : ¬ ((σ i : Nat) : Int) ≥ (R : Int) := by have := Int.ofNat_lt.2 hsi; omega
    have hb : R * C ≤ 1000000 := Nat.le_trans (Nat.mul_le_mul hv.r1 hv.c1) (by decide)
    have m1 : (σ i + 1) * C ≤ R * C := Nat.mul_le_mul_right C hsi
    have m2 : σ i * C ≤ (σ i + 1) * C := Nat.mul_le_mul_right C (Nat.le_succ _)
    have hs6 : σ i + 1 ≤ 1000000 := Nat.le_trans hsi (Nat.le_trans hv.r1 (by decide))
    have w1 : wrap64 (((σ i : Nat) : Int) * (C : Int)) = ((σ i * C : Nat) : Int) := wrap_prod (Nat.le_trans m2 (Nat.le_trans m1 hb))
    have w2 : wrap64 (((σ i + 1 : Nat) : Int) * (C : Int)) = (((σ i + 1) * C : Nat) : Int) := wrap_prod (Nat.le_trans m1 hb)
    have hlen := hv.len
    have q3 : ((σ i * C : Nat) : Int) ≤ (((σ i + 1) * C : Nat) : Int) := Int.ofNat_le.2 m2
    have q4 : (((σ i + 1) * C : Nat) : Int) ≤ (l.length : Int) := by rw [hlen]; exact Int.ofNat_le.2 m1
    have hpart := tab_part l (σ i * C) ((σ i + 1) * C) (by rw [hlen]; exact m1) m2
    have hC : (σ i + 1) * C - σ i * C = C := by rw [Nat.succ_mul]; exact Nat.add_sub_cancel_left _ _
    rw [hC] at hpart
    have hout2 : Tab (out ++ (l.take ((σ i + 1) * C)).drop (σ i * C)) ((i + 1) * C) (fun t => ((ent C l (σ (t / C)) (t % C)).val : Int)) := by
      rw [show (i + 1) * C = i * C + C from Nat.succ_mul i C]
      refine tab_append hout (hpart.congr fun j hj => ?_)
      have e1 : (i * C + j) / C = i := by rw [Nat.mul_comm, Nat.mul_add_div hv.c0, Nat.div_eq_of_lt hj]; rfl
      have e2 : (i * C + j) % C = j := by rw [Nat.mul_comm, Nat.mul_add_mod, Nat.mod_eq_of_lt hj]
      simp only [e1, e2]
      exact el_val hv.els (by rw [hlen]; exact index_lt hsi hj)
    have q5 : out.length + ((l.take ((σ i + 1) * C)).drop (σ i * C)).length < 17592186044416 := by
      rw [hout.1, hpart.1]
      exact Nat.lt_of_le_of_lt (Nat.add_le_add (Nat.mul_le_mul (show i ≤ 16 by omega) hv.c1) hv.c1) (by decide)
    refine Ev.step (fun k => ?_) (ih (i + 1) hd _ hout2)
    simp only [matrix_Pick.l0, picked_len]
    rw [if_pos q0, if_pos (Int.natCast_nonneg _), if_pos q0, picked_rd σ hin, if_neg q1, if_neg q2, w1, wrap_succ hs6, w2, if_pos (Int.natCast_nonneg _), if_pos q3, if_pos q4, Int.toNat_natCast, Int.toNat_natCast, if_pos q5, wrap_succ hi6]
theorem choose_ev {R C n : Nat} {l : List Int} (hv : Valid R C l) (σ : Nat → Nat) (n0 : 0 < n) (hn : n ≤ 16) (hs : ∀ i, i < n → σ i < R) : Ev (fun k => matrix_Pick.f k (R : Int) (C : Int) l (picked n σ)) ((n : Int), (C : Int), chosen C n l σ, 0) := by
  have k1 := matrix_Check_ev (R : Int) (C : Int) l (by have := Nat.mul_le_mul hv.r1 hv.c1; rw [hv.len]; omega)
  rw [chk_valid hv] at k1
  unfold matrix_Pick.f
  refine Ev.bind k1 ?_
  simp only [if_true, picked_len]
  have e : decide ((n : Int) > 16) = false := decide_eq_false (by omega)
  have e1 : ¬ (n : Int) < 1 := by omega
  simp only [if_neg e1, e]
  refine Ev.step (fun k => ?_) (choose_loop hv σ hn hs n 0 (by omega) [] (by rw [Nat.zero_mul]; exact Tab.nil _))
  simp only [matrix_Pick.j0, Bool.false_eq_true, if_false, picked_len]
  rfl
theorem choose_valid {R C n : Nat} {l : List Int} (hv : Valid R C l) (σ : Nat → Nat) (n0 : 0 < n) (hn : n ≤ 16) : Valid n C (chosen C n l σ) := cells_valid _ n0 hn hv.c0 hv.c1
theorem ent_choose {C n i j : Nat} (l : List Int) (σ : Nat → Nat) (hi : i < n) (hj : j < C) : ent C (chosen C n l σ) i j = ent C l (σ i) j := ent_cells (fun i j => ent C l (σ i) j) hi hj
end Go.Proofs.Ytbdbfnkjbbbmdaa.MatMatrixRanks
