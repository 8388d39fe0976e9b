/- The rank of a matrix does not depend on the order of its rows, nor on rows that are there twice, and is that of the transposed matrix: what the printed law answers is true. No condition. -/
import Derived.Test.YtbdbfnkjbbbmdaaMatMadeMatrixRanks
import Derived.Test.YtbdbfnkjbbbmdaaMatSaneMatrixRanks
import Derived.Test.YtbdbfnkjbbbmdaaMatDrawMatrixRanks
import Derived.Test.YtbdbfnkjbbbmdaaMatChooseMatrixRanks
import Derived.Test.YtbdbfnkjbbbmdaaRanksAll
import Derived.Test.YtbdbfnkjbbbmdaaRMatrixRanks1
namespace Go.Proofs.Ytbdbfnkjbbbmdaa.Pure
set_option linter.unusedSimpArgs false
set_option linter.unusedVariables false
open Go.RowKit Go.Proofs.Ytbdbfnkjbbbmdaa.PMatrixRanks Go.Proofs.YtbdbfnkjbbbmdaaW.PrintWords Go.Proofs.YtbdbfnkjbbbmdaaW.PrintLast Go.Proofs.YtbdbfnkjbbbmdaaW.PrintMore Go.Proofs.Ytbdbfnkjbbbmdaa.Gf Go.Proofs.Ytbdbfnkjbbbmdaa.Lin Go.Proofs.Ytbdbfnkjbbbmdaa.MatData Go.Proofs.Ytbdbfnkjbbbmdaa.MatMatrixRanks
theorem dim_ok {s : List Int} (hs : s.length ≤ 500) {p : Int} (hp : 0 ≤ p) : ∃ (t p' : Int) (m : Nat), storagebartermake_Deck_Next.f s p 6 = some (t, p') ∧ wrap64 (1 + t) = (m : Int) ∧ 0 < m ∧ m ≤ 6 ∧ 0 ≤ p' := by
  obtain ⟨t, p', h, t0, t1, hp'⟩ := next_ok (a := 6) hs hp (by decide) (by decide)
  exact ⟨t, p', (1 + t).toNat, h, by unfold wrap64; omega, by omega, by omega, hp'⟩
/-- The list of a matrix's columns. -/
def flipAt (R C : Nat) (l : List Int) (t : Nat) : Int := ((ent C l (t % R) (t / R)).val : Int)
theorem flipAt_eq {R C i j : Nat} (l : List Int) (hi : i < R) : flipAt R C l (j * R + i) = ((ent C l i j).val : Int) := by
  unfold flipAt
  have e1 : (j * R + i) / R = j := by rw [Nat.mul_comm, Nat.mul_add_div (by omega), Nat.div_eq_of_lt hi]; omega
  have e2 : (j * R + i) % R = i := by rw [Nat.mul_comm, Nat.mul_add_mod, Nat.mod_eq_of_lt hi]
  rw [e1, e2]
section
variable {R C r : Nat} {l : List Int} (hv : Valid R C l) (hr : IsRank R C (ent C l) r) (R1 R2 : Nat) (l1 l2 : List Int) (h1 : Valid R1 C l1) (h2 : Valid R2 C l2) (k1 : IsRank R1 C (ent C l1) r) (k2 : IsRank R2 C (ent C l2) r)
include hv hr h1 h2 k1 k2
theorem ranks_end (x : List Int) (hx : Tab x (C * R) (flipAt R C l)) : Ev (fun k => storagebarterlaw06_MatrixRanks.l0 k 0 0 (C : Int) (R : Int) (C : Int) l (R1 : Int) (C : Int) l1 (R2 : Int) (C : Int) l2 (C : Int) (R : Int) x) true := by
  have e : x = cells C R (fun i j => ent C l j i) := Tab.eq hx (cells_tab C R (fun i j => ent C l j i))
  subst e
  have hvf : Valid C R (cells C R (fun i j => ent C l j i)) := cells_valid _ hv.c0 hv.c1 hv.r0 hv.r1
  have hrf : IsRank C R (ent R (cells C R (fun i j => ent C l j i))) r := hr.flip.congr fun i hi j hj => ent_cells _ hi hj
  have i1 := hr.le_rows
  have i2 := hr.le_columns
  refine Ev.step (fun k => ?_) (Ev.bind (rank_ev hv hr) (f := fun k bt217 => ((matrix_Rank.f k R1 C l1).bind fun bt219 => ((matrix_Rank.f k R2 C l2).bind fun bt221 => ((matrix_Rank.f k C R (cells C R (fun i j => ent C l j i))).bind fun bt223 => (if bt217.2 = 0 then (if bt219.2 = 0 then (if bt221.2 = 0 then (if bt223.2 = 0 then (if bt217.1 = bt219.1 then (if bt217.1 = bt221.1 then (if bt217.1 = bt223.1 then (some (decide (bt217.1 ≤ (mn R C)))) else (some false)) else (some false)) else (some false)) else (some false)) else (some false)) else (some false)) else (some false)))))) ?_)
  · simp only [storagebarterlaw06_MatrixRanks.l0]
    rw [if_neg (by omega)]
    simp only [if_true]
  · refine Ev.bind (rank_ev h1 k1) ?_
    refine Ev.bind (rank_ev h2 k2) ?_
    refine Ev.bind (rank_ev hvf hrf) ?_
    simp only [if_true]
    have hd : decide ((r : Int) ≤ mn (R : Int) (C : Int)) = true := by
      refine decide_eq_true ?_
      unfold mn
      split <;> omega
    rw [hd]
    exact Ev.now _
omit hr h1 h2 k1 k2 in
theorem ranks_inner (j : Nat) (hj : j < C) (H : ∀ x, Tab x (j * R + R) (flipAt R C l) → Ev (fun k => storagebarterlaw06_MatrixRanks.l0 k 0 0 ((j + 1 : Nat) : Int) (R : Int) (C : Int) l (R1 : Int) (C : Int) l1 (R2 : Int) (C : Int) l2 (C : Int) (R : Int) x) true) :
    ∀ d i : Nat, i + d = R → ∀ x, Tab x (j * R + i) (flipAt R C l) → Ev (fun k => storagebarterlaw06_MatrixRanks.l1 k 0 0 (j : Int) (i : Int) (R : Int) (C : Int) l (R1 : Int) (C : Int) l1 (R2 : Int) (C : Int) l2 (C : Int) (R : Int) x) true := by
  intro d
  have hj16 : j + 1 ≤ 1000000 := by have := hv.c1; omega
  have w1 : wrap64 ((j : Int) + 1) = ((j + 1 : Nat) : Int) := wrap_add (b := 1) hj16
  induction d with
  | zero =>
    intro i hi x hx
    obtain rfl : i = R := by omega
    refine Ev.step (fun k => ?_) (H x hx)
    simp only [storagebarterlaw06_MatrixRanks.l1, w1]
    rw [if_neg (by omega)]
  | succ d ih =>
    intro i hi x hx
    have hiR : i < R := by omega
    have hd : i + 1 + d = R := by omega
    have i1 := index_lt (R := R) (C := C) hiR hj
    have hRC := Nat.mul_le_mul hv.r1 hv.c1
    have p3 : i * C + j ≤ 1000000 := Nat.le_trans (Nat.le_of_lt i1) (Nat.le_trans hRC (by decide))
    have p1 : i * C ≤ 1000000 := Nat.le_trans (Nat.le_add_right _ _) p3
    have p5 : i + 1 ≤ 1000000 := Nat.le_trans hiR (Nat.le_trans hv.r1 (by decide))
    have q1 : ((i * C + j : Nat) : Int) < (l.length : Int) := by rw [hv.len]; exact Int.ofNat_lt.2 i1
    have e1 : rd l ((i * C + j : Nat) : Int) = ((ent C l i j).val : Int) := (el_val hv.els (by rw [hv.len]; exact i1)).symm
    have hll : x.length < 17592186044416 := by
      have i2 := index_lt (R := C) (C := R) hj hiR
      rw [hx.1]
      exact Nat.lt_of_lt_of_le i2 (Nat.le_trans (Nat.mul_le_mul hv.c1 hv.r1) (by decide))
    refine Ev.step (fun k => ?_) (ih (i + 1) hd (x ++ [((ent C l i j).val : Int)]) (hx.snoc (flipAt_eq l hiR).symm))
    simp only [storagebarterlaw06_MatrixRanks.l1]
    rw [if_pos (Int.ofNat_lt.2 hiR), wrap_mul p1, wrap_add p3, if_pos (Int.natCast_nonneg _), if_pos q1, if_pos hll, e1, show wrap64 ((i : Int) + 1) = ((i + 1 : Nat) : Int) from wrap_add (b := 1) p5]
theorem ranks_outer : ∀ d j : Nat, j + d = C → ∀ x, Tab x (j * R) (flipAt R C l) → Ev (fun k => storagebarterlaw06_MatrixRanks.l0 k 0 0 (j : Int) (R : Int) (C : Int) l (R1 : Int) (C : Int) l1 (R2 : Int) (C : Int) l2 (C : Int) (R : Int) x) true := by
  intro d
  induction d with
  | zero =>
    intro j hj x hx
    obtain rfl : j = C := by omega
    exact ranks_end hv hr R1 R2 l1 l2 h1 h2 k1 k2 x hx
  | succ d ih =>
    intro j hj x hx
    have hjC : j < C := by omega
    refine Ev.step (fun k => ?_) (ranks_inner hv R1 R2 l1 l2 j hjC (fun x' hx' => ih (j + 1) (by omega) x' (by rwa [Nat.add_mul, Nat.one_mul])) R 0 (by omega) x hx)
    simp only [storagebarterlaw06_MatrixRanks.l0]
    rw [if_pos (Int.ofNat_lt.2 hjC)]
    rfl
end
/-- A list of rows, twice. -/
def twice (R : Nat) (σ : Nat → Nat) (i : Nat) : Nat := σ (if i < R then i else i - R)
theorem picked_twice (R : Nat) (σ : Nat → Nat) : picked R σ ++ picked R σ = picked (R + R) (twice R σ) := by
  have h1 : Tab (picked R σ) R (fun i => ((twice R σ i : Nat) : Int)) := ⟨by simp [picked], fun j hj => by simp [picked, List.getD_eq_getElem?_getD, hj, twice]⟩
  have h2 : Tab (picked R σ) R (fun i => ((twice R σ (R + i) : Nat) : Int)) := ⟨by simp [picked], fun j hj => by simp [picked, List.getD_eq_getElem?_getD, hj, twice, show ¬ R + j < R by omega]⟩
  exact Tab.eq (tab_append h1 h2) (Tab.make (R + R) (fun i => ((twice R σ i : Nat) : Int)))
theorem MatrixRanks : storagebarterlaw06_MatrixRanks.Pure := by
  intro l0 _ _ _
  refine Ev.rounds ?_
  unfold storagebarterlaw06_MatrixRanks.f
  refine Ev.bind sane_ok ?_
  simp only [if_true]
  unfold storagebartermake_Few.f
  simp only [Option.bind_some]
  by_cases hf : (l0.length : Int) ≤ 500
  · simp only [decide_eq_true hf, if_true]
    unfold storagebartermake_New.f
    simp only [Option.bind_some]
    have hs : l0.length ≤ 500 := by omega
    clear hf
    obtain ⟨t1, p1, R, e1, w1, r0, r6, hp1⟩ := dim_ok hs (p := 0) (by decide)
    obtain ⟨t2, p2, C, e2, w2, c0, c6, hp2⟩ := dim_ok hs hp1
    simp only [e1, e2, Option.bind_some, w1, w2]
    obtain ⟨l, p3, hv, hp3, el⟩ := made_ev hs hp2 r0 (Nat.le_trans r6 (by decide)) c0 (Nat.le_trans c6 (by decide))
    refine Ev.bind el ?_
    obtain ⟨σ, p4, e4, hp4, hσ, iσ⟩ := pick_ok (s := l0) (p := p3) (L := R) (n := R) hs hp3 (by omega) (Nat.le_refl _)
    have e4' : storagebarterlaw06_pick.f l0 p3 (R : Int) (R : Int) = some (picked R σ, p4) := e4
    simp only [e4', Option.bind_some]
    have hon := onto σ hσ iσ
    obtain ⟨r, hr⟩ := exists_rank R C (ent C l)
    have R16 : R ≤ 16 := by omega
    have RR16 : R + R ≤ 16 := by omega
    have RR0 : 0 < R + R := by omega
    refine Ev.bind (choose_ev hv σ r0 R16 hσ) ?_
    have hlen := picked_len R σ
    have hcond : ((picked R σ).length : Int) = (R : Int) ∧ 1 ≤ (R : Int) ∧ (R : Int) ≤ 8 := by rw [hlen]; omega
    simp only [if_pos hcond, picked_twice]
    have hτ : ∀ i, i < R + R → twice R σ i < R := by
      intro i hi
      unfold twice
      split
      · exact hσ _ (by assumption)
      · exact hσ _ (by omega)
    refine Ev.bind (choose_ev hv (twice R σ) RR0 RR16 hτ) ?_
    have v1 := choose_valid hv σ r0 R16
    have v2 := choose_valid hv (twice R σ) RR0 RR16
    have k1 : IsRank R C (ent C (chosen C R l σ)) r := (hr.rows σ hσ hon).congr fun i hi j hj => ent_choose l σ hi hj
    have k2 : IsRank (R + R) C (ent C (chosen C (R + R) l (twice R σ))) r := (hr.rows (twice R σ) hτ (fun j hj => by
      obtain ⟨i, hi, e⟩ := hon j hj
      exact ⟨i, by omega, by unfold twice; rw [if_pos hi]; exact e⟩)).congr fun i hi j hj => ent_choose l (twice R σ) hi hj
    exact ranks_outer hv hr R (R + R) _ _ v1 v2 k1 k2 C 0 (by omega) [] (by rw [Nat.zero_mul]; exact Tab.nil _)
  · simp only [decide_eq_false hf, Bool.false_eq_true, if_false]
    exact Ev.now _
end Go.Proofs.Ytbdbfnkjbbbmdaa.Pure
