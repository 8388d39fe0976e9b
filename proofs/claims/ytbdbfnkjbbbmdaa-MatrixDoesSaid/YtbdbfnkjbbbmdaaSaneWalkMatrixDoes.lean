/- The sanity check of layer 6 is true: its walk. -/
import Derived.Test.YtbdbfnkjbbbmdaaMatRankMatrixDoes
import Derived.Test.YtbdbfnkjbbbmdaaMatMakeMatrixDoes
namespace Go.Proofs.Ytbdbfnkjbbbmdaa.MatMatrixDoes
set_option linter.unusedSimpArgs false
set_option linter.unusedVariables false
open Go.RowKit Go.Proofs.Ytbdbfnkjbbbmdaa.PMatrixDoes Go.Proofs.YtbdbfnkjbbbmdaaW.PrintWords Go.Proofs.YtbdbfnkjbbbmdaaW.PrintLast Go.Proofs.Ytbdbfnkjbbbmdaa.Gf Go.Proofs.Ytbdbfnkjbbbmdaa.Lin Go.Proofs.Ytbdbfnkjbbbmdaa.MatMem Go.Proofs.Ytbdbfnkjbbbmdaa.MatData
def C12End (w : World) (e : Ending) (w' : World) : Prop := ∃ (ad : Addr) (c : Nat), e = .returned (.tuple #[.agg #[.int .i64 1, .int .i64 2, .slice (some ad) 2 c], .int .i64 0]) ∧ 2 ≤ c ∧ w'.cell? (ad.add 0) = some (.int .i64 1) ∧ w'.cell? (ad.add 1) = some (.int .i64 9) ∧ Below w.heap.size w w'
theorem cauchy12 (w : World) : Calls Try.prog 16 #[.int .i64 1, .int .i64 2] w (C12End w) := by
  have e : matrix_Cauchy.f 40 1 2 = some (1, 2, [1, 9], 0) := by decide +kernel
  refine (matrix_Cauchy.calls 40 1 2 _ _ _ _ w e).mono ?_
  rintro x w' ⟨v, rfl, hr, hb⟩
  obtain ⟨A, c, rfl⟩ := Kd.R_slice hr
  obtain ⟨h1, h2, h3⟩ := Kd.R_reads' hr
  obtain ⟨ad, rfl, c0⟩ := Kd.at_int h3 0 (by decide) (by decide)
  obtain ⟨ad', e', c1⟩ := Kd.at_int h3 1 (by decide) (by decide)
  cases e'
  exact ⟨ad, c, rfl, h2, c0, c1, hb⟩
def I2End (w : World) (e : Ending) (w' : World) : Prop := ∃ (A : Option Addr) (c : Nat), e = .returned (.tuple #[.agg #[.int .i64 2, .int .i64 2, .slice A 4 c], .int .i64 0]) ∧ 4 ≤ c ∧ Kd.C (Kd.int .i64) w' A 4 [1, 0, 0, 1] ∧ Below w.heap.size w w'
theorem ident2 (w : World) : Calls Try.prog 13 #[.int .i64 2] w (I2End w) := by
  have e : matrix_Identity.f 40 2 = some (2, 2, [1, 0, 0, 1], 0) := by decide +kernel
  refine (matrix_Identity.calls 40 2 _ _ _ _ w e).mono ?_
  rintro x w' ⟨v, rfl, hr, hb⟩
  obtain ⟨A, c, rfl⟩ := Kd.R_slice hr
  obtain ⟨h1, h2, h3⟩ := Kd.R_reads' hr
  exact ⟨A, c, rfl, h2, h3, hb⟩
theorem rank2 (w : World) (A : Option Addr) (c : Nat) (h : Kd.C (Kd.int .i64) w A 4 [1, 0, 0, 1]) (hc : 4 ≤ c) : Calls Try.prog 25 #[.agg #[.int .i64 2, .int .i64 2, .slice A 4 c]] w fun e w' => e = .returned (.tuple #[.int .i64 2, .int .i64 0]) ∧ Below w.heap.size w w' := by
  have hv : Valid 2 2 [1, 0, 0, 1] := ⟨by decide, by decide, by decide, by decide, rfl, by decide⟩
  have e : ([1, 0, 0, 1] : List Int) = cells 2 2 idm := by decide +kernel
  have hr : IsRank 2 2 (ent 2 [1, 0, 0, 1]) 2 := by
    have h2 : IsRank 2 2 idm 2 := ⟨fact_rows 2 2 idm, ⟨idm, idm, fun i hi j hj => (mm_id _ hi).trans (mm_id _ hi)⟩⟩
    exact h2.congr fun i hi j hj => by rw [e]; exact ent_cells idm hi hj
  refine matrix_Rank.calls 0 2 2 A c [1, 0, 0, 1] 2 0 w h hc ?_
  unfold matrix_Rank.f
  have hc0 : chk 2 2 [1, 0, 0, 1] = 0 := chk_valid hv
  rw [if_pos (by decide), if_pos hc0]
  have := rankOf_eq hr
  simp only [Option.some.injEq, Prod.mk.injEq, and_true]
  show ((rankOf 2 2 _ : Nat) : Int) = 2
  rw [this]
  rfl
set_option maxHeartbeats 2000000 in
theorem sane_any (w : World) : Calls Try.prog 11 #[] w fun e w' => e = .returned (.bool true) ∧ Below w.heap.size w w' := by
  go_enter Try.func11, Try.ntmps11
  go_upto_region 2 with (go_at_call 16; (with_reducible refine (cauchy12 _).mono ?_); rintro e w1 ⟨ad, c, rfl, hc, h0, h1, hb⟩; have HX := Aside0.mk (And.intro h0 (And.intro h1 hb)); clear h0 h1 hb)
  obtain ⟨w2, hw2⟩ : ∃ w2, w2 = w1.alloc (.cells #[.int .i64 1, .int .i64 2, .slice (some ad) 2 c] 26) := ⟨_, rfl⟩
  rw [← hw2]
  have HW2 := Aside0.mk (show Below w1.heap.size w1 w2 ∧ w2.cell? ⟨w1.heap.size, 2, none⟩ = some (.slice (some ad) 2 c) ∧ w1.heap.size < w2.heap.size by rw [hw2]; exact ⟨(Below.refl _ _).alloc (Nat.le_refl _) _, by simp [World.cell?_alloc_new], by simp⟩)
  clear hw2
  go_upto_region 3 with (go_at_call 13; (with_reducible refine (ident2 _).mono ?_); rintro e w3 ⟨A, c2, rfl, hc2, h3, hb3⟩; have HY := Aside0.mk (And.intro h3 (And.intro hb3 hc2)); clear h3 hb3)
  obtain ⟨w4, hw4⟩ : ∃ w4, w4 = w3.alloc (.cells #[.int .i64 2, .int .i64 2, .slice A 4 c2] 26) := ⟨_, rfl⟩
  rw [← hw4]
  have HW4 := Aside0.mk (show Below w3.heap.size w3 w4 by rw [hw4]; exact (Below.refl _ _).alloc (Nat.le_refl _) _)
  have g0 : w4.cell? ⟨w3.heap.size, 0, none⟩ = some (.int .i64 2) := by rw [hw4]; simp [World.cell?_alloc_new]
  have g1 : w4.cell? ⟨w3.heap.size, 1, none⟩ = some (.int .i64 2) := by rw [hw4]; simp [World.cell?_alloc_new]
  have g2 : w4.cell? ⟨w3.heap.size, 2, none⟩ = some (.slice A 4 c2) := by rw [hw4]; simp [World.cell?_alloc_new]
  clear hw4
  go_upto_region 4 with (go_at_call 25; (with_reducible refine (rank2 _ A c2 (Kd.C_below HY.out.1 HW4.out) HY.out.2.2).mono ?_); rintro e w5 ⟨rfl, hb5⟩; have HB5 := Aside0.mk hb5; clear hb5)
  have hb25 : Below w2.heap.size w2 w5 := (HY.out.2.1.trans (HW4.out.mono HY.out.2.1.size)).trans (HB5.out.mono (Nat.le_trans HY.out.2.1.size HW4.out.size))
  have e0 := (hb25.cell (p := ⟨w1.heap.size, 2, none⟩) HW2.out.2.2).trans HW2.out.2.1
  have l0 := World.block_lt_of_cell? _ _ HX.out.1
  have l1 := World.block_lt_of_cell? _ _ HX.out.2.1
  have d0 := ((hb25.cell (p := ad.add 0) (Nat.lt_trans l0 HW2.out.2.2)).trans (HW2.out.1.cell (p := ad.add 0) l0)).trans HX.out.1
  have d1 := ((hb25.cell (p := ad.add 1) (Nat.lt_trans l1 HW2.out.2.2)).trans (HW2.out.1.cell (p := ad.add 1) l1)).trans HX.out.2.1
  have HB := Aside0.mk (show Below w.heap.size w w5 from (HX.out.2.2.trans (HW2.out.1.mono HX.out.2.2.size)).trans (hb25.mono (Nat.le_trans HX.out.2.2.size HW2.out.1.size)))
  rw [show ad.add 0 = ad by cases ad; rfl] at d0
  have d2 : w5.cell? ⟨ad.block, ad.off + 1, none⟩ = some (.int .i64 9) := d1
  clear hb25 l0 l1 g0 g1 g2
  go_wp2
  go_ret
  go_light
  exact ⟨rfl, HB.out⟩
end Go.Proofs.Ytbdbfnkjbbbmdaa.MatMatrixDoes
