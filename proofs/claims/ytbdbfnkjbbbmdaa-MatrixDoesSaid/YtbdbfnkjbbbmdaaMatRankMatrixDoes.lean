/- The walk of matrix.Rank: the rank of a valid matrix, or the first error of any other. -/
import Derived.Test.YtbdbfnkjbbbmdaaMatRowsMatrixDoes
import Derived.Test.YtbdbfnkjbbbmdaaMatCheckMatrixDoes
namespace Go.Proofs.Ytbdbfnkjbbbmdaa.MatMatrixDoes
set_option linter.unusedSimpArgs false
set_option linter.unusedVariables false
open Go.RowKit Go.Proofs.Ytbdbfnkjbbbmdaa.PMatrixDoes Go.Proofs.YtbdbfnkjbbbmdaaW.PrintWords Go.Proofs.YtbdbfnkjbbbmdaaW.PrintLast Go.Proofs.Ytbdbfnkjbbbmdaa.Gf Go.Proofs.Ytbdbfnkjbbbmdaa.Lin Go.Proofs.Ytbdbfnkjbbbmdaa.MatMem Go.Proofs.Ytbdbfnkjbbbmdaa.MatData
theorem cells_C {w : World} {A : Option Addr} {l : List Int} (h : Kd.C (Kd.int .i64) w A l.length l) (hp : 0 < l.length) (he : isEl l = true) :
    ∃ ad, A = some ad ∧ ∀ j, j < l.length → w.cell? (ad.add j) = some (.int .i64 ((el l j).val : Int)) := by
  obtain ⟨ad, rfl, _⟩ := Kd.at_int h 0 (by omega) (by omega)
  refine ⟨ad, rfl, fun j hj => ?_⟩
  obtain ⟨ad', e, hc⟩ := Kd.at_int h (j : Int) (by omega) (by omega)
  cases e
  rw [el_val he hj]
  exact hc
/-- What Rank answers. -/
def RankEnd (R C : Int) (l : List Int) (w : World) (e : Ending) (w' : World) : Prop :=
  Below w.heap.size w w' ∧ ((∃ (R' C' r : Nat), R = R' ∧ C = C' ∧ Valid R' C' l ∧ IsRank R' C' (ent C' l) r ∧ e = .returned (.tuple #[.int .i64 (r : Int), .int .i64 0])) ∨ (chk R C l ≠ 0 ∧ e = .returned (.tuple #[.int .i64 0, .int .i64 (chk R C l)])))
set_option maxHeartbeats 2000000 in
theorem rank_any (R C : Int) (A : Option Addr) (c : Nat) (l : List Int) (w : World) (h : Kd.C (Kd.int .i64) w A l.length l) (hc : l.length ≤ c) (hl : l.length ≤ 140737488355328) :
    Calls Try.prog 25 #[.agg #[.int .i64 R, .int .i64 C, .slice A l.length c]] w (RankEnd R C l w) := by
  have H := Aside0.mk (And.intro h (And.intro hc hl))
  clear h hc hl
  have chkC := fun (o : Obj) => Aside0.mk (matrix_Check_any R C A c l (w.alloc o) (Kd.C_below H.out.1 ((Below.refl _ _).alloc (Nat.le_refl _) o)) H.out.2.1 H.out.2.2)
  by_cases hk : chk R C l = 0
  · obtain ⟨R, C, rfl, rfl, hv⟩ := valid_chk hk
    have HV := Aside0.mk hv
    have c0 : (chk (R : Int) (C : Int) l != 0) = false := by rw [hk]; rfl
    have hlen := hv.len
    have HK := Aside0.mk hk
    clear hk
    obtain ⟨ad, rfl, hcells⟩ := cells_C H.out.1 (by rw [hlen]; exact Nat.mul_pos hv.r0 hv.c0) hv.els
    have HC := Aside0.mk hcells
    clear hcells hv hlen
    go_enter Try.func25, Try.ntmps25
    go_wp2_with (go_at_call 32; (with_reducible refine ((chkC _).out).mono ?_); rintro e w' ⟨rfl, hb⟩; have HB := Aside0.mk hb; clear hb)
    have hb := HB.out
    have box : ∀ j v, (#[Value.int .i64 (R : Int), .int .i64 (C : Int), .slice (some ad) l.length c] : Array Value)[j]? = some v → w'.cell? ⟨w.heap.size, j, none⟩ = some v := by
      intro j v hv
      rw [hb.cell (p := ⟨w.heap.size, j, none⟩) (by simp)]
      simp [World.cell?_alloc_new, hv]
    have b0 := box 0 _ rfl
    have b1 := box 1 _ rfl
    have b2 := box 2 _ rfl
    have hlt : w.heap.size < w'.heap.size := by have := hb.size; simp at this; omega
    have HC2 := Aside0.mk (show ∀ j, j < R * C → w'.drew.cell? (ad.add j) = some (.int .i64 ((el l j).val : Int)) by
      intro j hj
      have hcj := HC.out j (by rw [HV.out.len]; exact hj)
      have hbl := World.block_lt_of_cell? _ _ hcj
      show w'.cell? (ad.add j) = _
      rw [hb.cell (p := ad.add j) (by simp; omega), World.cell?_alloc_old _ _ _ (by omega), hcj])
    clear box hb
    have HLT := Aside0.mk (show w.heap.size < w'.drew.heap.size from hlt)
    clear hlt
    go_region_with (first | (go_at_call 41; (with_reducible refine (rows_any ad R C c l.length (el l) w'.drew HV.out.len HV.out.r0 HV.out.r1 HV.out.c0 HV.out.c1 (by have := H.out.2.1; have := HV.out.len; omega) HC2.out).mono ?_); rintro e w2 ⟨g, cap, hb2, cp2, rfl, hm, hbel⟩; have d1 : w2.cell? ⟨w.heap.size, 1, none⟩ = some (.int .i64 (C : Int)) := (hbel.cell (p := ⟨w.heap.size, 1, none⟩) HLT.out).trans b1; have HM2 := Aside0.mk (And.intro hm hbel); clear hm hbel) | (go_at_call 40; (with_reducible refine (reduce_any _ g cap R C C hb2 cp2 _ _ HM2.out.1 HV.out.r1 (by have := HV.out.c1; omega) (Nat.le_refl _)).mono ?_); rintro e w3 ⟨r, hb3, cp3, M3, rfl, hm3, hi3, hbel3⟩; have HR := Aside0.mk (And.intro hi3 hbel3); clear hm3 hi3 hbel3))
    all_goals
      go_wp2
      go_ret2
      go_light
      have e1 : Below w.heap.size w w' := ((Below.refl _ _).alloc (Nat.le_refl _) _).trans (HB.out.mono (by simp))
      have e2 : Below w.heap.size w w'.drew := e1.drew
      have e3 : Below w.heap.size w w2 := e2.trans (HM2.out.2.mono (Nat.le_of_lt HLT.out))
      have e4 : Below w.heap.size w w3 := e3.trans (HR.out.2.mono (Nat.le_of_lt HLT.out))
      exact ⟨by first | exact e4 | exact e4.drew, .inl ⟨R, C, r, rfl, rfl, HV.out, HR.out.1.rank (Nat.le_refl _), rfl⟩⟩
  · have c0 : (chk R C l != 0) = true := by rw [bne_iff_ne]; exact hk
    have HK := Aside0.mk hk
    clear hk
    go_enter Try.func25, Try.ntmps25
    go_wp2_with (go_at_call 32; (with_reducible refine ((chkC _).out).mono ?_); rintro e w' ⟨rfl, hb⟩; have HB := Aside0.mk hb; clear hb)
    go_ret2
    go_light
    exact ⟨((Below.refl _ _).alloc (Nat.le_refl _) _).trans (HB.out.mono (by simp)), .inr ⟨HK.out, rfl⟩⟩
open Classical in
/-- The rank of a matrix. -/
noncomputable def rankOf (R C : Nat) (l : List Int) : Nat := if h : ∃ r, IsRank R C (ent C l) r then Classical.choose h else 0
theorem rankOf_eq {R C r : Nat} {l : List Int} (h : IsRank R C (ent C l) r) : rankOf R C l = r := by
  unfold rankOf
  rw [dif_pos ⟨r, h⟩]
  exact (Classical.choose_spec (⟨r, h⟩ : ∃ r, IsRank R C (ent C l) r)).unique h
end Go.Proofs.Ytbdbfnkjbbbmdaa.MatMatrixDoes
namespace Go.Proofs.Ytbdbfnkjbbbmdaa.PMatrixDoes
open Go.RowKit Go.Proofs.YtbdbfnkjbbbmdaaW.PrintWords Go.Proofs.YtbdbfnkjbbbmdaaW.PrintLast Go.Proofs.Ytbdbfnkjbbbmdaa.MatData Go.Proofs.Ytbdbfnkjbbbmdaa.MatMatrixDoes
/-- What Rank answers, at any matrix. -/
noncomputable def matrix_Rank.f (_k : Nat) (a0_0 : Int) (a0_1 : Int) (l0_2 : List Int) : Option (Int × Int) :=
  if l0_2.length ≤ 140737488355328 then (if chk a0_0 a0_1 l0_2 = 0 then some ((rankOf a0_0.toNat a0_1.toNat l0_2 : Int), 0) else some (0, chk a0_0 a0_1 l0_2)) else none
theorem matrix_Rank.mono : ∀ a0 a1 a2 k, LeO (matrix_Rank.f k a0 a1 a2) (matrix_Rank.f (k + 1) a0 a1 a2) := fun _ _ _ _ => LeO.refl _
theorem matrix_Rank.calls (k : Nat) (a0_0 : Int) (a0_1 : Int) (A0_2 : Option Addr) (c0_2 : Nat) (l0_2 : List Int) (r1 : Int) (r2 : Int) (w : World) (hr0_2 : Kd.C (Kd.int .i64) w A0_2 l0_2.length l0_2) (hc0_2 : l0_2.length ≤ c0_2) (h : matrix_Rank.f k a0_0 a0_1 l0_2 = some (r1, r2)) :
    Calls Try.prog 25 #[.agg #[.int .i64 a0_0, .int .i64 a0_1, .slice A0_2 l0_2.length c0_2]] w fun e w' => e = .returned (.tuple #[.int .i64 r1, .int .i64 r2]) ∧ Below w.heap.size w w' := by
  unfold matrix_Rank.f at h
  by_cases hl : l0_2.length ≤ 140737488355328
  · rw [if_pos hl] at h
    refine (rank_any a0_0 a0_1 A0_2 c0_2 l0_2 w hr0_2 hc0_2 hl).mono ?_
    rintro e w' ⟨hb, hx⟩
    refine ⟨?_, hb⟩
    rcases hx with ⟨R, C, r, rfl, rfl, hv, hr, rfl⟩ | ⟨hk, rfl⟩
    · rw [if_pos (chk_valid hv)] at h
      simp only [Int.toNat_natCast, rankOf_eq hr, Option.some.injEq, Prod.mk.injEq] at h
      obtain ⟨rfl, rfl⟩ := h
      rfl
    · rw [if_neg hk] at h
      simp only [Option.some.injEq, Prod.mk.injEq] at h
      obtain ⟨rfl, rfl⟩ := h
      rfl
  · rw [if_neg hl] at h
    cases h
end Go.Proofs.Ytbdbfnkjbbbmdaa.PMatrixDoes
