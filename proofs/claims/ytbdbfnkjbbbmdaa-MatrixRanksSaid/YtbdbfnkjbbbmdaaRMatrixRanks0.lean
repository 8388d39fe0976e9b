/- The walks of storagebarterlaw06_sane, storagebarterlaw06_MatrixRanks, over the contracts of their callees: written by a program of this session. -/
import Derived.Test.YtbdbfnkjbbbmdaaPMatrixRanksx0
import Derived.Test.YtbdbfnkjbbbmdaaPMatrixRanksx1
import Derived.Test.YtbdbfnkjbbbmdaaPMatrixRanksx2
import Derived.Test.YtbdbfnkjbbbmdaaPMatrixRanksx3
import Derived.Test.YtbdbfnkjbbbmdaaPMatrixRanksx4
import Derived.Test.YtbdbfnkjbbbmdaaMatRankMatrixRanks
import Derived.Test.YtbdbfnkjbbbmdaaMatPickMatrixRanks
namespace Go.Proofs.Ytbdbfnkjbbbmdaa.PMatrixRanks
open Go.RowKit Go.Proofs.YtbdbfnkjbbbmdaaW.PrintWords Go.Proofs.YtbdbfnkjbbbmdaaW.PrintLast Go.Proofs.YtbdbfnkjbbbmdaaW.PrintMore
attribute [local go_sem] max2_int min2_int max_two min_two max_three min_three max_four min_four
set_option linter.unusedVariables false
set_option linter.unusedSimpArgs false
noncomputable section

/-! ### storagebarterlaw06_sane: function 11 -/
def storagebarterlaw06_sane.f (k : Nat)  : Option (Bool) := (matrix_Cauchy.f k 1 2).bind fun bt133 => ((matrix_Identity.f k 2).bind fun bt140 => ((matrix_Rank.f k bt140.1 bt140.2.1 bt140.2.2.1).bind fun bt147 => (if bt133.2.2.2 = 0 then (if bt140.2.2.2 = 0 then (if bt147.2 = 0 then (if (bt133.2.2.1.length : Int) = 2 then (if 0 < (bt133.2.2.1.length : Int) then (if (rd bt133.2.2.1 0) = 1 then (if 1 < (bt133.2.2.1.length : Int) then (if (rd bt133.2.2.1 1) = 9 then (some (bt147.1 == 2)) else (some false)) else (none)) else (some false)) else (none)) else (some false)) else (some false)) else (some false)) else (some false))))
theorem storagebarterlaw06_sane.mono : ∀ k, LeO (storagebarterlaw06_sane.f k ) (storagebarterlaw06_sane.f (k + 1) ) := by
  intro  k
  unfold storagebarterlaw06_sane.f
  repeat' first
      | (with_reducible exact matrix_Cauchy.mono _ _ _)
      | (with_reducible exact matrix_Identity.mono _ _)
      | (with_reducible exact matrix_Rank.mono _ _ _ _)
      | (with_reducible exact LeO.refl _)
      | (with_reducible exact LeO.none _)
      | (with_reducible refine LeO.ite ?_ ?_)
      | (with_reducible refine LeO.bind ?_ (fun _ => ?_))
      | exact matrix_Cauchy.mono _ _ _
      | exact matrix_Identity.mono _ _
      | exact matrix_Rank.mono _ _ _ _
      | exact LeO.none _
      | refine LeO.ite ?_ ?_
      | refine LeO.bind ?_ (fun _ => ?_)
set_option maxHeartbeats 8000000 in
set_option maxRecDepth 100000 in
theorem storagebarterlaw06_sane.calls (k : Nat)  (w : World) (h : storagebarterlaw06_sane.f k  = some true) :
    Calls Try.prog 11 #[] w fun e w' => e = .returned (.bool true) ∧ Below w.heap.size w w' := by
  have hu26 := Try.underlying26
  have HB := Aside0.mk (Below.refl w.heap.size w)
  have H : ((matrix_Cauchy.f k 1 2).bind fun bt133 => ((matrix_Identity.f k 2).bind fun bt140 => ((matrix_Rank.f k bt140.1 bt140.2.1 bt140.2.2.1).bind fun bt147 => (if bt133.2.2.2 = 0 then (if bt140.2.2.2 = 0 then (if bt147.2 = 0 then (if (bt133.2.2.1.length : Int) = 2 then (if 0 < (bt133.2.2.1.length : Int) then (if (rd bt133.2.2.1 0) = 1 then (if 1 < (bt133.2.2.1.length : Int) then (if (rd bt133.2.2.1 1) = 9 then (some (bt147.1 == 2)) else (some false)) else (none)) else (some false)) else (none)) else (some false)) else (some false)) else (some false)) else (some false))))) = some true := h
  clear h
  replace H := Option.bind_eq_some_iff.mp H
  obtain ⟨⟨t133, t134, t135, t138⟩, A10, H⟩ := H
  replace H : ((matrix_Identity.f k 2).bind fun bt140 => ((matrix_Rank.f k bt140.1 bt140.2.1 bt140.2.2.1).bind fun bt147 => (if t138 = 0 then (if bt140.2.2.2 = 0 then (if bt147.2 = 0 then (if (t135.length : Int) = 2 then (if 0 < (t135.length : Int) then (if (rd t135 0) = 1 then (if 1 < (t135.length : Int) then (if (rd t135 1) = 9 then (some (bt147.1 == 2)) else (some false)) else (none)) else (some false)) else (none)) else (some false)) else (some false)) else (some false)) else (some false)))) = some true := H
  have A1 := Aside0.mk A10
  clear A10
  replace H := Option.bind_eq_some_iff.mp H
  obtain ⟨⟨t140, t141, t142, t145⟩, A20, H⟩ := H
  replace H : ((matrix_Rank.f k t140 t141 t142).bind fun bt147 => (if t138 = 0 then (if t145 = 0 then (if bt147.2 = 0 then (if (t135.length : Int) = 2 then (if 0 < (t135.length : Int) then (if (rd t135 0) = 1 then (if 1 < (t135.length : Int) then (if (rd t135 1) = 9 then (some (bt147.1 == 2)) else (some false)) else (none)) else (some false)) else (none)) else (some false)) else (some false)) else (some false)) else (some false))) = some true := H
  have A2 := Aside0.mk A20
  clear A20
  replace H := Option.bind_eq_some_iff.mp H
  obtain ⟨⟨t147, t148⟩, A30, H⟩ := H
  replace H : (if t138 = 0 then (if t145 = 0 then (if t148 = 0 then (if (t135.length : Int) = 2 then (if 0 < (t135.length : Int) then (if (rd t135 0) = 1 then (if 1 < (t135.length : Int) then (if (rd t135 1) = 9 then (some (t147 == 2)) else (some false)) else (none)) else (some false)) else (none)) else (some false)) else (some false)) else (some false)) else (some false)) = some true := H
  have A3 := Aside0.mk A30
  clear A30
  by_cases c4 : t138 = 0
  · rw [if_pos c4] at H
    have c4b0 : (t138 == 0) = true := beq_iff_eq.mpr c4
    have c4b1 : (t138 != 0) = false := bne_eq_false_iff_eq.mpr c4
    clear c4
    by_cases c5 : t145 = 0
    · rw [if_pos c5] at H
      have c5b0 : (t145 == 0) = true := beq_iff_eq.mpr c5
      have c5b1 : (t145 != 0) = false := bne_eq_false_iff_eq.mpr c5
      clear c5
      by_cases c6 : t148 = 0
      · rw [if_pos c6] at H
        have c6b0 : (t148 == 0) = true := beq_iff_eq.mpr c6
        have c6b1 : (t148 != 0) = false := bne_eq_false_iff_eq.mpr c6
        clear c6
        by_cases c7 : (t135.length : Int) = 2
        · rw [if_pos c7] at H
          have c7b0 : ((t135.length : Int) == 2) = true := beq_iff_eq.mpr c7
          have c7b1 : ((t135.length : Int) != 2) = false := bne_eq_false_iff_eq.mpr c7
          clear c7
          by_cases c8 : 0 < (t135.length : Int)
          · rw [if_pos c8] at H
            have c8b0 : decide (0 < (t135.length : Int)) = true := decide_eq_true c8
            have c8b1 : decide (0 < t135.length) = true := decide_eq_true (by omega)
            clear c8
            by_cases c9 : (rd t135 0) = 1
            · rw [if_pos c9] at H
              have c9b0 : ((rd t135 0) == 1) = true := beq_iff_eq.mpr c9
              have c9b1 : ((rd t135 0) != 1) = false := bne_eq_false_iff_eq.mpr c9
              clear c9
              by_cases c10 : 1 < (t135.length : Int)
              · rw [if_pos c10] at H
                have c10b0 : decide (1 < (t135.length : Int)) = true := decide_eq_true c10
                have c10b1 : decide (1 < t135.length) = true := decide_eq_true (by omega)
                clear c10
                by_cases c11 : (rd t135 1) = 9
                · rw [if_pos c11] at H
                  have c11b0 : ((rd t135 1) == 9) = true := beq_iff_eq.mpr c11
                  have c11b1 : ((rd t135 1) != 9) = false := bne_eq_false_iff_eq.mpr c11
                  clear c11
                  have HL_ := Aside0.mk (Option.some.inj H)
                  clear H
                  go_enter Try.func11, Try.ntmps11
                  go_wp2_with (first | ((with_reducible refine gate_callee (f := 16) rfl ?_); refine goesL_ (some 8) rfl rfl Try.func16 (by kernel_rfl) rfl #[.int .i64 1, .int .i64 2] rfl (by (try simp only [List.map_toArray, List.map_cons, List.map_nil]); first | done | rfl | (simp only [List.length_drop, List.length_take]; rfl)) ?_; (with_reducible refine (matrix_Cauchy.calls k 1 2 t133 t134 t135 t138 _ A1.out).mono ?_); rintro e w12 ⟨v136, rfl, ho0, hb⟩; refine ⟨_, rfl, ?_⟩; have n0_ := Aside0.mk (Kd.R_lower ho0 (below_size (by repeat (first | (with_reducible first | exact HB.out | apply below_alloc | apply pw_below_drewN | apply below_drew1) | exact HB.out)))); have n1_ := Aside0.mk (below_step (by repeat (first | (with_reducible first | exact HB.out | apply below_alloc | apply pw_below_drewN | apply below_drew1) | exact HB.out)) hb); clear HB; have HO137 := n0_; have HB := n1_; clear n0_ n1_; (try clear hb); (try clear hb2); (try clear hk); (try clear hi); (try clear ho0)) | ((with_reducible refine gate_dst (N := 1) rfl ?_); (try (refine gate_guard (by rfl) ?_; dsimp only)); refine box_event ?hg (N := 1) ?hd (cs := #[.int .i64 0, .int .i64 0, .slice none 0 0]) (t := 26) ?hr ?_; (case hd => rfl); (case hg => rfl); (case hr => first | (go_simp; done) | (go_simp; rfl)); intro gb139 hg w13 hbox hb; have n0_ := Aside0.mk (Kd.R_below (by (with_reducible repeat (first | apply Kd.R_alloc | apply Kd.R_drewN | apply Kd.R_drew)); exact HO137.out) hb); have n1_ := Aside0.mk (below_step (by repeat (first | (with_reducible first | exact HB.out | apply below_alloc | apply pw_below_drewN | apply below_drew1) | exact HB.out)) hb); have n2_ := Aside0.mk (hbox); have n3_ := Aside0.mk ((by rw [hg]; exact (below_size (by repeat (first | (with_reducible first | exact HB.out | apply below_alloc | apply pw_below_drewN | apply below_drew1) | exact HB.out))) : w.heap.size ≤ gb139)); have n4_ := Aside0.mk ((by rw [hg]; exact (below_size (by repeat (first | (with_reducible first | exact HB.out | apply below_alloc | apply pw_below_drewN | apply below_drew1) | exact HB.out))) : w.heap.size ≤ gb139)); clear HO137; clear HB; have HO137 := n0_; have HB := n1_; have BK139 := n2_; have GW139 := n3_; have GE139 := n4_; clear n0_ n1_ n2_ n3_ n4_; clear hb hbox hg; have hcz14_0 : w13.cell? ⟨gb139, 0, none⟩ = some (.int .i64 0) := (blk_cell BK139.out 0).trans rfl; have hcz14_1 : w13.cell? ⟨gb139, 1, none⟩ = some (.int .i64 0) := (blk_cell BK139.out 1).trans rfl; have hcz14_2 : w13.cell? ⟨gb139, 2, none⟩ = some (.slice none 0 0) := (blk_cell BK139.out 2).trans rfl; have hfz14_0 := blk_frozen BK139.out 0; have hfz14_1 := blk_frozen BK139.out 1; have hfz14_2 := blk_frozen BK139.out 2; obtain ⟨Ao15, co15, eo15⟩ := Kd.R_slice HO137.out; subst eo15) | ((with_reducible refine gate_callee (f := 13) rfl ?_); refine goesL_ (some 12) rfl rfl Try.func13 (by kernel_rfl) rfl #[.int .i64 2] rfl (by (try simp only [List.map_toArray, List.map_cons, List.map_nil]); first | done | rfl | (simp only [List.length_drop, List.length_take]; rfl)) ?_; (with_reducible refine (matrix_Identity.calls k 2 t140 t141 t142 t145 _ A2.out).mono ?_); rintro e w16 ⟨v143, rfl, ho0, hb⟩; refine ⟨_, rfl, ?_⟩; have n0_ := Aside0.mk (Kd.R_elder' (by (with_reducible repeat (first | apply Kd.R_alloc | apply Kd.R_drewN | apply Kd.R_drew)); exact (Kd.R_mono (Kd.R_far (p := ⟨gb139, 2, none⟩) (Kd.R_far (p := ⟨gb139, 1, none⟩) (Kd.R_far (p := ⟨gb139, 0, none⟩) (Kd.R_types HO137.out BK139.out (by decide)) (fun _ hk => hk.2) (.int .i64 t133)) (fun _ hk => hk.2) (.int .i64 t134)) (fun _ hk => hk.2) (.slice Ao15 t135.length co15)) (fun _ h_ => h_.1))) (Kd.R_base ho0) hb); have n1_ := Aside0.mk (Kd.R_lower (Kd.R_new' ho0 (Kd.R_lt (by (with_reducible repeat (first | apply Kd.R_alloc | apply Kd.R_drewN | apply Kd.R_drew)); exact (Kd.R_mono (Kd.R_far (p := ⟨gb139, 2, none⟩) (Kd.R_far (p := ⟨gb139, 1, none⟩) (Kd.R_far (p := ⟨gb139, 0, none⟩) (Kd.R_types HO137.out BK139.out (by decide)) (fun _ hk => hk.2) (.int .i64 t133)) (fun _ hk => hk.2) (.int .i64 t134)) (fun _ hk => hk.2) (.slice Ao15 t135.length co15)) (fun _ h_ => h_.1))))) (below_size (by repeat (first | (with_reducible first | exact HB.out | apply below_alloc | apply pw_below_drewN | apply below_drew1 | refine below_set ?_ GE139.out) | exact HB.out)))); have n2_ := Aside0.mk (blk_below (g := gb139) (o := .cells #[.int .i64 t133, .int .i64 t134, .slice Ao15 t135.length co15] 26 (0, 0)) (by (with_reducible repeat (first | refine blk_drewN ?_ _ | refine blk_drew ?_ | refine blk_alloc ?_ _)); refine blk_put (cs := #[.int .i64 t133, .int .i64 t134, .slice none 0 0]) ?_ 2 _ rfl; (with_reducible repeat (first | refine blk_drewN ?_ _ | refine blk_drew ?_ | refine blk_alloc ?_ _)); refine blk_put (cs := #[.int .i64 t133, .int .i64 0, .slice none 0 0]) ?_ 1 _ rfl; (with_reducible repeat (first | refine blk_drewN ?_ _ | refine blk_drew ?_ | refine blk_alloc ?_ _)); refine blk_put (cs := #[.int .i64 0, .int .i64 0, .slice none 0 0]) ?_ 0 _ rfl; (with_reducible repeat (first | refine blk_drewN ?_ _ | refine blk_drew ?_ | refine blk_alloc ?_ _)); exact BK139.out) hb); have n3_ := Aside0.mk (below_step (by repeat (first | (with_reducible first | exact HB.out | apply below_alloc | apply pw_below_drewN | apply below_drew1 | refine below_set ?_ GE139.out) | exact HB.out)) hb); clear HO137; clear BK139; clear HB; have HO137 := n0_; have HO144 := n1_; have BK139 := n2_; have HB := n3_; clear n0_ n1_ n2_ n3_; (try clear hb); (try clear hb2); (try clear hk); (try clear hi); (try clear ho0)) | ((with_reducible refine gate_dst (N := 3) rfl ?_); (try (refine gate_guard (by rfl) ?_; dsimp only)); refine box_event ?hg (N := 3) ?hd (cs := #[.int .i64 0, .int .i64 0, .slice none 0 0]) (t := 26) ?hr ?_; (case hd => rfl); (case hg => rfl); (case hr => first | (go_simp; done) | (go_simp; rfl)); intro gb146 hg w17 hbox hb; have n0_ := Aside0.mk (Kd.R_below (by (with_reducible repeat (first | apply Kd.R_alloc | apply Kd.R_drewN | apply Kd.R_drew)); exact HO137.out) hb); have n1_ := Aside0.mk (Kd.R_below (by (with_reducible repeat (first | apply Kd.R_alloc | apply Kd.R_drewN | apply Kd.R_drew)); exact HO144.out) hb); have n2_ := Aside0.mk (blk_below (g := gb139) (o := .cells #[.int .i64 t133, .int .i64 t134, .slice Ao15 t135.length co15] 26 (0, 0)) (by (with_reducible repeat (first | refine blk_drewN ?_ _ | refine blk_drew ?_ | refine blk_alloc ?_ _)); exact BK139.out) hb); have n3_ := Aside0.mk (below_step (by repeat (first | (with_reducible first | exact HB.out | apply below_alloc | apply pw_below_drewN | apply below_drew1 | refine below_set ?_ GE139.out) | exact HB.out)) hb); have n4_ := Aside0.mk (hbox); have n5_ := Aside0.mk ((by rw [hg]; exact (below_size (by repeat (first | (with_reducible first | exact HB.out | apply below_alloc | apply pw_below_drewN | apply below_drew1 | refine below_set ?_ GE139.out) | exact HB.out))) : w.heap.size ≤ gb146)); have n6_ := Aside0.mk ((by rw [hg]; exact (below_size (by repeat (first | (with_reducible first | exact HB.out | apply below_alloc | apply pw_below_drewN | apply below_drew1 | refine below_set ?_ GE139.out) | exact HB.out))) : w.heap.size ≤ gb146)); have n7_ := Aside0.mk ((by rw [hg]; exact Nat.ne_of_lt (blk_lt (g := gb139) (o := .cells #[.int .i64 t133, .int .i64 t134, .slice Ao15 t135.length co15] 26 (0, 0)) (by (with_reducible repeat (first | refine blk_drewN ?_ _ | refine blk_drew ?_ | refine blk_alloc ?_ _)); exact BK139.out)) : gb139 ≠ gb146)); have n8_ := Aside0.mk ((by rw [hg]; exact Nat.ne_of_gt (blk_lt (g := gb139) (o := .cells #[.int .i64 t133, .int .i64 t134, .slice Ao15 t135.length co15] 26 (0, 0)) (by (with_reducible repeat (first | refine blk_drewN ?_ _ | refine blk_drew ?_ | refine blk_alloc ?_ _)); exact BK139.out)) : gb146 ≠ gb139)); clear HO137; clear HO144; clear BK139; clear HB; have HO137 := n0_; have HO144 := n1_; have BK139 := n2_; have HB := n3_; have BK146 := n4_; have GW146 := n5_; have GE146 := n6_; have NB139_146 := n7_; have NB146_139 := n8_; clear n0_ n1_ n2_ n3_ n4_ n5_ n6_ n7_ n8_; clear hb hbox hg; have hnb18 := NB146_139.out; have hnc18 := NB139_146.out; have hcz19_0 : w17.cell? ⟨gb146, 0, none⟩ = some (.int .i64 0) := (blk_cell BK146.out 0).trans rfl; have hcz19_1 : w17.cell? ⟨gb146, 1, none⟩ = some (.int .i64 0) := (blk_cell BK146.out 1).trans rfl; have hcz19_2 : w17.cell? ⟨gb146, 2, none⟩ = some (.slice none 0 0) := (blk_cell BK146.out 2).trans rfl; have hfz19_0 := blk_frozen BK146.out 0; have hfz19_1 := blk_frozen BK146.out 1; have hfz19_2 := blk_frozen BK146.out 2; obtain ⟨Ao20, co20, eo20⟩ := Kd.R_slice HO144.out; subst eo20) | ((with_reducible refine gate_callee (f := 25) rfl ?_); refine goesL_ (some 17) rfl rfl Try.func25 (by kernel_rfl) rfl #[.agg #[.int .i64 t140, .int .i64 t141, .slice Ao20 t142.length co20]] rfl (by (try simp only [List.map_toArray, List.map_cons, List.map_nil]); first | done | rfl | (simp only [List.length_drop, List.length_take]; rfl)) ?_; (with_reducible refine (matrix_Rank.calls k t140 t141 _ _ t142 t147 t148 _ ?side1 ?side2 A3.out).mono ?_); (case side1 => refine (Kd.R_reads' (e := 3) (base := w.heap.size) (ok := fun k_ => (True ∧ some k_ ≠ (.slice Ao15 t135.length co15 : Value).ownBlock)) (n := t142.length) (c := co20) ?_).2.2; exact (by (with_reducible repeat (first | apply Kd.R_alloc | apply Kd.R_drewN | apply Kd.R_drew)); exact (Kd.R_mono (Kd.R_far (p := ⟨gb146, 2, none⟩) (Kd.R_far (p := ⟨gb146, 1, none⟩) (Kd.R_far (p := ⟨gb146, 0, none⟩) (Kd.R_types HO144.out BK146.out (by decide)) (fun _ hk => hk.2) (.int .i64 t140)) (fun _ hk => hk.2) (.int .i64 t141)) (fun _ hk => hk.2) (.slice Ao20 t142.length co20)) (fun _ h_ => h_.1)))); (case side2 => exact (Kd.R_reads' HO144.out).2.1); rintro e w21 ⟨rfl, hb⟩; refine ⟨_, rfl, ?_⟩; have n0_ := Aside0.mk (Kd.R_below (by (with_reducible repeat (first | apply Kd.R_alloc | apply Kd.R_drewN | apply Kd.R_drew)); exact (Kd.R_mono (Kd.R_far (p := ⟨gb146, 2, none⟩) (Kd.R_far (p := ⟨gb146, 1, none⟩) (Kd.R_far (p := ⟨gb146, 0, none⟩) (Kd.R_types HO137.out BK146.out (by decide)) (fun _ hk => hk.2) (.int .i64 t140)) (fun _ hk => hk.2) (.int .i64 t141)) (fun _ hk => hk.2) (.slice Ao20 t142.length co20)) (fun _ h_ => h_.1))) hb); have n1_ := Aside0.mk (Kd.R_below (by (with_reducible repeat (first | apply Kd.R_alloc | apply Kd.R_drewN | apply Kd.R_drew)); exact (Kd.R_mono (Kd.R_far (p := ⟨gb146, 2, none⟩) (Kd.R_far (p := ⟨gb146, 1, none⟩) (Kd.R_far (p := ⟨gb146, 0, none⟩) (Kd.R_types HO144.out BK146.out (by decide)) (fun _ hk => hk.2) (.int .i64 t140)) (fun _ hk => hk.2) (.int .i64 t141)) (fun _ hk => hk.2) (.slice Ao20 t142.length co20)) (fun _ h_ => h_.1))) hb); have n2_ := Aside0.mk (blk_below (g := gb139) (o := .cells #[.int .i64 t133, .int .i64 t134, .slice Ao15 t135.length co15] 26 (0, 0)) (by (with_reducible repeat (first | refine blk_drewN ?_ _ | refine blk_drew ?_ | refine blk_alloc ?_ _)); refine blk_far ?_ NB139_146.out _; (with_reducible repeat (first | refine blk_drewN ?_ _ | refine blk_drew ?_ | refine blk_alloc ?_ _)); refine blk_far ?_ NB139_146.out _; (with_reducible repeat (first | refine blk_drewN ?_ _ | refine blk_drew ?_ | refine blk_alloc ?_ _)); refine blk_far ?_ NB139_146.out _; (with_reducible repeat (first | refine blk_drewN ?_ _ | refine blk_drew ?_ | refine blk_alloc ?_ _)); exact BK139.out) hb); have n3_ := Aside0.mk (blk_below (g := gb146) (o := .cells #[.int .i64 t140, .int .i64 t141, .slice Ao20 t142.length co20] 26 (0, 0)) (by (with_reducible repeat (first | refine blk_drewN ?_ _ | refine blk_drew ?_ | refine blk_alloc ?_ _)); refine blk_put (cs := #[.int .i64 t140, .int .i64 t141, .slice none 0 0]) ?_ 2 _ rfl; (with_reducible repeat (first | refine blk_drewN ?_ _ | refine blk_drew ?_ | refine blk_alloc ?_ _)); refine blk_put (cs := #[.int .i64 t140, .int .i64 0, .slice none 0 0]) ?_ 1 _ rfl; (with_reducible repeat (first | refine blk_drewN ?_ _ | refine blk_drew ?_ | refine blk_alloc ?_ _)); refine blk_put (cs := #[.int .i64 0, .int .i64 0, .slice none 0 0]) ?_ 0 _ rfl; (with_reducible repeat (first | refine blk_drewN ?_ _ | refine blk_drew ?_ | refine blk_alloc ?_ _)); exact BK146.out) hb); have n4_ := Aside0.mk (below_step (by repeat (first | (with_reducible first | exact HB.out | apply below_alloc | apply pw_below_drewN | apply below_drew1 | refine below_set ?_ GE139.out | refine below_set ?_ GE146.out) | exact HB.out)) hb); clear HO137; clear HO144; clear BK139; clear BK146; clear HB; have HO137 := n0_; have HO144 := n1_; have BK139 := n2_; have BK146 := n3_; have HB := n4_; clear n0_ n1_ n2_ n3_ n4_; (try clear hb); (try clear hb2); (try clear hk); (try clear hi); have hcz22_0 : w21.cell? ⟨gb139, 0, none⟩ = some (.int .i64 t133) := (blk_cell BK139.out 0).trans rfl; have hcz22_1 : w21.cell? ⟨gb139, 1, none⟩ = some (.int .i64 t134) := (blk_cell BK139.out 1).trans rfl; have hcz22_2 : w21.cell? ⟨gb139, 2, none⟩ = some (.slice Ao15 t135.length co15) := (blk_cell BK139.out 2).trans rfl; have hfz22_0 := blk_frozen BK139.out 0; have hfz22_1 := blk_frozen BK139.out 1; have hfz22_2 := blk_frozen BK139.out 2; have p149 : 0 ≤ (0 : Int) := (by omega); have q149 : 0 < (t135.length : Int) := of_decide_eq_true (by first | (with_reducible assumption) | assumption); obtain ⟨ad149, e149, hx149_0⟩ := Kd.at_int (Kd.R_reads' HO137.out).2.2 0 p149 q149; cases e149; have qi149 : (0 < t135.length) = True := eq_true (by omega); (try rw [show ((0 : Int)).toNat = 0 from rfl] at hx149_0); (try rw [Addr.add_zero'] at hx149_0); replace p149 := eq_true p149; replace q149 := eq_true q149; have p150 : 0 ≤ (1 : Int) := (by omega); have q150 : 1 < (t135.length : Int) := of_decide_eq_true (by first | (with_reducible assumption) | assumption); obtain ⟨ad150, e150, hx150_0⟩ := Kd.at_int (Kd.R_reads' HO137.out).2.2 1 p150 q150; obtain rfl : ad149 = ad150 := (by injection e150); (try simp only [show (1 : Int).toNat = 1 from rfl, Nat.reduceMul, Nat.reduceEqDiff, Go.Addr.add, ↓reduceIte] at hx150_0); have qi150 : (1 < t135.length) = True := eq_true (by omega); (try rw [show ((1 : Int)).toNat = 1 from rfl] at hx150_0); replace p150 := eq_true p150; replace q150 := eq_true q150))
                  go_ret
                  exact ⟨by first | rfl | (rw [HL_.out]; rfl) | (simp [errW_none, errW_some] <;> rfl) | (simp [*, errW_none, errW_some] <;> rfl), by repeat (first | (with_reducible first | exact HB.out | apply below_alloc | apply pw_below_drewN | apply below_drew1 | refine below_set ?_ GE139.out | refine below_set ?_ GE146.out) | exact HB.out)⟩
                · rw [if_neg c11] at H
                  have c11b0 : ((rd t135 1) == 9) = false := beq_eq_false_iff_ne.mpr c11
                  have c11b1 : ((rd t135 1) != 9) = true := bne_iff_ne.mpr c11
                  exact absurd H (by simp)
              · rw [if_neg c10] at H
                exact absurd H (by simp)
            · rw [if_neg c9] at H
              have c9b0 : ((rd t135 0) == 1) = false := beq_eq_false_iff_ne.mpr c9
              have c9b1 : ((rd t135 0) != 1) = true := bne_iff_ne.mpr c9
              exact absurd H (by simp)
          · rw [if_neg c8] at H
            exact absurd H (by simp)
        · rw [if_neg c7] at H
          have c7b0 : ((t135.length : Int) == 2) = false := beq_eq_false_iff_ne.mpr c7
          have c7b1 : ((t135.length : Int) != 2) = true := bne_iff_ne.mpr c7
          exact absurd H (by simp)
      · rw [if_neg c6] at H
        have c6b0 : (t148 == 0) = false := beq_eq_false_iff_ne.mpr c6
        have c6b1 : (t148 != 0) = true := bne_iff_ne.mpr c6
        exact absurd H (by simp)
    · rw [if_neg c5] at H
      have c5b0 : (t145 == 0) = false := beq_eq_false_iff_ne.mpr c5
      have c5b1 : (t145 != 0) = true := bne_iff_ne.mpr c5
      exact absurd H (by simp)
  · rw [if_neg c4] at H
    have c4b0 : (t138 == 0) = false := beq_eq_false_iff_ne.mpr c4
    have c4b1 : (t138 != 0) = true := bne_iff_ne.mpr c4
    exact absurd H (by simp)


/-! ### storagebarterlaw06_MatrixRanks: function 5 -/
mutual
def storagebarterlaw06_MatrixRanks.l0 : Nat → Int → Int → Int → Int → Int → List Int → Int → Int → List Int → Int → Int → List Int → Int → Int → List Int → Option (Bool)
  | 0, _, _, _, _, _, _, _, _, _, _, _, _, _, _, _ => none
  | k + 1, x7, x9, x11, x191000, x191001, x191002, x202000, x202001, x202002, x212000, x212001, x212002, x213000, x213001, x213002 => if x11 < x191001 then (storagebarterlaw06_MatrixRanks.l1 k x7 x9 x11 0 x191000 x191001 x191002 x202000 x202001 x202002 x212000 x212001 x212002 x213000 x213001 x213002) else ((matrix_Rank.f k x191000 x191001 x191002).bind fun bt217 => ((matrix_Rank.f k x202000 x202001 x202002).bind fun bt219 => ((matrix_Rank.f k x212000 x212001 x212002).bind fun bt221 => ((matrix_Rank.f k x213000 x213001 x213002).bind fun bt223 => (if x7 = 0 then (if x9 = 0 then (if bt217.2 = 0 then (if bt219.2 = 0 then (if bt221.2 = 0 then (if bt223.2 = 0 then (if bt217.1 = bt219.1 then (if bt217.1 = bt221.1 then (if bt217.1 = bt223.1 then (some (decide (bt217.1 ≤ (mn x191000 x191001)))) else (some false)) else (some false)) else (some false)) else (some false)) else (some false)) else (some false)) else (some false)) else (some false)) else (some false))))))
def storagebarterlaw06_MatrixRanks.l1 : Nat → Int → Int → Int → Int → Int → Int → List Int → Int → Int → List Int → Int → Int → List Int → Int → Int → List Int → Option (Bool)
  | 0, _, _, _, _, _, _, _, _, _, _, _, _, _, _, _, _ => none
  | k + 1, x7, x9, x11, x12, x191000, x191001, x191002, x202000, x202001, x202002, x212000, x212001, x212002, x213000, x213001, x213002 => if x12 < x191000 then (if 0 ≤ (wrap64 ((wrap64 (x12 * x191001)) + x11)) then (if (wrap64 ((wrap64 (x12 * x191001)) + x11)) < (x191002.length : Int) then (if x213002.length < 17592186044416 then (storagebarterlaw06_MatrixRanks.l1 k x7 x9 x11 (wrap64 (x12 + 1)) x191000 x191001 x191002 x202000 x202001 x202002 x212000 x212001 x212002 x213000 x213001 (x213002 ++ [rd x191002 (wrap64 ((wrap64 (x12 * x191001)) + x11))])) else (none)) else (none)) else (none)) else (storagebarterlaw06_MatrixRanks.l0 k x7 x9 (wrap64 (x11 + 1)) x191000 x191001 x191002 x202000 x202001 x202002 x212000 x212001 x212002 x213000 x213001 x213002)
end
def storagebarterlaw06_MatrixRanks.f (k : Nat) (l0 : List Int) : Option (Bool) := (storagebarterlaw06_sane.f k).bind fun t175 => (if t175 = true then ((storagebartermake_Few.f l0).bind fun t176 => (if t176 = true then ((storagebartermake_New.f l0).bind fun bt177 => ((storagebartermake_Deck_Next.f bt177.1 bt177.2 6).bind fun bt180 => ((storagebartermake_Deck_Next.f bt177.1 bt180.2 6).bind fun bt182 => ((storagebartermake_Matrix.f k bt177.1 bt182.2 (wrap64 (1 + bt180.1)) (wrap64 (1 + bt182.1))).bind fun bt184 => ((storagebarterlaw06_pick.f bt177.1 bt184.2.2.2 bt184.1 bt184.1).bind fun bt191 => ((matrix_Pick.f k bt184.1 bt184.2.1 bt184.2.2.1 bt191.1).bind fun bt195 => (if ((bt191.1.length : Int) = bt184.1 ∧ 1 ≤ bt184.1 ∧ bt184.1 ≤ 8) then ((matrix_Pick.f k bt184.1 bt184.2.1 bt184.2.2.1 (bt191.1 ++ bt191.1)).bind fun bt205 => (storagebarterlaw06_MatrixRanks.l0 k bt195.2.2.2 bt205.2.2.2 0 bt184.1 bt184.2.1 bt184.2.2.1 bt195.1 bt195.2.1 bt195.2.2.1 bt205.1 bt205.2.1 bt205.2.2.1 bt184.2.1 bt184.1 ([] : List Int))) else (none)))))))) else (some true))) else (some false))
theorem storagebarterlaw06_MatrixRanks.mono_l : ∀ k, (∀ y0 y1 y2 y3 y4 y5 y6 y7 y8 y9 y10 y11 y12 y13 y14, LeO (storagebarterlaw06_MatrixRanks.l0 k y0 y1 y2 y3 y4 y5 y6 y7 y8 y9 y10 y11 y12 y13 y14) (storagebarterlaw06_MatrixRanks.l0 (k + 1) y0 y1 y2 y3 y4 y5 y6 y7 y8 y9 y10 y11 y12 y13 y14)) ∧ (∀ y0 y1 y2 y3 y4 y5 y6 y7 y8 y9 y10 y11 y12 y13 y14 y15, LeO (storagebarterlaw06_MatrixRanks.l1 k y0 y1 y2 y3 y4 y5 y6 y7 y8 y9 y10 y11 y12 y13 y14 y15) (storagebarterlaw06_MatrixRanks.l1 (k + 1) y0 y1 y2 y3 y4 y5 y6 y7 y8 y9 y10 y11 y12 y13 y14 y15))
  | 0 => ⟨fun _ _ _ _ _ _ _ _ _ _ _ _ _ _ _ r h => by simp [storagebarterlaw06_MatrixRanks.l0] at h, fun _ _ _ _ _ _ _ _ _ _ _ _ _ _ _ _ r h => by simp [storagebarterlaw06_MatrixRanks.l1] at h⟩
  | k + 1 => by
    obtain ⟨ih0, ih1⟩ := storagebarterlaw06_MatrixRanks.mono_l k
    refine ⟨?_, ?_⟩
    · intro y0 y1 y2 y3 y4 y5 y6 y7 y8 y9 y10 y11 y12 y13 y14
      unfold storagebarterlaw06_MatrixRanks.l0
      repeat' first
      | (with_reducible exact ih0 _ _ _ _ _ _ _ _ _ _ _ _ _ _ _)
      | (with_reducible exact ih1 _ _ _ _ _ _ _ _ _ _ _ _ _ _ _ _)
      | (with_reducible exact matrix_Pick.mono _ _ _ _ _)
      | (with_reducible exact matrix_Rank.mono _ _ _ _)
      | (with_reducible exact storagebarterlaw06_sane.mono _)
      | (with_reducible exact storagebartermake_Matrix.mono _ _ _ _ _)
      | (with_reducible exact LeO.refl _)
      | (with_reducible exact LeO.none _)
      | (with_reducible refine LeO.ite ?_ ?_)
      | (with_reducible refine LeO.bind ?_ (fun _ => ?_))
      | exact ih0 _ _ _ _ _ _ _ _ _ _ _ _ _ _ _
      | exact ih1 _ _ _ _ _ _ _ _ _ _ _ _ _ _ _ _
      | exact matrix_Pick.mono _ _ _ _ _
      | exact matrix_Rank.mono _ _ _ _
      | exact storagebarterlaw06_sane.mono _
      | exact storagebartermake_Matrix.mono _ _ _ _ _
      | exact LeO.none _
      | refine LeO.ite ?_ ?_
      | refine LeO.bind ?_ (fun _ => ?_)
    · intro y0 y1 y2 y3 y4 y5 y6 y7 y8 y9 y10 y11 y12 y13 y14 y15
      unfold storagebarterlaw06_MatrixRanks.l1
      repeat' first
      | (with_reducible exact ih0 _ _ _ _ _ _ _ _ _ _ _ _ _ _ _)
      | (with_reducible exact ih1 _ _ _ _ _ _ _ _ _ _ _ _ _ _ _ _)
      | (with_reducible exact matrix_Pick.mono _ _ _ _ _)
      | (with_reducible exact matrix_Rank.mono _ _ _ _)
      | (with_reducible exact storagebarterlaw06_sane.mono _)
      | (with_reducible exact storagebartermake_Matrix.mono _ _ _ _ _)
      | (with_reducible exact LeO.refl _)
      | (with_reducible exact LeO.none _)
      | (with_reducible refine LeO.ite ?_ ?_)
      | (with_reducible refine LeO.bind ?_ (fun _ => ?_))
      | exact ih0 _ _ _ _ _ _ _ _ _ _ _ _ _ _ _
      | exact ih1 _ _ _ _ _ _ _ _ _ _ _ _ _ _ _ _
      | exact matrix_Pick.mono _ _ _ _ _
      | exact matrix_Rank.mono _ _ _ _
      | exact storagebarterlaw06_sane.mono _
      | exact storagebartermake_Matrix.mono _ _ _ _ _
      | exact LeO.none _
      | refine LeO.ite ?_ ?_
      | refine LeO.bind ?_ (fun _ => ?_)
theorem storagebarterlaw06_MatrixRanks.mono : ∀ a0 k, LeO (storagebarterlaw06_MatrixRanks.f k a0) (storagebarterlaw06_MatrixRanks.f (k + 1) a0) := by
  intro a0 k
  obtain ⟨ih0, ih1⟩ := storagebarterlaw06_MatrixRanks.mono_l k
  unfold storagebarterlaw06_MatrixRanks.f
  repeat' first
      | (with_reducible exact ih0 _ _ _ _ _ _ _ _ _ _ _ _ _ _ _)
      | (with_reducible exact ih1 _ _ _ _ _ _ _ _ _ _ _ _ _ _ _ _)
      | (with_reducible exact matrix_Pick.mono _ _ _ _ _)
      | (with_reducible exact matrix_Rank.mono _ _ _ _)
      | (with_reducible exact storagebarterlaw06_sane.mono _)
      | (with_reducible exact storagebartermake_Matrix.mono _ _ _ _ _)
      | (with_reducible exact LeO.refl _)
      | (with_reducible exact LeO.none _)
      | (with_reducible refine LeO.ite ?_ ?_)
      | (with_reducible refine LeO.bind ?_ (fun _ => ?_))
      | exact ih0 _ _ _ _ _ _ _ _ _ _ _ _ _ _ _
      | exact ih1 _ _ _ _ _ _ _ _ _ _ _ _ _ _ _ _
      | exact matrix_Pick.mono _ _ _ _ _
      | exact matrix_Rank.mono _ _ _ _
      | exact storagebarterlaw06_sane.mono _
      | exact storagebartermake_Matrix.mono _ _ _ _ _
      | exact LeO.none _
      | refine LeO.ite ?_ ?_
      | refine LeO.bind ?_ (fun _ => ?_)
end
end Go.Proofs.Ytbdbfnkjbbbmdaa.PMatrixRanks
