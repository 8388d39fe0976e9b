/- The walks of storagebarterlaw06_sane, storagebarterlaw06_MatrixRows, over the contracts of their callees: written by a program of this session. -/
import Derived.Test.YtbdbfnkjbbbmdaaPMatrixRowsx0
import Derived.Test.YtbdbfnkjbbbmdaaPMatrixRowsx1
import Derived.Test.YtbdbfnkjbbbmdaaPMatrixRowsx2
import Derived.Test.YtbdbfnkjbbbmdaaPMatrixRowsx3
import Derived.Test.YtbdbfnkjbbbmdaaMatRankMatrixRows
import Derived.Test.YtbdbfnkjbbbmdaaMatPickMatrixRows
import Derived.Test.YtbdbfnkjbbbmdaaMatInvMatrixRows
namespace Go.Proofs.Ytbdbfnkjbbbmdaa.PMatrixRows
open Go.RowKit Go.Proofs.YtbdbfnkjbbbmdaaW.PrintWords Go.Proofs.YtbdbfnkjbbbmdaaW.PrintLast Go.Proofs.YtbdbfnkjbbbmdaaW.PrintMore
attribute [local go_sem] max2_int min2_int max_two min_two max_three min_three max_four min_four
set_option linter.unusedVariables false
set_option linter.unusedSimpArgs false
noncomputable section

/-! ### storagebarterlaw06_sane: function 11 -/
def storagebarterlaw06_sane.f (k : Nat)  : Option (Bool) := (matrix_Cauchy.f k 1 2).bind fun bt133 => ((matrix_Identity.f k 2).bind fun bt140 => ((matrix_Rank.f k bt140.1 bt140.2.1 bt140.2.2.1).bind fun bt147 => (if bt133.2.2.2 = 0 then (if bt140.2.2.2 = 0 then (if bt147.2 = 0 then (if (bt133.2.2.1.length : Int) = 2 then (if 0 < (bt133.2.2.1.length : Int) then (if (rd bt133.2.2.1 0) = 1 then (if 1 < (bt133.2.2.1.length : Int) then (if (rd bt133.2.2.1 1) = 9 then (some (bt147.1 == 2)) else (some false)) else (none)) else (some false)) else (none)) else (some false)) else (some false)) else (some false)) else (some false))))
theorem storagebarterlaw06_sane.mono : ∀ k, LeO (storagebarterlaw06_sane.f k ) (storagebarterlaw06_sane.f (k + 1) ) := by
  intro  k
  unfold storagebarterlaw06_sane.f
  repeat' first
      | (with_reducible exact matrix_Cauchy.mono _ _ _)
      | (with_reducible exact matrix_Identity.mono _ _)
      | (with_reducible exact matrix_Rank.mono _ _ _ _)
      | (with_reducible exact LeO.refl _)
      | (with_reducible exact LeO.none _)
      | (with_reducible refine LeO.ite ?_ ?_)
      | (with_reducible refine LeO.bind ?_ (fun _ => ?_))
      | exact matrix_Cauchy.mono _ _ _
      | exact matrix_Identity.mono _ _
      | exact matrix_Rank.mono _ _ _ _
      | exact LeO.none _
      | refine LeO.ite ?_ ?_
      | refine LeO.bind ?_ (fun _ => ?_)
set_option maxHeartbeats 8000000 in
set_option maxRecDepth 100000 in
theorem storagebarterlaw06_sane.calls (k : Nat)  (w : World) (h : storagebarterlaw06_sane.f k  = some true) :
    Calls Try.prog 11 #[] w fun e w' => e = .returned (.bool true) ∧ Below w.heap.size w w' := by
  have hu26 := Try.underlying26
  have HB := Aside0.mk (Below.refl w.heap.size w)
  have H : ((matrix_Cauchy.f k 1 2).bind fun bt133 => ((matrix_Identity.f k 2).bind fun bt140 => ((matrix_Rank.f k bt140.1 bt140.2.1 bt140.2.2.1).bind fun bt147 => (if bt133.2.2.2 = 0 then (if bt140.2.2.2 = 0 then (if bt147.2 = 0 then (if (bt133.2.2.1.length : Int) = 2 then (if 0 < (bt133.2.2.1.length : Int) then (if (rd bt133.2.2.1 0) = 1 then (if 1 < (bt133.2.2.1.length : Int) then (if (rd bt133.2.2.1 1) = 9 then (some (bt147.1 == 2)) else (some false)) else (none)) else (some false)) else (none)) else (some false)) else (some false)) else (some false)) else (some false))))) = some true := h
  clear h
  replace H := Option.bind_eq_some_iff.mp H
  obtain ⟨⟨t133, t134, t135, t138⟩, A10, H⟩ := H
  replace H : ((matrix_Identity.f k 2).bind fun bt140 => ((matrix_Rank.f k bt140.1 bt140.2.1 bt140.2.2.1).bind fun bt147 => (if t138 = 0 then (if bt140.2.2.2 = 0 then (if bt147.2 = 0 then (if (t135.length : Int) = 2 then (if 0 < (t135.length : Int) then (if (rd t135 0) = 1 then (if 1 < (t135.length : Int) then (if (rd t135 1) = 9 then (some (bt147.1 == 2)) else (some false)) else (none)) else (some false)) else (none)) else (some false)) else (some false)) else (some false)) else (some false)))) = some true := H
  have A1 := Aside0.mk A10
  clear A10
  replace H := Option.bind_eq_some_iff.mp H
  obtain ⟨⟨t140, t141, t142, t145⟩, A20, H⟩ := H
  replace H : ((matrix_Rank.f k t140 t141 t142).bind fun bt147 => (if t138 = 0 then (if t145 = 0 then (if bt147.2 = 0 then (if (t135.length : Int) = 2 then (if 0 < (t135.length : Int) then (if (rd t135 0) = 1 then (if 1 < (t135.length : Int) then (if (rd t135 1) = 9 then (some (bt147.1 == 2)) else (some false)) else (none)) else (some false)) else (none)) else (some false)) else (some false)) else (some false)) else (some false))) = some true := H
  have A2 := Aside0.mk A20
  clear A20
  replace H := Option.bind_eq_some_iff.mp H
  obtain ⟨⟨t147, t148⟩, A30, H⟩ := H
  replace H : (if t138 = 0 then (if t145 = 0 then (if t148 = 0 then (if (t135.length : Int) = 2 then (if 0 < (t135.length : Int) then (if (rd t135 0) = 1 then (if 1 < (t135.length : Int) then (if (rd t135 1) = 9 then (some (t147 == 2)) else (some false)) else (none)) else (some false)) else (none)) else (some false)) else (some false)) else (some false)) else (some false)) = some true := H
  have A3 := Aside0.mk A30
  clear A30
  by_cases c4 : t138 = 0
  · rw [if_pos c4] at H
    have c4b0 : (t138 == 0) = true := beq_iff_eq.mpr c4
    have c4b1 : (t138 != 0) = false := bne_eq_false_iff_eq.mpr c4
    clear c4
    by_cases c5 : t145 = 0
    · rw [if_pos c5] at H
      have c5b0 : (t145 == 0) = true := beq_iff_eq.mpr c5
      have c5b1 : (t145 != 0) = false := bne_eq_false_iff_eq.mpr c5
      clear c5
      by_cases c6 : t148 = 0
      · rw [if_pos c6] at H
        have c6b0 : (t148 == 0) = true := beq_iff_eq.mpr c6
        have c6b1 : (t148 != 0) = false := bne_eq_false_iff_eq.mpr c6
        clear c6
        by_cases c7 : (t135.length : Int) = 2
        · rw [if_pos c7] at H
          have c7b0 : ((t135.length : Int) == 2) = true := beq_iff_eq.mpr c7
          have c7b1 : ((t135.length : Int) != 2) = false := bne_eq_false_iff_eq.mpr c7
          clear c7
          by_cases c8 : 0 < (t135.length : Int)
          · rw [if_pos c8] at H
            have c8b0 : decide (0 < (t135.length : Int)) = true := decide_eq_true c8
            have c8b1 : decide (0 < t135.length) = true := decide_eq_true (by omega)
            clear c8
            by_cases c9 : (rd t135 0) = 1
            · rw [if_pos c9] at H
              have c9b0 : ((rd t135 0) == 1) = true := beq_iff_eq.mpr c9
              have c9b1 : ((rd t135 0) != 1) = false := bne_eq_false_iff_eq.mpr c9
              clear c9
              by_cases c10 : 1 < (t135.length : Int)
              · rw [if_pos c10] at H
                have c10b0 : decide (1 < (t135.length : Int)) = true := decide_eq_true c10
                have c10b1 : decide (1 < t135.length) = true := decide_eq_true (by omega)
                clear c10
                by_cases c11 : (rd t135 1) = 9
                · rw [if_pos c11] at H
                  have c11b0 : ((rd t135 1) == 9) = true := beq_iff_eq.mpr c11
                  have c11b1 : ((rd t135 1) != 9) = false := bne_eq_false_iff_eq.mpr c11
                  clear c11
                  have HL_ := Aside0.mk (Option.some.inj H)
                  clear H
                  go_enter Try.func11, Try.ntmps11
                  go_wp2_with (first | ((with_reducible refine gate_callee (f := 16) rfl ?_); refine goesL_ (some 8) rfl rfl Try.func16 (by kernel_rfl) rfl #[.int .i64 1, .int .i64 2] rfl (by (try simp only [List.map_toArray, List.map_cons, List.map_nil]); first | done | rfl | (simp only [List.length_drop, List.length_take]; rfl)) ?_; (with_reducible refine (matrix_Cauchy.calls k 1 2 t133 t134 t135 t138 _ A1.out).mono ?_); rintro e w12 ⟨v136, rfl, ho0, hb⟩; refine ⟨_, rfl, ?_⟩; have n0_ := Aside0.mk (Kd.R_lower ho0 (below_size (by repeat (first | (with_reducible first | exact HB.out | apply below_alloc | apply pw_below_drewN | apply below_drew1) | exact HB.out)))); have n1_ := Aside0.mk (below_step (by repeat (first | (with_reducible first | exact HB.out | apply below_alloc | apply pw_below_drewN | apply below_drew1) | exact HB.out)) hb); clear HB; have HO137 := n0_; have HB := n1_; clear n0_ n1_; (try clear hb); (try clear hb2); (try clear hk); (try clear hi); (try clear ho0)) | ((with_reducible refine gate_dst (N := 1) rfl ?_); (try (refine gate_guard (by rfl) ?_; dsimp only)); refine box_event ?hg (N := 1) ?hd (cs := #[.int .i64 0, .int .i64 0, .slice none 0 0]) (t := 26) ?hr ?_; (case hd => rfl); (case hg => rfl); (case hr => first | (go_simp; done) | (go_simp; rfl)); intro gb139 hg w13 hbox hb; have n0_ := Aside0.mk (Kd.R_below (by (with_reducible repeat (first | apply Kd.R_alloc | apply Kd.R_drewN | apply Kd.R_drew)); exact HO137.out) hb); have n1_ := Aside0.mk (below_step (by repeat (first | (with_reducible first | exact HB.out | apply below_alloc | apply pw_below_drewN | apply below_drew1) | exact HB.out)) hb); have n2_ := Aside0.mk (hbox); have n3_ := Aside0.mk ((by rw [hg]; exact (below_size (by repeat (first | (with_reducible first | exact HB.out | apply below_alloc | apply pw_below_drewN | apply below_drew1) | exact HB.out))) : w.heap.size ≤ gb139)); have n4_ := Aside0.mk ((by rw [hg]; exact (below_size (by repeat (first | (with_reducible first | exact HB.out | apply below_alloc | apply pw_below_drewN | apply below_drew1) | exact HB.out))) : w.heap.size ≤ gb139)); clear HO137; clear HB; have HO137 := n0_; have HB := n1_; have BK139 := n2_; have GW139 := n3_; have GE139 := n4_; clear n0_ n1_ n2_ n3_ n4_; clear hb hbox hg; have hcz14_0 : w13.cell? ⟨gb139, 0, none⟩ = some (.int .i64 0) := (blk_cell BK139.out 0).trans rfl; have hcz14_1 : w13.cell? ⟨gb139, 1, none⟩ = some (.int .i64 0) := (blk_cell BK139.out 1).trans rfl; have hcz14_2 : w13.cell? ⟨gb139, 2, none⟩ = some (.slice none 0 0) := (blk_cell BK139.out 2).trans rfl; have hfz14_0 := blk_frozen BK139.out 0; have hfz14_1 := blk_frozen BK139.out 1; have hfz14_2 := blk_frozen BK139.out 2; obtain ⟨Ao15, co15, eo15⟩ := Kd.R_slice HO137.out; subst eo15) | ((with_reducible refine gate_callee (f := 13) rfl ?_); refine goesL_ (some 12) rfl rfl Try.func13 (by kernel_rfl) rfl #[.int .i64 2] rfl (by (try simp only [List.map_toArray, List.map_cons, List.map_nil]); first | done | rfl | (simp only [List.length_drop, List.length_take]; rfl)) ?_; (with_reducible refine (matrix_Identity.calls k 2 t140 t141 t142 t145 _ A2.out).mono ?_); rintro e w16 ⟨v143, rfl, ho0, hb⟩; refine ⟨_, rfl, ?_⟩; have n0_ := Aside0.mk (Kd.R_elder' (by (with_reducible repeat (first | apply Kd.R_alloc | apply Kd.R_drewN | apply Kd.R_drew)); exact (Kd.R_mono (Kd.R_far (p := ⟨gb139, 2, none⟩) (Kd.R_far (p := ⟨gb139, 1, none⟩) (Kd.R_far (p := ⟨gb139, 0, none⟩) (Kd.R_types HO137.out BK139.out (by decide)) (fun _ hk => hk.2) (.int .i64 t133)) (fun _ hk => hk.2) (.int .i64 t134)) (fun _ hk => hk.2) (.slice Ao15 t135.length co15)) (fun _ h_ => h_.1))) (Kd.R_base ho0) hb); have n1_ := Aside0.mk (Kd.R_lower (Kd.R_new' ho0 (Kd.R_lt (by (with_reducible repeat (first | apply Kd.R_alloc | apply Kd.R_drewN | apply Kd.R_drew)); exact (Kd.R_mono (Kd.R_far (p := ⟨gb139, 2, none⟩) (Kd.R_far (p := ⟨gb139, 1, none⟩) (Kd.R_far (p := ⟨gb139, 0, none⟩) (Kd.R_types HO137.out BK139.out (by decide)) (fun _ hk => hk.2) (.int .i64 t133)) (fun _ hk => hk.2) (.int .i64 t134)) (fun _ hk => hk.2) (.slice Ao15 t135.length co15)) (fun _ h_ => h_.1))))) (below_size (by repeat (first | (with_reducible first | exact HB.out | apply below_alloc | apply pw_below_drewN | apply below_drew1 | refine below_set ?_ GE139.out) | exact HB.out)))); have n2_ := Aside0.mk (blk_below (g := gb139) (o := .cells #[.int .i64 t133, .int .i64 t134, .slice Ao15 t135.length co15] 26 (0, 0)) (by (with_reducible repeat (first | refine blk_drewN ?_ _ | refine blk_drew ?_ | refine blk_alloc ?_ _)); refine blk_put (cs := #[.int .i64 t133, .int .i64 t134, .slice none 0 0]) ?_ 2 _ rfl; (with_reducible repeat (first | refine blk_drewN ?_ _ | refine blk_drew ?_ | refine blk_alloc ?_ _)); refine blk_put (cs := #[.int .i64 t133, .int .i64 0, .slice none 0 0]) ?_ 1 _ rfl; (with_reducible repeat (first | refine blk_drewN ?_ _ | refine blk_drew ?_ | refine blk_alloc ?_ _)); refine blk_put (cs := #[.int .i64 0, .int .i64 0, .slice none 0 0]) ?_ 0 _ rfl; (with_reducible repeat (first | refine blk_drewN ?_ _ | refine blk_drew ?_ | refine blk_alloc ?_ _)); exact BK139.out) hb); have n3_ := Aside0.mk (below_step (by repeat (first | (with_reducible first | exact HB.out | apply below_alloc | apply pw_below_drewN | apply below_drew1 | refine below_set ?_ GE139.out) | exact HB.out)) hb); clear HO137; clear BK139; clear HB; have HO137 := n0_; have HO144 := n1_; have BK139 := n2_; have HB := n3_; clear n0_ n1_ n2_ n3_; (try clear hb); (try clear hb2); (try clear hk); (try clear hi); (try clear ho0)) | ((with_reducible refine gate_dst (N := 3) rfl ?_); (try (refine gate_guard (by rfl) ?_; dsimp only)); refine box_event ?hg (N := 3) ?hd (cs := #[.int .i64 0, .int .i64 0, .slice none 0 0]) (t := 26) ?hr ?_; (case hd => rfl); (case hg => rfl); (case hr => first | (go_simp; done) | (go_simp; rfl)); intro gb146 hg w17 hbox hb; have n0_ := Aside0.mk (Kd.R_below (by (with_reducible repeat (first | apply Kd.R_alloc | apply Kd.R_drewN | apply Kd.R_drew)); exact HO137.out) hb); have n1_ := Aside0.mk (Kd.R_below (by (with_reducible repeat (first | apply Kd.R_alloc | apply Kd.R_drewN | apply Kd.R_drew)); exact HO144.out) hb); have n2_ := Aside0.mk (blk_below (g := gb139) (o := .cells #[.int .i64 t133, .int .i64 t134, .slice Ao15 t135.length co15] 26 (0, 0)) (by (with_reducible repeat (first | refine blk_drewN ?_ _ | refine blk_drew ?_ | refine blk_alloc ?_ _)); exact BK139.out) hb); have n3_ := Aside0.mk (below_step (by repeat (first | (with_reducible first | exact HB.out | apply below_alloc | apply pw_below_drewN | apply below_drew1 | refine below_set ?_ GE139.out) | exact HB.out)) hb); have n4_ := Aside0.mk (hbox); have n5_ := Aside0.mk ((by rw [hg]; exact (below_size (by repeat (first | (with_reducible first | exact HB.out | apply below_alloc | apply pw_below_drewN | apply below_drew1 | refine below_set ?_ GE139.out) | exact HB.out))) : w.heap.size ≤ gb146)); have n6_ := Aside0.mk ((by rw [hg]; exact (below_size (by repeat (first | (with_reducible first | exact HB.out | apply below_alloc | apply pw_below_drewN | apply below_drew1 | refine below_set ?_ GE139.out) | exact HB.out))) : w.heap.size ≤ gb146)); have n7_ := Aside0.mk ((by rw [hg]; exact Nat.ne_of_lt (blk_lt (g := gb139) (o := .cells #[.int .i64 t133, .int .i64 t134, .slice Ao15 t135.length co15] 26 (0, 0)) (by (with_reducible repeat (first | refine blk_drewN ?_ _ | refine blk_drew ?_ | refine blk_alloc ?_ _)); exact BK139.out)) : gb139 ≠ gb146)); have n8_ := Aside0.mk ((by rw [hg]; exact Nat.ne_of_gt (blk_lt (g := gb139) (o := .cells #[.int .i64 t133, .int .i64 t134, .slice Ao15 t135.length co15] 26 (0, 0)) (by (with_reducible repeat (first | refine blk_drewN ?_ _ | refine blk_drew ?_ | refine blk_alloc ?_ _)); exact BK139.out)) : gb146 ≠ gb139)); clear HO137; clear HO144; clear BK139; clear HB; have HO137 := n0_; have HO144 := n1_; have BK139 := n2_; have HB := n3_; have BK146 := n4_; have GW146 := n5_; have GE146 := n6_; have NB139_146 := n7_; have NB146_139 := n8_; clear n0_ n1_ n2_ n3_ n4_ n5_ n6_ n7_ n8_; clear hb hbox hg; have hnb18 := NB146_139.out; have hnc18 := NB139_146.out; have hcz19_0 : w17.cell? ⟨gb146, 0, none⟩ = some (.int .i64 0) := (blk_cell BK146.out 0).trans rfl; have hcz19_1 : w17.cell? ⟨gb146, 1, none⟩ = some (.int .i64 0) := (blk_cell BK146.out 1).trans rfl; have hcz19_2 : w17.cell? ⟨gb146, 2, none⟩ = some (.slice none 0 0) := (blk_cell BK146.out 2).trans rfl; have hfz19_0 := blk_frozen BK146.out 0; have hfz19_1 := blk_frozen BK146.out 1; have hfz19_2 := blk_frozen BK146.out 2; obtain ⟨Ao20, co20, eo20⟩ := Kd.R_slice HO144.out; subst eo20) | ((with_reducible refine gate_callee (f := 25) rfl ?_); refine goesL_ (some 17) rfl rfl Try.func25 (by kernel_rfl) rfl #[.agg #[.int .i64 t140, .int .i64 t141, .slice Ao20 t142.length co20]] rfl (by (try simp only [List.map_toArray, List.map_cons, List.map_nil]); first | done | rfl | (simp only [List.length_drop, List.length_take]; rfl)) ?_; (with_reducible refine (matrix_Rank.calls k t140 t141 _ _ t142 t147 t148 _ ?side1 ?side2 A3.out).mono ?_); (case side1 => refine (Kd.R_reads' (e := 3) (base := w.heap.size) (ok := fun k_ => (True ∧ some k_ ≠ (.slice Ao15 t135.length co15 : Value).ownBlock)) (n := t142.length) (c := co20) ?_).2.2; exact (by (with_reducible repeat (first | apply Kd.R_alloc | apply Kd.R_drewN | apply Kd.R_drew)); exact (Kd.R_mono (Kd.R_far (p := ⟨gb146, 2, none⟩) (Kd.R_far (p := ⟨gb146, 1, none⟩) (Kd.R_far (p := ⟨gb146, 0, none⟩) (Kd.R_types HO144.out BK146.out (by decide)) (fun _ hk => hk.2) (.int .i64 t140)) (fun _ hk => hk.2) (.int .i64 t141)) (fun _ hk => hk.2) (.slice Ao20 t142.length co20)) (fun _ h_ => h_.1)))); (case side2 => exact (Kd.R_reads' HO144.out).2.1); rintro e w21 ⟨rfl, hb⟩; refine ⟨_, rfl, ?_⟩; have n0_ := Aside0.mk (Kd.R_below (by (with_reducible repeat (first | apply Kd.R_alloc | apply Kd.R_drewN | apply Kd.R_drew)); exact (Kd.R_mono (Kd.R_far (p := ⟨gb146, 2, none⟩) (Kd.R_far (p := ⟨gb146, 1, none⟩) (Kd.R_far (p := ⟨gb146, 0, none⟩) (Kd.R_types HO137.out BK146.out (by decide)) (fun _ hk => hk.2) (.int .i64 t140)) (fun _ hk => hk.2) (.int .i64 t141)) (fun _ hk => hk.2) (.slice Ao20 t142.length co20)) (fun _ h_ => h_.1))) hb); have n1_ := Aside0.mk (Kd.R_below (by (with_reducible repeat (first | apply Kd.R_alloc | apply Kd.R_drewN | apply Kd.R_drew)); exact (Kd.R_mono (Kd.R_far (p := ⟨gb146, 2, none⟩) (Kd.R_far (p := ⟨gb146, 1, none⟩) (Kd.R_far (p := ⟨gb146, 0, none⟩) (Kd.R_types HO144.out BK146.out (by decide)) (fun _ hk => hk.2) (.int .i64 t140)) (fun _ hk => hk.2) (.int .i64 t141)) (fun _ hk => hk.2) (.slice Ao20 t142.length co20)) (fun _ h_ => h_.1))) hb); have n2_ := Aside0.mk (blk_below (g := gb139) (o := .cells #[.int .i64 t133, .int .i64 t134, .slice Ao15 t135.length co15] 26 (0, 0)) (by (with_reducible repeat (first | refine blk_drewN ?_ _ | refine blk_drew ?_ | refine blk_alloc ?_ _)); refine blk_far ?_ NB139_146.out _; (with_reducible repeat (first | refine blk_drewN ?_ _ | refine blk_drew ?_ | refine blk_alloc ?_ _)); refine blk_far ?_ NB139_146.out _; (with_reducible repeat (first | refine blk_drewN ?_ _ | refine blk_drew ?_ | refine blk_alloc ?_ _)); refine blk_far ?_ NB139_146.out _; (with_reducible repeat (first | refine blk_drewN ?_ _ | refine blk_drew ?_ | refine blk_alloc ?_ _)); exact BK139.out) hb); have n3_ := Aside0.mk (blk_below (g := gb146) (o := .cells #[.int .i64 t140, .int .i64 t141, .slice Ao20 t142.length co20] 26 (0, 0)) (by (with_reducible repeat (first | refine blk_drewN ?_ _ | refine blk_drew ?_ | refine blk_alloc ?_ _)); refine blk_put (cs := #[.int .i64 t140, .int .i64 t141, .slice none 0 0]) ?_ 2 _ rfl; (with_reducible repeat (first | refine blk_drewN ?_ _ | refine blk_drew ?_ | refine blk_alloc ?_ _)); refine blk_put (cs := #[.int .i64 t140, .int .i64 0, .slice none 0 0]) ?_ 1 _ rfl; (with_reducible repeat (first | refine blk_drewN ?_ _ | refine blk_drew ?_ | refine blk_alloc ?_ _)); refine blk_put (cs := #[.int .i64 0, .int .i64 0, .slice none 0 0]) ?_ 0 _ rfl; (with_reducible repeat (first | refine blk_drewN ?_ _ | refine blk_drew ?_ | refine blk_alloc ?_ _)); exact BK146.out) hb); have n4_ := Aside0.mk (below_step (by repeat (first | (with_reducible first | exact HB.out | apply below_alloc | apply pw_below_drewN | apply below_drew1 | refine below_set ?_ GE139.out | refine below_set ?_ GE146.out) | exact HB.out)) hb); clear HO137; clear HO144; clear BK139; clear BK146; clear HB; have HO137 := n0_; have HO144 := n1_; have BK139 := n2_; have BK146 := n3_; have HB := n4_; clear n0_ n1_ n2_ n3_ n4_; (try clear hb); (try clear hb2); (try clear hk); (try clear hi); have hcz22_0 : w21.cell? ⟨gb139, 0, none⟩ = some (.int .i64 t133) := (blk_cell BK139.out 0).trans rfl; have hcz22_1 : w21.cell? ⟨gb139, 1, none⟩ = some (.int .i64 t134) := (blk_cell BK139.out 1).trans rfl; have hcz22_2 : w21.cell? ⟨gb139, 2, none⟩ = some (.slice Ao15 t135.length co15) := (blk_cell BK139.out 2).trans rfl; have hfz22_0 := blk_frozen BK139.out 0; have hfz22_1 := blk_frozen BK139.out 1; have hfz22_2 := blk_frozen BK139.out 2; have p149 : 0 ≤ (0 : Int) := (by omega); have q149 : 0 < (t135.length : Int) := of_decide_eq_true (by first | (with_reducible assumption) | assumption); obtain ⟨ad149, e149, hx149_0⟩ := Kd.at_int (Kd.R_reads' HO137.out).2.2 0 p149 q149; cases e149; have qi149 : (0 < t135.length) = True := eq_true (by omega); (try rw [show ((0 : Int)).toNat = 0 from rfl] at hx149_0); (try rw [Addr.add_zero'] at hx149_0); replace p149 := eq_true p149; replace q149 := eq_true q149; have p150 : 0 ≤ (1 : Int) := (by omega); have q150 : 1 < (t135.length : Int) := of_decide_eq_true (by first | (with_reducible assumption) | assumption); obtain ⟨ad150, e150, hx150_0⟩ := Kd.at_int (Kd.R_reads' HO137.out).2.2 1 p150 q150; obtain rfl : ad149 = ad150 := (by injection e150); (try simp only [show (1 : Int).toNat = 1 from rfl, Nat.reduceMul, Nat.reduceEqDiff, Go.Addr.add, ↓reduceIte] at hx150_0); have qi150 : (1 < t135.length) = True := eq_true (by omega); (try rw [show ((1 : Int)).toNat = 1 from rfl] at hx150_0); replace p150 := eq_true p150; replace q150 := eq_true q150))
                  go_ret
                  exact ⟨by first | rfl | (rw [HL_.out]; rfl) | (simp [errW_none, errW_some] <;> rfl) | (simp [*, errW_none, errW_some] <;> rfl), by repeat (first | (with_reducible first | exact HB.out | apply below_alloc | apply pw_below_drewN | apply below_drew1 | refine below_set ?_ GE139.out | refine below_set ?_ GE146.out) | exact HB.out)⟩
                · rw [if_neg c11] at H
                  have c11b0 : ((rd t135 1) == 9) = false := beq_eq_false_iff_ne.mpr c11
                  have c11b1 : ((rd t135 1) != 9) = true := bne_iff_ne.mpr c11
                  exact absurd H (by simp)
              · rw [if_neg c10] at H
                exact absurd H (by simp)
            · rw [if_neg c9] at H
              have c9b0 : ((rd t135 0) == 1) = false := beq_eq_false_iff_ne.mpr c9
              have c9b1 : ((rd t135 0) != 1) = true := bne_iff_ne.mpr c9
              exact absurd H (by simp)
          · rw [if_neg c8] at H
            exact absurd H (by simp)
        · rw [if_neg c7] at H
          have c7b0 : ((t135.length : Int) == 2) = false := beq_eq_false_iff_ne.mpr c7
          have c7b1 : ((t135.length : Int) != 2) = true := bne_iff_ne.mpr c7
          exact absurd H (by simp)
      · rw [if_neg c6] at H
        have c6b0 : (t148 == 0) = false := beq_eq_false_iff_ne.mpr c6
        have c6b1 : (t148 != 0) = true := bne_iff_ne.mpr c6
        exact absurd H (by simp)
    · rw [if_neg c5] at H
      have c5b0 : (t145 == 0) = false := beq_eq_false_iff_ne.mpr c5
      have c5b1 : (t145 != 0) = true := bne_iff_ne.mpr c5
      exact absurd H (by simp)
  · rw [if_neg c4] at H
    have c4b0 : (t138 == 0) = false := beq_eq_false_iff_ne.mpr c4
    have c4b1 : (t138 != 0) = true := bne_iff_ne.mpr c4
    exact absurd H (by simp)


/-! ### storagebarterlaw06_MatrixRows: function 8 -/
def storagebarterlaw06_MatrixRows.j0 : Nat → Int → Int → Bool → List Int → Int → Int → Int → List Int → Int → Int → List Int → Option (Bool)
  | 0, _, _, _, _, _, _, _, _, _, _, _ => none
  | k + 1, x8, x9, x49, x176000, x176001, x183000, x183001, x183002, x190000, x190001, x190002 => if x49 = true then (some false) else (if x183002.length + x190002.length < 17592186044416 then ((storagebarterlaw06_pick.f x176000 x176001 (wrap64 (x8 + x9)) x8).bind fun bt193 => ((matrix_Pick.f k (wrap64 (x183000 + x9)) x183001 (x183002 ++ x190002) bt193.1).bind fun bt197 => ((matrix_Inverse.f k bt197.1 bt197.2.1 bt197.2.2.1).bind fun bt204 => (if bt197.2.2.2 = 0 then (some (bt204.2.2.2 == 0)) else (some false))))) else (none))
def storagebarterlaw06_MatrixRows.f (k : Nat) (l0 : List Int) (a1 : Int) (a2 : Int) : Option (Bool) := (storagebarterlaw06_sane.f k).bind fun t171 => (if t171 = true then ((storagebartermake_Few.f l0).bind fun t172 => (if t172 = true then ((storagebartermake_New.f l0).bind fun bt173 => ((matrix_Identity.f k (wrap64 (1 + (wrap64 (Int.tmod a1 8))))).bind fun bt176 => ((matrix_Cauchy.f k (wrap64 (1 + (wrap64 (Int.tmod a2 8)))) (wrap64 (1 + (wrap64 (Int.tmod a1 8))))).bind fun bt183 => (if bt176.2.2.2 = 0 then (storagebarterlaw06_MatrixRows.j0 k (wrap64 (1 + (wrap64 (Int.tmod a1 8)))) (wrap64 (1 + (wrap64 (Int.tmod a2 8)))) (bt183.2.2.2 != 0) bt173.1 bt173.2 bt176.1 bt176.2.1 bt176.2.2.1 bt183.1 bt183.2.1 bt183.2.2.1) else (storagebarterlaw06_MatrixRows.j0 k (wrap64 (1 + (wrap64 (Int.tmod a1 8)))) (wrap64 (1 + (wrap64 (Int.tmod a2 8)))) true bt173.1 bt173.2 bt176.1 bt176.2.1 bt176.2.2.1 bt183.1 bt183.2.1 bt183.2.2.1))))) else (some true))) else (some false))
theorem storagebarterlaw06_MatrixRows.mono_l : ∀ k, (∀ y0 y1 y2 y3 y4 y5 y6 y7 y8 y9 y10, LeO (storagebarterlaw06_MatrixRows.j0 k y0 y1 y2 y3 y4 y5 y6 y7 y8 y9 y10) (storagebarterlaw06_MatrixRows.j0 (k + 1) y0 y1 y2 y3 y4 y5 y6 y7 y8 y9 y10))
  | 0 => fun _ _ _ _ _ _ _ _ _ _ _ r h => by simp [storagebarterlaw06_MatrixRows.j0] at h
  | k + 1 => by
    have ih0 := storagebarterlaw06_MatrixRows.mono_l k
    · intro y0 y1 y2 y3 y4 y5 y6 y7 y8 y9 y10
      unfold storagebarterlaw06_MatrixRows.j0
      repeat' first
      | (with_reducible exact ih0 _ _ _ _ _ _ _ _ _ _ _)
      | (with_reducible exact matrix_Cauchy.mono _ _ _)
      | (with_reducible exact matrix_Identity.mono _ _)
      | (with_reducible exact matrix_Inverse.mono _ _ _ _)
      | (with_reducible exact matrix_Pick.mono _ _ _ _ _)
      | (with_reducible exact storagebarterlaw06_sane.mono _)
      | (with_reducible exact LeO.refl _)
      | (with_reducible exact LeO.none _)
      | (with_reducible refine LeO.ite ?_ ?_)
      | (with_reducible refine LeO.bind ?_ (fun _ => ?_))
      | exact ih0 _ _ _ _ _ _ _ _ _ _ _
      | exact matrix_Cauchy.mono _ _ _
      | exact matrix_Identity.mono _ _
      | exact matrix_Inverse.mono _ _ _ _
      | exact matrix_Pick.mono _ _ _ _ _
      | exact storagebarterlaw06_sane.mono _
      | exact LeO.none _
      | refine LeO.ite ?_ ?_
      | refine LeO.bind ?_ (fun _ => ?_)
theorem storagebarterlaw06_MatrixRows.mono : ∀ a0 a1 a2 k, LeO (storagebarterlaw06_MatrixRows.f k a0 a1 a2) (storagebarterlaw06_MatrixRows.f (k + 1) a0 a1 a2) := by
  intro a0 a1 a2 k
  have ih0 := storagebarterlaw06_MatrixRows.mono_l k
  unfold storagebarterlaw06_MatrixRows.f
  repeat' first
      | (with_reducible exact ih0 _ _ _ _ _ _ _ _ _ _ _)
      | (with_reducible exact matrix_Cauchy.mono _ _ _)
      | (with_reducible exact matrix_Identity.mono _ _)
      | (with_reducible exact matrix_Inverse.mono _ _ _ _)
      | (with_reducible exact matrix_Pick.mono _ _ _ _ _)
      | (with_reducible exact storagebarterlaw06_sane.mono _)
      | (with_reducible exact LeO.refl _)
      | (with_reducible exact LeO.none _)
      | (with_reducible refine LeO.ite ?_ ?_)
      | (with_reducible refine LeO.bind ?_ (fun _ => ?_))
      | exact ih0 _ _ _ _ _ _ _ _ _ _ _
      | exact matrix_Cauchy.mono _ _ _
      | exact matrix_Identity.mono _ _
      | exact matrix_Inverse.mono _ _ _ _
      | exact matrix_Pick.mono _ _ _ _ _
      | exact storagebarterlaw06_sane.mono _
      | exact LeO.none _
      | refine LeO.ite ?_ ?_
      | refine LeO.bind ?_ (fun _ => ?_)
def storagebarterlaw06_MatrixRows.T12 : Bool × List (List Nat × List Nat) := (true, [([], []), ([0], [0]), ([1], [1]), ([], []), ([3], [3]), ([2, 4, 2], [2, 4]), ([0, 1, 2, 3, 4, 5], []), ([6, 5, 5, 0, 1, 2, 3, 4, 5], [5, 6])])
def storagebarterlaw06_MatrixRows.B12 : List Nat := [0, 1, 3, 0, 8, 31, 63, 127]
theorem storagebarterlaw06_MatrixRows.tab12 : rtab .any (opsOf Try.f8 12) = storagebarterlaw06_MatrixRows.T12 := by kernel_rfl
theorem storagebarterlaw06_MatrixRows.bits12 : waitsOk storagebarterlaw06_MatrixRows.T12.2 storagebarterlaw06_MatrixRows.B12 = true := by kernel_rfl
def storagebarterlaw06_MatrixRows.T13 : Bool × List (List Nat × List Nat) := (true, [([], []), ([], []), ([], []), ([], []), ([2, 3], [2, 3]), ([], []), ([1, 4, 5], [1, 4, 5]), ([0, 6, 6], [0, 6]), ([7], [7]), ([8], [8]), ([8], [8]), ([], []), ([11, 9, 7, 0, 1, 2, 3, 4, 5, 6, 7, 8, 9, 11], [9, 11]), ([10, 12, 0, 1, 2, 3, 4, 5, 6, 7, 8, 9, 10, 11, 12], [10])])
def storagebarterlaw06_MatrixRows.B13 : List Nat := [0, 0, 0, 0, 12, 0, 62, 127, 255, 511, 511, 0, 3071, 8191]
theorem storagebarterlaw06_MatrixRows.tab13 : rtab .any (opsOf Try.f8 13) = storagebarterlaw06_MatrixRows.T13 := by kernel_rfl
theorem storagebarterlaw06_MatrixRows.bits13 : waitsOk storagebarterlaw06_MatrixRows.T13.2 storagebarterlaw06_MatrixRows.B13 = true := by kernel_rfl
set_option maxHeartbeats 8000000 in
set_option maxRecDepth 100000 in
theorem storagebarterlaw06_MatrixRows.calls (k : Nat) (A0 : Option Addr) (c0 : Nat) (l0 : List Int) (a1 : Int) (a2 : Int) (w : World) (hr0 : Kd.C (Kd.int .i64) w A0 l0.length l0) (hc0 : l0.length ≤ c0) (h : storagebarterlaw06_MatrixRows.f k l0 a1 a2 = some true) :
    Calls Try.prog 8 #[.slice A0 l0.length c0, .int .u8 a1, .int .u8 a2] w fun e w' => e = .returned (.bool true) ∧ Below w.heap.size w w' := by
  have hu26 := Try.underlying26
  have HR0 := Aside0.mk hr0
  have HC0 := Aside0.mk hc0
  clear hr0 hc0
  have HB := Aside0.mk (Below.refl w.heap.size w)
  have H : ((storagebarterlaw06_sane.f k).bind fun t171 => (if t171 = true then ((storagebartermake_Few.f l0).bind fun t172 => (if t172 = true then ((storagebartermake_New.f l0).bind fun bt173 => ((matrix_Identity.f k (wrap64 (1 + (wrap64 (Int.tmod a1 8))))).bind fun bt176 => ((matrix_Cauchy.f k (wrap64 (1 + (wrap64 (Int.tmod a2 8)))) (wrap64 (1 + (wrap64 (Int.tmod a1 8))))).bind fun bt183 => (if bt176.2.2.2 = 0 then (storagebarterlaw06_MatrixRows.j0 k (wrap64 (1 + (wrap64 (Int.tmod a1 8)))) (wrap64 (1 + (wrap64 (Int.tmod a2 8)))) (bt183.2.2.2 != 0) bt173.1 bt173.2 bt176.1 bt176.2.1 bt176.2.2.1 bt183.1 bt183.2.1 bt183.2.2.1) else (storagebarterlaw06_MatrixRows.j0 k (wrap64 (1 + (wrap64 (Int.tmod a1 8)))) (wrap64 (1 + (wrap64 (Int.tmod a2 8)))) true bt173.1 bt173.2 bt176.1 bt176.2.1 bt176.2.2.1 bt183.1 bt183.2.1 bt183.2.2.1))))) else (some true))) else (some false))) = some true := h
  clear h
  replace H := Option.bind_eq_some_iff.mp H
  obtain ⟨t171, A40, H⟩ := H
  replace H : (if t171 = true then ((storagebartermake_Few.f l0).bind fun t172 => (if t172 = true then ((storagebartermake_New.f l0).bind fun bt173 => ((matrix_Identity.f k (wrap64 (1 + (wrap64 (Int.tmod a1 8))))).bind fun bt176 => ((matrix_Cauchy.f k (wrap64 (1 + (wrap64 (Int.tmod a2 8)))) (wrap64 (1 + (wrap64 (Int.tmod a1 8))))).bind fun bt183 => (if bt176.2.2.2 = 0 then (storagebarterlaw06_MatrixRows.j0 k (wrap64 (1 + (wrap64 (Int.tmod a1 8)))) (wrap64 (1 + (wrap64 (Int.tmod a2 8)))) (bt183.2.2.2 != 0) bt173.1 bt173.2 bt176.1 bt176.2.1 bt176.2.2.1 bt183.1 bt183.2.1 bt183.2.2.1) else (storagebarterlaw06_MatrixRows.j0 k (wrap64 (1 + (wrap64 (Int.tmod a1 8)))) (wrap64 (1 + (wrap64 (Int.tmod a2 8)))) true bt173.1 bt173.2 bt176.1 bt176.2.1 bt176.2.2.1 bt183.1 bt183.2.1 bt183.2.2.1))))) else (some true))) else (some false)) = some true := H
  have A4 := Aside0.mk A40
  clear A40
  by_cases c5 : t171 = true
  · subst c5
    have H1 : ((storagebartermake_Few.f l0).bind fun t172 => (if t172 = true then ((storagebartermake_New.f l0).bind fun bt173 => ((matrix_Identity.f k (wrap64 (1 + (wrap64 (Int.tmod a1 8))))).bind fun bt176 => ((matrix_Cauchy.f k (wrap64 (1 + (wrap64 (Int.tmod a2 8)))) (wrap64 (1 + (wrap64 (Int.tmod a1 8))))).bind fun bt183 => (if bt176.2.2.2 = 0 then (storagebarterlaw06_MatrixRows.j0 k (wrap64 (1 + (wrap64 (Int.tmod a1 8)))) (wrap64 (1 + (wrap64 (Int.tmod a2 8)))) (bt183.2.2.2 != 0) bt173.1 bt173.2 bt176.1 bt176.2.1 bt176.2.2.1 bt183.1 bt183.2.1 bt183.2.2.1) else (storagebarterlaw06_MatrixRows.j0 k (wrap64 (1 + (wrap64 (Int.tmod a1 8)))) (wrap64 (1 + (wrap64 (Int.tmod a2 8)))) true bt173.1 bt173.2 bt176.1 bt176.2.1 bt176.2.2.1 bt183.1 bt183.2.1 bt183.2.2.1))))) else (some true))) = some true := by rw [if_pos rfl] at H; exact H
    clear H
    have H := H1
    clear H1
    replace H := Option.bind_eq_some_iff.mp H
    obtain ⟨t172, A60, H⟩ := H
    replace H : (if t172 = true then ((storagebartermake_New.f l0).bind fun bt173 => ((matrix_Identity.f k (wrap64 (1 + (wrap64 (Int.tmod a1 8))))).bind fun bt176 => ((matrix_Cauchy.f k (wrap64 (1 + (wrap64 (Int.tmod a2 8)))) (wrap64 (1 + (wrap64 (Int.tmod a1 8))))).bind fun bt183 => (if bt176.2.2.2 = 0 then (storagebarterlaw06_MatrixRows.j0 k (wrap64 (1 + (wrap64 (Int.tmod a1 8)))) (wrap64 (1 + (wrap64 (Int.tmod a2 8)))) (bt183.2.2.2 != 0) bt173.1 bt173.2 bt176.1 bt176.2.1 bt176.2.2.1 bt183.1 bt183.2.1 bt183.2.2.1) else (storagebarterlaw06_MatrixRows.j0 k (wrap64 (1 + (wrap64 (Int.tmod a1 8)))) (wrap64 (1 + (wrap64 (Int.tmod a2 8)))) true bt173.1 bt173.2 bt176.1 bt176.2.1 bt176.2.2.1 bt183.1 bt183.2.1 bt183.2.2.1))))) else (some true)) = some true := H
    have A6 := Aside0.mk A60
    clear A60
    by_cases c7 : t172 = true
    · subst c7
      have H1 : ((storagebartermake_New.f l0).bind fun bt173 => ((matrix_Identity.f k (wrap64 (1 + (wrap64 (Int.tmod a1 8))))).bind fun bt176 => ((matrix_Cauchy.f k (wrap64 (1 + (wrap64 (Int.tmod a2 8)))) (wrap64 (1 + (wrap64 (Int.tmod a1 8))))).bind fun bt183 => (if bt176.2.2.2 = 0 then (storagebarterlaw06_MatrixRows.j0 k (wrap64 (1 + (wrap64 (Int.tmod a1 8)))) (wrap64 (1 + (wrap64 (Int.tmod a2 8)))) (bt183.2.2.2 != 0) bt173.1 bt173.2 bt176.1 bt176.2.1 bt176.2.2.1 bt183.1 bt183.2.1 bt183.2.2.1) else (storagebarterlaw06_MatrixRows.j0 k (wrap64 (1 + (wrap64 (Int.tmod a1 8)))) (wrap64 (1 + (wrap64 (Int.tmod a2 8)))) true bt173.1 bt173.2 bt176.1 bt176.2.1 bt176.2.2.1 bt183.1 bt183.2.1 bt183.2.2.1))))) = some true := by rw [if_pos rfl] at H; exact H
      clear H
      have H := H1
      clear H1
      replace H := Option.bind_eq_some_iff.mp H
      obtain ⟨⟨t173, t174⟩, A80, H⟩ := H
      replace H : ((matrix_Identity.f k (wrap64 (1 + (wrap64 (Int.tmod a1 8))))).bind fun bt176 => ((matrix_Cauchy.f k (wrap64 (1 + (wrap64 (Int.tmod a2 8)))) (wrap64 (1 + (wrap64 (Int.tmod a1 8))))).bind fun bt183 => (if bt176.2.2.2 = 0 then (storagebarterlaw06_MatrixRows.j0 k (wrap64 (1 + (wrap64 (Int.tmod a1 8)))) (wrap64 (1 + (wrap64 (Int.tmod a2 8)))) (bt183.2.2.2 != 0) t173 t174 bt176.1 bt176.2.1 bt176.2.2.1 bt183.1 bt183.2.1 bt183.2.2.1) else (storagebarterlaw06_MatrixRows.j0 k (wrap64 (1 + (wrap64 (Int.tmod a1 8)))) (wrap64 (1 + (wrap64 (Int.tmod a2 8)))) true t173 t174 bt176.1 bt176.2.1 bt176.2.2.1 bt183.1 bt183.2.1 bt183.2.2.1)))) = some true := H
      have A8 := Aside0.mk A80
      clear A80
      replace H := Option.bind_eq_some_iff.mp H
      obtain ⟨⟨t176, t177, t178, t181⟩, A90, H⟩ := H
      replace H : ((matrix_Cauchy.f k (wrap64 (1 + (wrap64 (Int.tmod a2 8)))) (wrap64 (1 + (wrap64 (Int.tmod a1 8))))).bind fun bt183 => (if t181 = 0 then (storagebarterlaw06_MatrixRows.j0 k (wrap64 (1 + (wrap64 (Int.tmod a1 8)))) (wrap64 (1 + (wrap64 (Int.tmod a2 8)))) (bt183.2.2.2 != 0) t173 t174 t176 t177 t178 bt183.1 bt183.2.1 bt183.2.2.1) else (storagebarterlaw06_MatrixRows.j0 k (wrap64 (1 + (wrap64 (Int.tmod a1 8)))) (wrap64 (1 + (wrap64 (Int.tmod a2 8)))) true t173 t174 t176 t177 t178 bt183.1 bt183.2.1 bt183.2.2.1))) = some true := H
      have A9 := Aside0.mk A90
      clear A90
      replace H := Option.bind_eq_some_iff.mp H
      obtain ⟨⟨t183, t184, t185, t188⟩, A100, H⟩ := H
      replace H : (if t181 = 0 then (storagebarterlaw06_MatrixRows.j0 k (wrap64 (1 + (wrap64 (Int.tmod a1 8)))) (wrap64 (1 + (wrap64 (Int.tmod a2 8)))) (t188 != 0) t173 t174 t176 t177 t178 t183 t184 t185) else (storagebarterlaw06_MatrixRows.j0 k (wrap64 (1 + (wrap64 (Int.tmod a1 8)))) (wrap64 (1 + (wrap64 (Int.tmod a2 8)))) true t173 t174 t176 t177 t178 t183 t184 t185)) = some true := H
      have A10 := Aside0.mk A100
      clear A100
      have HC11 := Aside0.mk H
      clear H
      go_enter Try.func8, Try.ntmps8
      go_upto_region 9 with (first | ((with_reducible refine gate_callee (f := 11) rfl ?_); refine goesL_ (some 18) rfl rfl Try.func11 (by kernel_rfl) rfl #[] rfl (by (try simp only [List.map_toArray, List.map_cons, List.map_nil]); first | done | rfl | (simp only [List.length_drop, List.length_take]; rfl)) ?_; (with_reducible refine (storagebarterlaw06_sane.calls k _ A4.out).mono ?_); rintro e w12 ⟨rfl, hb⟩; refine ⟨_, rfl, ?_⟩; have n0_ := Aside0.mk (below_step (by repeat (first | (with_reducible first | exact HB.out | apply below_alloc | apply pw_below_drewN | apply below_drew1) | exact HB.out)) hb); clear HB; have HB := n0_; clear n0_; (try clear hb); (try clear hb2); (try clear hk); (try clear hi)) | ((with_reducible refine gate_callee (f := 19) rfl ?_); refine goesL_ (some 21) rfl rfl Try.func19 (by kernel_rfl) rfl #[.slice A0 l0.length c0] rfl (by (try simp only [List.map_toArray, List.map_cons, List.map_nil]); first | done | rfl | (simp only [List.length_drop, List.length_take]; rfl)) ?_; (with_reducible refine (storagebartermake_Few.calls _ _ l0 true _ ?side1 ?side2 A6.out).mono ?_); (case side1 => repeat (first | exact (Kd.C_below HR0.out HB.out) | (with_reducible refine Kd.C_alloc ?_ _) | (with_reducible refine Kd.C_drewN ?_ _) | (with_reducible refine Kd.C_drew ?_))); (case side2 => exact HC0.out); rintro e w' ⟨rfl, ⟨nd, rfl⟩⟩; refine ⟨_, rfl, ?_⟩; (try (rw [drewN_self w12]; generalize hq_ : World.drewN w12 _ = w12; have n0_ : Aside0 (Below w.heap.size w w12) := ⟨by rw [← hq_]; exact (by repeat (first | (with_reducible first | exact HB.out | apply below_alloc | apply pw_below_drewN | apply below_drew1) | exact HB.out))⟩; clear HB hq_; have HB := n0_; clear n0_))) | ((with_reducible refine gate_callee (f := 20) rfl ?_); refine goesL_ (some 24) rfl rfl Try.func20 (by kernel_rfl) rfl #[.slice A0 l0.length c0] rfl (by (try simp only [List.map_toArray, List.map_cons, List.map_nil]); first | done | rfl | (simp only [List.length_drop, List.length_take]; rfl)) ?_; (with_reducible refine (storagebartermake_New.calls _ _ l0 t173 t174 w _ ?side1 ?side2 ?side3 A8.out).mono ?_); (case side1 => repeat (first | (with_reducible first | exact HB.out | apply below_alloc | apply pw_below_drewN | apply below_drew1) | exact HB.out)); (case side2 => exact HR0.out); (case side3 => exact HC0.out); rintro e w13 ⟨g175, rfl, hi, hb, hb2⟩; refine ⟨_, rfl, ?_⟩; have n0_ := Aside0.mk (hb); have n1_ := Aside0.mk (hi); clear HB; have HB := n0_; have HI175 := n1_; clear n0_ n1_; (try clear hb); (try clear hb2); (try clear hk); (try clear hi)) | ((with_reducible refine gate_callee (f := 13) rfl ?_); refine goesL_ (some 35) rfl rfl Try.func13 (by kernel_rfl) rfl #[.int .i64 (wrap64 (1 + (wrap64 (Int.tmod a1 8))))] rfl (by (try simp only [List.map_toArray, List.map_cons, List.map_nil]); first | done | rfl | (simp only [List.length_drop, List.length_take]; rfl)) ?_; (with_reducible refine (matrix_Identity.calls k (wrap64 (1 + (wrap64 (Int.tmod a1 8)))) t176 t177 t178 t181 _ A9.out).mono ?_); rintro e w14 ⟨v179, rfl, ho0, hb⟩; refine ⟨_, rfl, ?_⟩; have n0_ := Aside0.mk (Kd.R_lower ho0 (below_size (by repeat (first | (with_reducible first | exact HB.out | apply below_alloc | apply pw_below_drewN | apply below_drew1 | refine below_set ?_ (IsS56.ge HI175.out)) | exact HB.out)))); have n1_ := Aside0.mk (IsS56.below (by repeat (first | (with_reducible first | exact HI175.out | apply IsS56.alloc | apply IsS56.drewN | apply IsS56.drew | apply IsS56.set_1) | exact HI175.out)) hb); have n2_ := Aside0.mk (below_step (by repeat (first | (with_reducible first | exact HB.out | apply below_alloc | apply pw_below_drewN | apply below_drew1 | refine below_set ?_ (IsS56.ge HI175.out)) | exact HB.out)) hb); clear HI175; clear HB; have HO180 := n0_; have HI175 := n1_; have HB := n2_; clear n0_ n1_ n2_; (try clear hb); (try clear hb2); (try clear hk); (try clear hi); (try clear ho0)) | ((with_reducible refine gate_dst (N := 10) rfl ?_); refine box_event ?hg (N := 10) ?hd (cs := #[.int .i64 0, .int .i64 0, .slice none 0 0]) (t := 26) ?hr ?_; (case hd => rfl); (case hg => rfl); (case hr => first | (go_simp; done) | (go_simp; rfl)); intro gb182 hg w15 hbox hb; have n0_ := Aside0.mk (Kd.R_below (by (with_reducible repeat (first | apply Kd.R_alloc | apply Kd.R_drewN | apply Kd.R_drew)); exact HO180.out) hb); have n1_ := Aside0.mk (IsS56.below (by repeat (first | (with_reducible first | exact HI175.out | apply IsS56.alloc | apply IsS56.drewN | apply IsS56.drew | apply IsS56.set_1) | exact HI175.out)) hb); have n2_ := Aside0.mk (below_step (by repeat (first | (with_reducible first | exact HB.out | apply below_alloc | apply pw_below_drewN | apply below_drew1 | refine below_set ?_ (IsS56.ge HI175.out)) | exact HB.out)) hb); have n3_ := Aside0.mk (hbox); have n4_ := Aside0.mk ((by rw [hg]; exact (below_size (by repeat (first | (with_reducible first | exact HB.out | apply below_alloc | apply pw_below_drewN | apply below_drew1 | refine below_set ?_ (IsS56.ge HI175.out)) | exact HB.out))) : w.heap.size ≤ gb182)); have n5_ := Aside0.mk ((by rw [hg]; exact (below_size (by repeat (first | (with_reducible first | exact HB.out | apply below_alloc | apply pw_below_drewN | apply below_drew1 | refine below_set ?_ (IsS56.ge HI175.out)) | exact HB.out))) : w.heap.size ≤ gb182)); have n6_ := Aside0.mk ((by rw [hg]; exact Nat.ne_of_lt (IsS56.lt (show IsS56 w _ g175 t173 t174 from by repeat (first | (with_reducible first | exact HI175.out | apply IsS56.alloc | apply IsS56.drewN | apply IsS56.drew | apply IsS56.set_1) | exact HI175.out))) : g175 ≠ gb182)); have n7_ := Aside0.mk ((by rw [hg]; exact Nat.ne_of_gt (IsS56.lt (show IsS56 w _ g175 t173 t174 from by repeat (first | (with_reducible first | exact HI175.out | apply IsS56.alloc | apply IsS56.drewN | apply IsS56.drew | apply IsS56.set_1) | exact HI175.out))) : gb182 ≠ g175)); clear HO180; clear HI175; clear HB; have HO180 := n0_; have HI175 := n1_; have HB := n2_; have BK182 := n3_; have GW182 := n4_; have GE182 := n5_; have NB175_182 := n6_; have NB182_175 := n7_; clear n0_ n1_ n2_ n3_ n4_ n5_ n6_ n7_; clear hb hbox hg; have hnb16 := NB182_175.out; have hnc16 := NB175_182.out; have hcz17_0 : w15.cell? ⟨gb182, 0, none⟩ = some (.int .i64 0) := (blk_cell BK182.out 0).trans rfl; have hcz17_1 : w15.cell? ⟨gb182, 1, none⟩ = some (.int .i64 0) := (blk_cell BK182.out 1).trans rfl; have hcz17_2 : w15.cell? ⟨gb182, 2, none⟩ = some (.slice none 0 0) := (blk_cell BK182.out 2).trans rfl; have hfz17_0 := blk_frozen BK182.out 0; have hfz17_1 := blk_frozen BK182.out 1; have hfz17_2 := blk_frozen BK182.out 2; obtain ⟨Ao18, co18, eo18⟩ := Kd.R_slice HO180.out; subst eo18) | ((with_reducible refine gate_callee (f := 16) rfl ?_); refine goesL_ (some 41) rfl rfl Try.func16 (by kernel_rfl) rfl #[.int .i64 (wrap64 (1 + (wrap64 (Int.tmod a2 8)))), .int .i64 (wrap64 (1 + (wrap64 (Int.tmod a1 8))))] rfl (by (try simp only [List.map_toArray, List.map_cons, List.map_nil]); first | done | rfl | (simp only [List.length_drop, List.length_take]; rfl)) ?_; (with_reducible refine (matrix_Cauchy.calls k (wrap64 (1 + (wrap64 (Int.tmod a2 8)))) (wrap64 (1 + (wrap64 (Int.tmod a1 8)))) t183 t184 t185 t188 _ A10.out).mono ?_); rintro e w19 ⟨v186, rfl, ho0, hb⟩; refine ⟨_, rfl, ?_⟩; have n0_ := Aside0.mk (Kd.R_elder' (by (with_reducible repeat (first | apply Kd.R_alloc | apply Kd.R_drewN | apply Kd.R_drew)); exact (Kd.R_mono (Kd.R_far (p := ⟨gb182, 2, none⟩) (Kd.R_far (p := ⟨gb182, 1, none⟩) (Kd.R_far (p := ⟨gb182, 0, none⟩) (Kd.R_types HO180.out BK182.out (by decide)) (fun _ hk => hk.2) (.int .i64 t176)) (fun _ hk => hk.2) (.int .i64 t177)) (fun _ hk => hk.2) (.slice Ao18 t178.length co18)) (fun _ h_ => h_.1))) (Kd.R_base ho0) hb); have n1_ := Aside0.mk (Kd.R_lower (Kd.R_new' ho0 (Kd.R_lt (by (with_reducible repeat (first | apply Kd.R_alloc | apply Kd.R_drewN | apply Kd.R_drew)); exact (Kd.R_mono (Kd.R_far (p := ⟨gb182, 2, none⟩) (Kd.R_far (p := ⟨gb182, 1, none⟩) (Kd.R_far (p := ⟨gb182, 0, none⟩) (Kd.R_types HO180.out BK182.out (by decide)) (fun _ hk => hk.2) (.int .i64 t176)) (fun _ hk => hk.2) (.int .i64 t177)) (fun _ hk => hk.2) (.slice Ao18 t178.length co18)) (fun _ h_ => h_.1))))) (below_size (by repeat (first | (with_reducible first | exact HB.out | apply below_alloc | apply pw_below_drewN | apply below_drew1 | refine below_set ?_ (IsS56.ge HI175.out) | refine below_set ?_ GE182.out) | exact HB.out)))); have n2_ := Aside0.mk (IsS56.below (show IsS56 w (((w15.setCell ⟨gb182, 0, none⟩ (.int .i64 t176)).setCell ⟨gb182, 1, none⟩ (.int .i64 t177)).setCell ⟨gb182, 2, none⟩ (.slice Ao18 t178.length co18)) g175 t173 t174 from by repeat (first | (with_reducible first | exact HI175.out | apply IsS56.alloc | apply IsS56.drewN | apply IsS56.drew | apply IsS56.set_1 | refine IsS56.far ?_ NB175_182.out _) | exact HI175.out)) hb); have n3_ := Aside0.mk (blk_below (g := gb182) (o := .cells #[.int .i64 t176, .int .i64 t177, .slice Ao18 t178.length co18] 26 (0, 0)) (by (with_reducible repeat (first | refine blk_drewN ?_ _ | refine blk_drew ?_ | refine blk_alloc ?_ _)); refine blk_put (cs := #[.int .i64 t176, .int .i64 t177, .slice none 0 0]) ?_ 2 _ rfl; (with_reducible repeat (first | refine blk_drewN ?_ _ | refine blk_drew ?_ | refine blk_alloc ?_ _)); refine blk_put (cs := #[.int .i64 t176, .int .i64 0, .slice none 0 0]) ?_ 1 _ rfl; (with_reducible repeat (first | refine blk_drewN ?_ _ | refine blk_drew ?_ | refine blk_alloc ?_ _)); refine blk_put (cs := #[.int .i64 0, .int .i64 0, .slice none 0 0]) ?_ 0 _ rfl; (with_reducible repeat (first | refine blk_drewN ?_ _ | refine blk_drew ?_ | refine blk_alloc ?_ _)); exact BK182.out) hb); have n4_ := Aside0.mk (below_step (by repeat (first | (with_reducible first | exact HB.out | apply below_alloc | apply pw_below_drewN | apply below_drew1 | refine below_set ?_ (IsS56.ge HI175.out) | refine below_set ?_ GE182.out) | exact HB.out)) hb); clear HO180; clear HI175; clear BK182; clear HB; have HO180 := n0_; have HO187 := n1_; have HI175 := n2_; have BK182 := n3_; have HB := n4_; clear n0_ n1_ n2_ n3_ n4_; (try clear hb); (try clear hb2); (try clear hk); (try clear hi); (try clear ho0)) | ((with_reducible refine gate_dst (N := 12) rfl ?_); refine box_event ?hg (N := 12) ?hd (cs := #[.int .i64 0, .int .i64 0, .slice none 0 0]) (t := 26) ?hr ?_; (case hd => rfl); (case hg => rfl); (case hr => first | (go_simp; done) | (go_simp; rfl)); intro gb189 hg w20 hbox hb; have n0_ := Aside0.mk (Kd.R_below (by (with_reducible repeat (first | apply Kd.R_alloc | apply Kd.R_drewN | apply Kd.R_drew)); exact HO180.out) hb); have n1_ := Aside0.mk (Kd.R_below (by (with_reducible repeat (first | apply Kd.R_alloc | apply Kd.R_drewN | apply Kd.R_drew)); exact HO187.out) hb); have n2_ := Aside0.mk (IsS56.below (by repeat (first | (with_reducible first | exact HI175.out | apply IsS56.alloc | apply IsS56.drewN | apply IsS56.drew | apply IsS56.set_1 | refine IsS56.far ?_ NB175_182.out _) | exact HI175.out)) hb); have n3_ := Aside0.mk (blk_below (g := gb182) (o := .cells #[.int .i64 t176, .int .i64 t177, .slice Ao18 t178.length co18] 26 (0, 0)) (by (with_reducible repeat (first | refine blk_drewN ?_ _ | refine blk_drew ?_ | refine blk_alloc ?_ _)); exact BK182.out) hb); have n4_ := Aside0.mk (below_step (by repeat (first | (with_reducible first | exact HB.out | apply below_alloc | apply pw_below_drewN | apply below_drew1 | refine below_set ?_ (IsS56.ge HI175.out) | refine below_set ?_ GE182.out) | exact HB.out)) hb); have n5_ := Aside0.mk (hbox); have n6_ := Aside0.mk ((by rw [hg]; exact (below_size (by repeat (first | (with_reducible first | exact HB.out | apply below_alloc | apply pw_below_drewN | apply below_drew1 | refine below_set ?_ (IsS56.ge HI175.out) | refine below_set ?_ GE182.out) | exact HB.out))) : w.heap.size ≤ gb189)); have n7_ := Aside0.mk ((by rw [hg]; exact (below_size (by repeat (first | (with_reducible first | exact HB.out | apply below_alloc | apply pw_below_drewN | apply below_drew1 | refine below_set ?_ (IsS56.ge HI175.out) | refine below_set ?_ GE182.out) | exact HB.out))) : w.heap.size ≤ gb189)); have n8_ := Aside0.mk ((by rw [hg]; exact Nat.ne_of_lt (blk_lt (g := gb182) (o := .cells #[.int .i64 t176, .int .i64 t177, .slice Ao18 t178.length co18] 26 (0, 0)) (by (with_reducible repeat (first | refine blk_drewN ?_ _ | refine blk_drew ?_ | refine blk_alloc ?_ _)); exact BK182.out)) : gb182 ≠ gb189)); have n9_ := Aside0.mk ((by rw [hg]; exact Nat.ne_of_gt (blk_lt (g := gb182) (o := .cells #[.int .i64 t176, .int .i64 t177, .slice Ao18 t178.length co18] 26 (0, 0)) (by (with_reducible repeat (first | refine blk_drewN ?_ _ | refine blk_drew ?_ | refine blk_alloc ?_ _)); exact BK182.out)) : gb189 ≠ gb182)); have n10_ := Aside0.mk ((by rw [hg]; exact Nat.ne_of_lt (IsS56.lt (show IsS56 w _ g175 t173 t174 from by repeat (first | (with_reducible first | exact HI175.out | apply IsS56.alloc | apply IsS56.drewN | apply IsS56.drew | apply IsS56.set_1 | refine IsS56.far ?_ NB175_182.out _) | exact HI175.out))) : g175 ≠ gb189)); have n11_ := Aside0.mk ((by rw [hg]; exact Nat.ne_of_gt (IsS56.lt (show IsS56 w _ g175 t173 t174 from by repeat (first | (with_reducible first | exact HI175.out | apply IsS56.alloc | apply IsS56.drewN | apply IsS56.drew | apply IsS56.set_1 | refine IsS56.far ?_ NB175_182.out _) | exact HI175.out))) : gb189 ≠ g175)); clear HO180; clear HO187; clear HI175; clear BK182; clear HB; have HO180 := n0_; have HO187 := n1_; have HI175 := n2_; have BK182 := n3_; have HB := n4_; have BK189 := n5_; have GW189 := n6_; have GE189 := n7_; have NB182_189 := n8_; have NB189_182 := n9_; have NB175_189 := n10_; have NB189_175 := n11_; clear n0_ n1_ n2_ n3_ n4_ n5_ n6_ n7_ n8_ n9_ n10_ n11_; clear hb hbox hg; have hnb21 := NB189_182.out; have hnc21 := NB182_189.out; have hnb22 := NB189_175.out; have hnc22 := NB175_189.out; have hcz23_0 : w20.cell? ⟨gb189, 0, none⟩ = some (.int .i64 0) := (blk_cell BK189.out 0).trans rfl; have hcz23_1 : w20.cell? ⟨gb189, 1, none⟩ = some (.int .i64 0) := (blk_cell BK189.out 1).trans rfl; have hcz23_2 : w20.cell? ⟨gb189, 2, none⟩ = some (.slice none 0 0) := (blk_cell BK189.out 2).trans rfl; have hfz23_0 := blk_frozen BK189.out 0; have hfz23_1 := blk_frozen BK189.out 1; have hfz23_2 := blk_frozen BK189.out 2; obtain ⟨Ao24, co24, eo24⟩ := Kd.R_slice HO187.out; subst eo24))
      (try simp only [Act.put, List.setIfInBounds_toArray, List.set_cons_zero, List.set_cons_succ])
      go_cut [49] (fun v49 wc => ∃ (kq : Nat) (x49_10 : Bool), v49 = .bool x49_10 ∧ Aside0 (storagebarterlaw06_MatrixRows.j0 kq (wrap64 (1 + (wrap64 (Int.tmod a1 8)))) (wrap64 (1 + (wrap64 (Int.tmod a2 8)))) x49_10 t173 t174 t176 t177 t178 t183 t184 t185 = some true) ∧ Aside0 (kq ≤ k) ∧ Aside0 (Kd.R (Kd.int .i64) 3 wc w.heap.size (fun k_ => some k_ ≠ ((.slice Ao24 t185.length co24) : Value).ownBlock) (.slice Ao18 t178.length co18) t178) ∧ Aside0 (Kd.R (Kd.int .i64) 3 wc w.heap.size (fun k_ => some k_ ≠ ((.slice Ao18 t178.length co18) : Value).ownBlock) (.slice Ao24 t185.length co24) t185) ∧ Aside0 (wc.heap[gb182]? = some (.cells #[.int .i64 t176, .int .i64 t177, (.slice Ao18 t178.length co18)] 26 (0, 0))) ∧ Aside0 (wc.heap[gb189]? = some (.cells #[.int .i64 t183, .int .i64 t184, (.slice Ao24 t185.length co24)] 26 (0, 0))) ∧ Aside0 (IsS56 w wc g175 t173 t174) ∧ Aside0 (Below w.heap.size w wc))
      case first =>
        have H := HC11.out
        clear HC11
        by_cases c25 : t181 = 0
        · rw [if_pos c25] at H
          have c25b0 : (t181 == 0) = true := beq_iff_eq.mpr c25
          have c25b1 : (t181 != 0) = false := bne_eq_false_iff_eq.mpr c25
          clear c25
          (first | rw [c25b0] | (simp only [i64_w, i32_w]; rw [c25b0]) | skip)
          have H' := Aside0.mk H
          clear H
          go_wp2
          go_meet
          case rel => exact ⟨_, ((t188 != 0)), (by first | rfl | (simp; done) | (simp [*]; done)), H', ⟨by first | omega | exact Nat.le_refl _⟩, ⟨by (with_reducible repeat (first | apply Kd.R_alloc | apply Kd.R_drewN | apply Kd.R_drew)); exact Kd.R_mono (Kd.R_far (p := ⟨gb189, 2, none⟩) (Kd.R_far (p := ⟨gb189, 1, none⟩) (Kd.R_far (p := ⟨gb189, 0, none⟩) (Kd.R_types HO180.out BK189.out (by decide)) (fun _ hk => hk.2) (.int .i64 t183)) (fun _ hk => hk.2) (.int .i64 t184)) (fun _ hk => hk.2) (.slice Ao24 t185.length co24)) (fun _ hk => hk.1.2)⟩, ⟨by (with_reducible repeat (first | apply Kd.R_alloc | apply Kd.R_drewN | apply Kd.R_drew)); exact Kd.R_mono (Kd.R_far (p := ⟨gb189, 2, none⟩) (Kd.R_far (p := ⟨gb189, 1, none⟩) (Kd.R_far (p := ⟨gb189, 0, none⟩) (Kd.R_types HO187.out BK189.out (by decide)) (fun _ hk => hk.2) (.int .i64 t183)) (fun _ hk => hk.2) (.int .i64 t184)) (fun _ hk => hk.2) (.slice Ao24 t185.length co24)) (fun _ hk => hk.1.2)⟩, ⟨by (with_reducible repeat (first | refine blk_drewN ?_ _ | refine blk_drew ?_ | refine blk_alloc ?_ _)); refine blk_far ?_ NB182_189.out _; (with_reducible repeat (first | refine blk_drewN ?_ _ | refine blk_drew ?_ | refine blk_alloc ?_ _)); refine blk_far ?_ NB182_189.out _; (with_reducible repeat (first | refine blk_drewN ?_ _ | refine blk_drew ?_ | refine blk_alloc ?_ _)); refine blk_far ?_ NB182_189.out _; (with_reducible repeat (first | refine blk_drewN ?_ _ | refine blk_drew ?_ | refine blk_alloc ?_ _)); exact BK182.out⟩, ⟨by (with_reducible repeat (first | refine blk_drewN ?_ _ | refine blk_drew ?_ | refine blk_alloc ?_ _)); refine blk_put (cs := #[.int .i64 t183, .int .i64 t184, .slice none 0 0]) ?_ 2 _ rfl; (with_reducible repeat (first | refine blk_drewN ?_ _ | refine blk_drew ?_ | refine blk_alloc ?_ _)); refine blk_put (cs := #[.int .i64 t183, .int .i64 0, .slice none 0 0]) ?_ 1 _ rfl; (with_reducible repeat (first | refine blk_drewN ?_ _ | refine blk_drew ?_ | refine blk_alloc ?_ _)); refine blk_put (cs := #[.int .i64 0, .int .i64 0, .slice none 0 0]) ?_ 0 _ rfl; (with_reducible repeat (first | refine blk_drewN ?_ _ | refine blk_drew ?_ | refine blk_alloc ?_ _)); exact BK189.out⟩, ⟨by repeat (first | (with_reducible first | exact HI175.out | apply IsS56.alloc | apply IsS56.drewN | apply IsS56.drew | apply IsS56.set_1 | refine IsS56.far ?_ NB175_182.out _ | refine IsS56.far ?_ NB175_189.out _) | exact HI175.out)⟩, ⟨by repeat (first | (with_reducible first | exact HB.out | apply below_alloc | apply pw_below_drewN | apply below_drew1 | refine below_set ?_ (IsS56.ge HI175.out) | refine below_set ?_ GE182.out | refine below_set ?_ GE189.out) | exact HB.out)⟩⟩
        · rw [if_neg c25] at H
          have c25b0 : (t181 == 0) = false := beq_eq_false_iff_ne.mpr c25
          have c25b1 : (t181 != 0) = true := bne_iff_ne.mpr c25
          (first | rw [c25b0] | (simp only [i64_w, i32_w]; rw [c25b0]) | skip)
          have H' := Aside0.mk H
          clear H
          go_wp2
          go_meet
          case rel => exact ⟨_, (true), (by first | rfl | (simp; done) | (simp [*]; done)), H', ⟨by first | omega | exact Nat.le_refl _⟩, ⟨by (with_reducible repeat (first | apply Kd.R_alloc | apply Kd.R_drewN | apply Kd.R_drew)); exact Kd.R_mono (Kd.R_far (p := ⟨gb189, 2, none⟩) (Kd.R_far (p := ⟨gb189, 1, none⟩) (Kd.R_far (p := ⟨gb189, 0, none⟩) (Kd.R_types HO180.out BK189.out (by decide)) (fun _ hk => hk.2) (.int .i64 t183)) (fun _ hk => hk.2) (.int .i64 t184)) (fun _ hk => hk.2) (.slice Ao24 t185.length co24)) (fun _ hk => hk.1.2)⟩, ⟨by (with_reducible repeat (first | apply Kd.R_alloc | apply Kd.R_drewN | apply Kd.R_drew)); exact Kd.R_mono (Kd.R_far (p := ⟨gb189, 2, none⟩) (Kd.R_far (p := ⟨gb189, 1, none⟩) (Kd.R_far (p := ⟨gb189, 0, none⟩) (Kd.R_types HO187.out BK189.out (by decide)) (fun _ hk => hk.2) (.int .i64 t183)) (fun _ hk => hk.2) (.int .i64 t184)) (fun _ hk => hk.2) (.slice Ao24 t185.length co24)) (fun _ hk => hk.1.2)⟩, ⟨by (with_reducible repeat (first | refine blk_drewN ?_ _ | refine blk_drew ?_ | refine blk_alloc ?_ _)); refine blk_far ?_ NB182_189.out _; (with_reducible repeat (first | refine blk_drewN ?_ _ | refine blk_drew ?_ | refine blk_alloc ?_ _)); refine blk_far ?_ NB182_189.out _; (with_reducible repeat (first | refine blk_drewN ?_ _ | refine blk_drew ?_ | refine blk_alloc ?_ _)); refine blk_far ?_ NB182_189.out _; (with_reducible repeat (first | refine blk_drewN ?_ _ | refine blk_drew ?_ | refine blk_alloc ?_ _)); exact BK182.out⟩, ⟨by (with_reducible repeat (first | refine blk_drewN ?_ _ | refine blk_drew ?_ | refine blk_alloc ?_ _)); refine blk_put (cs := #[.int .i64 t183, .int .i64 t184, .slice none 0 0]) ?_ 2 _ rfl; (with_reducible repeat (first | refine blk_drewN ?_ _ | refine blk_drew ?_ | refine blk_alloc ?_ _)); refine blk_put (cs := #[.int .i64 t183, .int .i64 0, .slice none 0 0]) ?_ 1 _ rfl; (with_reducible repeat (first | refine blk_drewN ?_ _ | refine blk_drew ?_ | refine blk_alloc ?_ _)); refine blk_put (cs := #[.int .i64 0, .int .i64 0, .slice none 0 0]) ?_ 0 _ rfl; (with_reducible repeat (first | refine blk_drewN ?_ _ | refine blk_drew ?_ | refine blk_alloc ?_ _)); exact BK189.out⟩, ⟨by repeat (first | (with_reducible first | exact HI175.out | apply IsS56.alloc | apply IsS56.drewN | apply IsS56.drew | apply IsS56.set_1 | refine IsS56.far ?_ NB175_182.out _ | refine IsS56.far ?_ NB175_189.out _) | exact HI175.out)⟩, ⟨by repeat (first | (with_reducible first | exact HB.out | apply below_alloc | apply pw_below_drewN | apply below_drew1 | refine below_set ?_ (IsS56.ge HI175.out) | refine below_set ?_ GE182.out | refine below_set ?_ GE189.out) | exact HB.out)⟩⟩
      case rest =>
        clear HC11
        try clear c1
        try clear c2
        try clear p2
        try clear c5
        try clear p6
        try clear c7
        try clear c8
        try clear c11
        try clear c13
        try clear c16
        try clear c19
        try clear c20
        try clear c21
        try clear c22
        try clear c25
        try clear c25b0
        try clear c25b1
        try clear hcz17_0
        try clear hcz17_1
        try clear hcz17_2
        try clear hcz23_0
        try clear hcz23_1
        try clear hcz23_2
        try clear hfz17_0
        try clear hfz17_1
        try clear hfz17_2
        try clear hfz23_0
        try clear hfz23_1
        try clear hfz23_2
        obtain ⟨kq, x49_10, rfl, HA, HJ10, HO_183002, HO_190002, BK182, BK189, HI175, HB⟩ := hcut
        cases kq with
        | zero => exact absurd HA.out (by simp [storagebarterlaw06_MatrixRows.j0])
        | succ kj10 =>
          have H := HA.out
          clear HA
          simp only [storagebarterlaw06_MatrixRows.j0] at H
          by_cases c26 : x49_10 = true
          · subst c26
            have H1 : (some false) = some true := by rw [if_pos rfl] at H; exact H
            clear H
            have H := H1
            clear H1
            exact absurd H (by simp)
          · replace c26 := Bool.eq_false_iff.mpr c26
            subst c26
            have H1 : (if t178.length + t185.length < 17592186044416 then ((storagebarterlaw06_pick.f t173 t174 (wrap64 ((wrap64 (1 + (wrap64 (Int.tmod a1 8)))) + (wrap64 (1 + (wrap64 (Int.tmod a2 8)))))) (wrap64 (1 + (wrap64 (Int.tmod a1 8))))).bind fun bt193 => ((matrix_Pick.f kj10 (wrap64 (t176 + (wrap64 (1 + (wrap64 (Int.tmod a2 8)))))) t177 (t178 ++ t185) bt193.1).bind fun bt197 => ((matrix_Inverse.f kj10 bt197.1 bt197.2.1 bt197.2.2.1).bind fun bt204 => (if bt197.2.2.2 = 0 then (some (bt204.2.2.2 == 0)) else (some false))))) else (none)) = some true := by rw [if_neg (show ¬ (false = true) by decide)] at H; exact H
            clear H
            have H := H1
            clear H1
            by_cases c27 : t178.length + t185.length < 17592186044416
            · rw [if_pos c27] at H
              have LMc27 := Aside0.mk c27
              clear c27
              obtain ⟨y190, hy190⟩ : ∃ y_ : List Int, y_ = (t178 ++ t185) := ⟨_, rfl⟩
              replace H : ((storagebarterlaw06_pick.f t173 t174 (wrap64 ((wrap64 (1 + (wrap64 (Int.tmod a1 8)))) + (wrap64 (1 + (wrap64 (Int.tmod a2 8)))))) (wrap64 (1 + (wrap64 (Int.tmod a1 8))))).bind fun bt193 => ((matrix_Pick.f kj10 (wrap64 (t176 + (wrap64 (1 + (wrap64 (Int.tmod a2 8)))))) t177 y190 bt193.1).bind fun bt197 => ((matrix_Inverse.f kj10 bt197.1 bt197.2.1 bt197.2.2.1).bind fun bt204 => (if bt197.2.2.2 = 0 then (some (bt204.2.2.2 == 0)) else (some false))))) = some true := by first | (rw [hy190]; with_reducible exact H) | (have H2_ := (Option.bind_some _ _).symm.trans H; rw [hy190]; with_reducible exact H2_) | (have H2_ := (Option.bind_some _ _).symm.trans H; with_reducible exact H2_) | with_reducible exact H | (rw [hy190]; exact H) | exact H
              have Ny190 := Aside0.mk hy190
              clear hy190
              replace H := Option.bind_eq_some_iff.mp H
              obtain ⟨⟨t193, t196⟩, A280, H⟩ := H
              replace H : ((matrix_Pick.f kj10 (wrap64 (t176 + (wrap64 (1 + (wrap64 (Int.tmod a2 8)))))) t177 y190 t193).bind fun bt197 => ((matrix_Inverse.f kj10 bt197.1 bt197.2.1 bt197.2.2.1).bind fun bt204 => (if bt197.2.2.2 = 0 then (some (bt204.2.2.2 == 0)) else (some false)))) = some true := H
              have A28 := Aside0.mk A280
              clear A280
              replace H := Option.bind_eq_some_iff.mp H
              obtain ⟨⟨t197, t198, t199, t202⟩, A290, H⟩ := H
              replace H : ((matrix_Inverse.f kj10 t197 t198 t199).bind fun bt204 => (if t202 = 0 then (some (bt204.2.2.2 == 0)) else (some false))) = some true := H
              have A29 := Aside0.mk A290
              clear A290
              replace H := Option.bind_eq_some_iff.mp H
              obtain ⟨⟨t204, t205, t206, t209⟩, A300, H⟩ := H
              replace H : (if t202 = 0 then (some (t209 == 0)) else (some false)) = some true := H
              have A30 := Aside0.mk A300
              clear A300
              by_cases c31 : t202 = 0
              · rw [if_pos c31] at H
                have c31b0 : (t202 == 0) = true := beq_iff_eq.mpr c31
                have c31b1 : (t202 != 0) = false := bne_eq_false_iff_eq.mpr c31
                clear c31
                have HL_ := Aside0.mk (Option.some.inj H)
                clear H
                have hnb32 := NB182_189.out
                have hnc32 := NB189_182.out
                have hnb33 := NB182_175.out
                have hnc33 := NB175_182.out
                have hcz34_0 : wc.cell? ⟨gb182, 0, none⟩ = some (.int .i64 t176) := (blk_cell BK182.out 0).trans rfl
                have hcz34_1 : wc.cell? ⟨gb182, 1, none⟩ = some (.int .i64 t177) := (blk_cell BK182.out 1).trans rfl
                have hcz34_2 : wc.cell? ⟨gb182, 2, none⟩ = some (.slice Ao18 t178.length co18) := (blk_cell BK182.out 2).trans rfl
                have hfz34_0 := blk_frozen BK182.out 0
                have hfz34_1 := blk_frozen BK182.out 1
                have hfz34_2 := blk_frozen BK182.out 2
                try go_wp2
                have n0_ : Aside0 (Kd.R (Kd.int .i64) 3 (wc.setCell ⟨gb182, 0, none⟩ (.int .i64 (wrap64 (t176 + (wrap64 (1 + (wrap64 (Int.tmod a2 8)))))))) w.heap.size (fun k_ => some k_ ≠ (.slice Ao24 t185.length co24 : Value).ownBlock) (.slice Ao18 t178.length co18) t178) := ⟨by (with_reducible repeat (first | apply Kd.R_alloc | apply Kd.R_drewN | apply Kd.R_drew)); exact Kd.R_mono (Kd.R_far (p := ⟨gb182, 0, none⟩) (Kd.R_types HO_183002.out BK182.out (by decide)) (fun _ hk => hk.2) (.int .i64 (wrap64 (t176 + (wrap64 (1 + (wrap64 (Int.tmod a2 8)))))))) (fun _ hk => hk.1)⟩
                have n1_ : Aside0 (Kd.R (Kd.int .i64) 3 (wc.setCell ⟨gb182, 0, none⟩ (.int .i64 (wrap64 (t176 + (wrap64 (1 + (wrap64 (Int.tmod a2 8)))))))) w.heap.size (fun k_ => some k_ ≠ (.slice Ao18 t178.length co18 : Value).ownBlock) (.slice Ao24 t185.length co24) t185) := ⟨by (with_reducible repeat (first | apply Kd.R_alloc | apply Kd.R_drewN | apply Kd.R_drew)); exact Kd.R_mono (Kd.R_far (p := ⟨gb182, 0, none⟩) (Kd.R_types HO_190002.out BK182.out (by decide)) (fun _ hk => hk.2) (.int .i64 (wrap64 (t176 + (wrap64 (1 + (wrap64 (Int.tmod a2 8)))))))) (fun _ hk => hk.1)⟩
                have n2_ : Aside0 ((wc.setCell ⟨gb182, 0, none⟩ (.int .i64 (wrap64 (t176 + (wrap64 (1 + (wrap64 (Int.tmod a2 8)))))))).heap[gb182]? = some (.cells #[.int .i64 (wrap64 (t176 + (wrap64 (1 + (wrap64 (Int.tmod a2 8)))))), .int .i64 t177, .slice Ao18 t178.length co18] 26 (0, 0))) := ⟨by (with_reducible repeat (first | refine blk_drewN ?_ _ | refine blk_drew ?_ | refine blk_alloc ?_ _)); refine blk_put (cs := #[.int .i64 t176, .int .i64 t177, .slice Ao18 t178.length co18]) ?_ 0 _ rfl; (with_reducible repeat (first | refine blk_drewN ?_ _ | refine blk_drew ?_ | refine blk_alloc ?_ _)); exact BK182.out⟩
                have n3_ : Aside0 ((wc.setCell ⟨gb182, 0, none⟩ (.int .i64 (wrap64 (t176 + (wrap64 (1 + (wrap64 (Int.tmod a2 8)))))))).heap[gb189]? = some (.cells #[.int .i64 t183, .int .i64 t184, .slice Ao24 t185.length co24] 26 (0, 0))) := ⟨by (with_reducible repeat (first | refine blk_drewN ?_ _ | refine blk_drew ?_ | refine blk_alloc ?_ _)); refine blk_far ?_ NB189_182.out _; (with_reducible repeat (first | refine blk_drewN ?_ _ | refine blk_drew ?_ | refine blk_alloc ?_ _)); exact BK189.out⟩
                have n4_ : Aside0 (IsS56 w (wc.setCell ⟨gb182, 0, none⟩ (.int .i64 (wrap64 (t176 + (wrap64 (1 + (wrap64 (Int.tmod a2 8)))))))) g175 t173 t174) := ⟨by repeat (first | (with_reducible first | exact HI175.out | apply IsS56.alloc | apply IsS56.drewN | apply IsS56.drew | apply IsS56.set_1 | refine IsS56.far ?_ NB175_182.out _ | refine IsS56.far ?_ NB175_189.out _) | exact HI175.out)⟩
                have n5_ : Aside0 (Below w.heap.size w (wc.setCell ⟨gb182, 0, none⟩ (.int .i64 (wrap64 (t176 + (wrap64 (1 + (wrap64 (Int.tmod a2 8))))))))) := ⟨by repeat (first | (with_reducible first | exact HB.out | apply below_alloc | apply pw_below_drewN | apply below_drew1 | refine below_set ?_ (IsS56.ge HI175.out) | refine below_set ?_ GE182.out | refine below_set ?_ GE189.out) | exact HB.out)⟩
                (try clear HO_183002)
                (try clear HO_190002)
                (try clear BK182)
                (try clear BK189)
                (try clear HI175)
                (try clear HB)
                generalize (wc.setCell ⟨gb182, 0, none⟩ (.int .i64 (wrap64 (t176 + (wrap64 (1 + (wrap64 (Int.tmod a2 8)))))))) = w35 at n0_ n1_ n2_ n3_ n4_ n5_ ⊢
                have HO_183002 := n0_
                have HO_190002 := n1_
                have BK182 := n2_
                have BK189 := n3_
                have HI175 := n4_
                have HB := n5_
                clear n0_ n1_ n2_ n3_ n4_ n5_
                have n0_ := Aside0.mk (Kd.R_drew HO_183002.out)
                have n1_ := Aside0.mk (Kd.R_drew HO_190002.out)
                have n2_ := Aside0.mk (blk_drew BK182.out)
                have n3_ := Aside0.mk (blk_drew BK189.out)
                have n4_ := Aside0.mk (IsS56.drew HI175.out)
                have n5_ := Aside0.mk (below_drew1 HB.out)
                clear HO_183002
                clear HO_190002
                clear BK182
                clear BK189
                clear HI175
                clear HB
                have HO_183002 := n0_
                have HO_190002 := n1_
                have BK182 := n2_
                have BK189 := n3_
                have HI175 := n4_
                have HB := n5_
                clear n0_ n1_ n2_ n3_ n4_ n5_
                refine start_ (n := 8) (S := fun w' => w'.cell? ⟨gb182, 0, none⟩ = some (.int .i64 (wrap64 (t176 + (wrap64 (1 + (wrap64 (Int.tmod a2 8))))))) ∧ w'.cell? ⟨gb182, 1, none⟩ = some (.int .i64 t177) ∧ w'.cell? ⟨gb182, 2, none⟩ = some (.slice Ao18 t178.length co18) ∧ w'.cell? ⟨gb189, 0, none⟩ = some (.int .i64 t183) ∧ w'.cell? ⟨gb189, 1, none⟩ = some (.int .i64 t184) ∧ w'.cell? ⟨gb189, 2, none⟩ = some (.slice Ao24 t185.length co24)) (ds := [7]) #[false, false, false, false, false, false, false, false] (by kernel_rfl) rfl rfl ⟨(blk_cell BK182.out 0).trans rfl, (blk_cell BK182.out 1).trans rfl, (blk_cell BK182.out 2).trans rfl, (blk_cell BK189.out 0).trans rfl, (blk_cell BK189.out 1).trans rfl, (blk_cell BK189.out 2).trans rfl⟩ (fun hHeld => ?_); refine with_tabW storagebarterlaw06_MatrixRows.tab12 storagebarterlaw06_MatrixRows.bits12 (fun HT_ HW_ => ?_)
                generalize w35.drew = w36 at HO_183002 HO_190002 BK182 BK189 HI175 HB hHeld ⊢
                refine pure_ (i := 0) (N := some 55) (v := ?_) (a' := ?_) #[true, false, false, false, false, false, false, false] rfl rfl (any_of HT_.out (by kernel_rfl)) (fun _ _ _ h => h) (Or.inl ⟨by rfl, ?_⟩) ?_ ?_
                rotate_left
                · intro w'
                  go_simp
                  with_reducible rfl
                rotate_left
                · simp only [Act.put, List.setIfInBounds_toArray, List.set_cons_zero, List.set_cons_succ, i64_w, i32_w]
                  rfl
                refine pure_ (i := 3) (N := some 58) (v := ?_) (a' := ?_) #[true, false, false, true, false, false, false, false] rfl rfl (any_of HT_.out (by kernel_rfl)) (fun _ _ _ h => h) (Or.inl ⟨by rfl, ?_⟩) ?_ ?_
                rotate_left
                · intro w'
                  go_simp
                  with_reducible rfl
                rotate_left
                · simp only [Act.put, List.setIfInBounds_toArray, List.set_cons_zero, List.set_cons_succ, i64_w, i32_w]
                  rfl
                refine take_ (i := 1) (N := some 56) (v := ?_) (a' := ?_) #[true, true, false, true, false, false, false, false] rfl rfl (take_ofW HT_.out HW_.out (by kernel_rfl)) (fun _ _ _ h => h) (Or.inl ⟨by rfl, ?_⟩) hHeld ?_ ?_
                rotate_left
                · rintro w' ⟨s0, s1, s2, s3, s4, s5⟩
                  go_simp
                  with_reducible rfl
                rotate_left
                · simp only [Act.put, List.setIfInBounds_toArray, List.set_cons_zero, List.set_cons_succ, i64_w, i32_w]
                  rfl
                refine take_ (i := 4) (N := some 59) (v := ?_) (a' := ?_) #[true, true, false, true, true, false, false, false] rfl rfl (take_ofW HT_.out HW_.out (by kernel_rfl)) (fun _ _ _ h => h) (Or.inl ⟨by rfl, ?_⟩) hHeld ?_ ?_
                rotate_left
                · rintro w' ⟨s0, s1, s2, s3, s4, s5⟩
                  go_simp
                  with_reducible rfl
                rotate_left
                · simp only [Act.put, List.setIfInBounds_toArray, List.set_cons_zero, List.set_cons_succ, i64_w, i32_w]
                  rfl
                refine one_ (i := 2) (N := some 57) #[true, true, true, true, true, false, false, false] rfl rfl (one_of HT_.out (by kernel_rfl)) (by decide) (fun K hK => ?_)
                refine Kd.R_append_rows_step (Kd.int .i64) (w0 := w) w.heap.size (by rfl) (.const (.slice none 0 0)) (.tmp 56) 24 3 (.int .i64 0) 8 rfl Try.underlying24 info3 rfl (by decide) (by omega) (.slice none 0 0) [] t178 _ _ _ (fun k_ => some k_ ≠ (.slice Ao24 t185.length co24 : Value).ownBlock) (fun _ => False) rfl rfl ?aO ?aR (fun _ _ h => h) (fun _ h => h.elim) ?aF ?aB ?aS ?aL ?_
                (case aO => exact Kd.R_nil _ _ _ _ _)
                (case aR => exact (Kd.R_reads' HO_183002.out).2.2)
                (case aF => exact (fun k_ hk => Kd.fresh' (Kd.R_lt HO_190002.out) k_ hk))
                (case aB => exact HB.out)
                (case aS => exact below_size HB.out)
                (case aL => have := LMc27.out; simp; omega)
                intro vX wX hoX hbX hgX hatX
                rw [List.nil_append] at hoX
                have n0_ := Aside0.mk (Kd.R_mono (ok' := fun k_ => some k_ ≠ vX.ownBlock) (Kd.R_after (ok := (fun _ => True)) (Kd.R_mono HO_190002.out (fun _ hk => ⟨trivial, by simp [Value.ownBlock]⟩)) hgX hatX) (fun _ hk => hk.2))
                have n1_ := Aside0.mk (blk_grown (g := gb182) (o := .cells #[.int .i64 (wrap64 (t176 + (wrap64 (1 + (wrap64 (Int.tmod a2 8)))))), .int .i64 t177, .slice Ao18 t178.length co18] 26 (0, 0)) BK182.out hgX (by simp [Value.ownBlock]))
                have n2_ := Aside0.mk (blk_grown (g := gb189) (o := .cells #[.int .i64 t183, .int .i64 t184, .slice Ao24 t185.length co24] 26 (0, 0)) BK189.out hgX (by simp [Value.ownBlock]))
                have n3_ := Aside0.mk (IsS56.grown HI175.out hgX (by simp [Value.ownBlock]))
                have n4_ := Aside0.mk hbX
                have n5_ := Aside0.mk hoX
                clear HO_190002 BK182 BK189 HI175 HB HO_183002
                have HO_190002 := n0_
                have BK182 := n1_
                have BK189 := n2_
                have HI175 := n3_
                have HB := n4_
                have HO_183002 := n5_
                clear n0_ n1_ n2_ n3_ n4_ n5_
                clear hoX hbX hgX hatX
                obtain ⟨AoX, coX, eoX⟩ := Kd.R_slice HO_183002.out
                (first | subst eoX | (injection eoX with f1_ f2_ f3_; have f4_ := f1_.symm; have f5_ := f3_.symm; clear f1_ f2_ f3_; subst f4_; subst f5_))
                refine hK.out _ _ ⟨(blk_cell BK182.out 0).trans rfl, (blk_cell BK182.out 1).trans rfl, (blk_cell BK182.out 2).trans rfl, (blk_cell BK189.out 0).trans rfl, (blk_cell BK189.out 1).trans rfl, (blk_cell BK189.out 2).trans rfl⟩ (fun hHeld => ?_)
                clear hK K
                refine norm_ (a' := ?_) ?_ ?_
                rotate_left
                · show Act.put _ (some 57) _ = _
                  simp only [Act.put, List.setIfInBounds_toArray, List.set_cons_zero, List.set_cons_succ, i64_w, i32_w]
                  rfl
                refine one_ (i := 5) (N := some 60) #[true, true, true, true, true, true, false, false] rfl rfl (one_of HT_.out (by kernel_rfl)) (by decide) (fun K hK => ?_)
                refine Kd.R_append_rows_step (Kd.int .i64) (w0 := w) w.heap.size (by rfl) (.tmp 57) (.tmp 59) 24 3 (.int .i64 0) 8 rfl Try.underlying24 info3 rfl (by decide) (by omega) (.slice AoX t178.length coX) t178 t185 _ _ _ (fun k_ => some k_ ≠ (.slice Ao24 t185.length co24 : Value).ownBlock) (fun _ => False) rfl rfl ?aO ?aR (fun _ _ h => h) (fun _ h => h.elim) ?aF ?aB ?aS ?aL ?_
                (case aR => repeat (first | exact (Kd.R_reads' HO_190002.out).2.2 | (with_reducible refine Kd.C_alloc ?_ _) | (with_reducible refine Kd.C_drewN ?_ _) | (with_reducible refine Kd.C_drew ?_)))
                (case aB => exact (by repeat (first | (with_reducible first | exact HB.out | apply below_alloc | apply pw_below_drewN | apply below_drew1 | refine below_set ?_ (IsS56.ge HI175.out) | refine below_set ?_ GE182.out | refine below_set ?_ GE189.out) | exact HB.out)))
                (case aF => exact (fun k_ hk => Kd.fresh' (Kd.R_lt (by (with_reducible repeat (first | apply Kd.R_alloc | apply Kd.R_drewN | apply Kd.R_drew)); exact HO_190002.out)) k_ hk))
                (case aO => exact (by (with_reducible repeat (first | apply Kd.R_alloc | apply Kd.R_drewN | apply Kd.R_drew)); exact HO_183002.out))
                (case aS => exact (below_size (by repeat (first | (with_reducible first | exact HB.out | apply below_alloc | apply pw_below_drewN | apply below_drew1 | refine below_set ?_ (IsS56.ge HI175.out) | refine below_set ?_ GE182.out | refine below_set ?_ GE189.out) | exact HB.out))))
                (case aL => have := LMc27.out; omega)
                intro v191 w37 ho hb hg hat
                rw [← Ny190.out] at ho
                have n0_ := Aside0.mk (Kd.R_after (ok := (fun _ => True)) (by (with_reducible repeat (first | apply Kd.R_alloc | apply Kd.R_drewN | apply Kd.R_drew)); exact Kd.R_mono HO_190002.out (fun _ hk => ⟨trivial, hk⟩)) hg hat)
                have n1_ := Aside0.mk (blk_grown (g := gb182) (o := .cells #[.int .i64 (wrap64 (t176 + (wrap64 (1 + (wrap64 (Int.tmod a2 8)))))), .int .i64 t177, .slice Ao18 t178.length co18] 26 (0, 0)) (by (with_reducible repeat (first | refine blk_drewN ?_ _ | refine blk_drew ?_ | refine blk_alloc ?_ _)); exact BK182.out) hg (Kd.R_ne HO_183002.out BK182.out (by decide)))
                have n2_ := Aside0.mk (blk_grown (g := gb189) (o := .cells #[.int .i64 t183, .int .i64 t184, .slice Ao24 t185.length co24] 26 (0, 0)) (by (with_reducible repeat (first | refine blk_drewN ?_ _ | refine blk_drew ?_ | refine blk_alloc ?_ _)); exact BK189.out) hg (Kd.R_ne HO_183002.out BK189.out (by decide)))
                have n3_ := Aside0.mk (IsS56.grown (by repeat (first | (with_reducible first | exact HI175.out | apply IsS56.alloc | apply IsS56.drewN | apply IsS56.drew | apply IsS56.set_1 | refine IsS56.far ?_ NB175_182.out _ | refine IsS56.far ?_ NB175_189.out _) | exact HI175.out)) hg (IsS56.own_ne HI175.out HO_183002.out (by decide)))
                have n4_ := Aside0.mk (hb)
                have n5_ := Aside0.mk (ho)
                clear HO_190002
                clear BK182
                clear BK189
                clear HI175
                clear HB
                clear HO_183002
                have HO_190002 := n0_
                have BK182 := n1_
                have BK189 := n2_
                have HI175 := n3_
                have HB := n4_
                have HO192 := n5_
                clear n0_ n1_ n2_ n3_ n4_ n5_
                clear ho hb hg hat
                obtain ⟨Ao38, co38, eo38⟩ := Kd.R_slice HO192.out
                (first | subst eo38 | (injection eo38 with f1_ f2_ f3_; have f4_ := f1_.symm; have f5_ := f3_.symm; clear f1_ f2_ f3_; subst f4_; subst f5_))
                refine hK.out _ _ ⟨(blk_cell BK182.out 0).trans rfl, (blk_cell BK182.out 1).trans rfl, (blk_cell BK182.out 2).trans rfl, (blk_cell BK189.out 0).trans rfl, (blk_cell BK189.out 1).trans rfl, (blk_cell BK189.out 2).trans rfl⟩ (fun hHeld => ?_)
                clear hK K
                refine norm_ (a' := ?_) ?_ ?_
                rotate_left
                · show Act.put _ (some 60) _ = _
                  simp only [Act.put, List.setIfInBounds_toArray, List.set_cons_zero, List.set_cons_succ, i64_w, i32_w]
                  rfl
                refine pure_ (i := 6) (N := some 61) (v := ?_) (a' := ?_) #[true, true, true, true, true, true, true, false] rfl rfl (any_of HT_.out (by kernel_rfl)) (fun _ _ _ h => h) (Or.inl ⟨by rfl, ?_⟩) ?_ ?_
                rotate_left
                · intro w'
                  go_simp
                  with_reducible rfl
                rotate_left
                · simp only [Act.put, List.setIfInBounds_toArray, List.set_cons_zero, List.set_cons_succ, i64_w, i32_w]
                  rfl
                refine last_ (i := 7) (N := none) #[true, true, true, true, true, true, true, true] rfl rfl (one_of HT_.out (by kernel_rfl)) (by decide) (fun K hK => ?_)
                have hs39 : w37.cell? ⟨gb182, 2, none⟩ = some (.slice Ao18 t178.length co18) := (blk_cell BK182.out 2).trans rfl
                have hfs39 := blk_frozen BK182.out 2
                have hns39_1 := NB189_182.out
                have hms39_1 := NB182_189.out
                refine skip_ (w1 := ?_) (by rfl) rfl ?_ ?_
                rotate_left
                · go_simp
                  rfl
                refine hK.out _ _ ?_
                clear hK K
                refine done_ (done_of HT_.out (by kernel_rfl)) ?_
                try go_wp2
                have n0_ : Aside0 (Kd.R (Kd.int .i64) 3 (w37.setCell ⟨gb182, 2, none⟩ (.slice Ao38 y190.length co38)) w.heap.size (fun k_ => some k_ ≠ (.slice Ao38 y190.length co38 : Value).ownBlock) (.slice Ao24 t185.length co24) t185) := ⟨by (with_reducible repeat (first | apply Kd.R_alloc | apply Kd.R_drewN | apply Kd.R_drew)); exact Kd.R_mono (Kd.R_far (p := ⟨gb182, 2, none⟩) (Kd.R_types HO_190002.out BK182.out (by decide)) (fun _ hk => hk.2) (.slice Ao38 y190.length co38)) (fun _ hk => hk.1.2)⟩
                have n1_ : Aside0 (Kd.R (Kd.int .i64) 3 (w37.setCell ⟨gb182, 2, none⟩ (.slice Ao38 y190.length co38)) w.heap.size (fun k_ => some k_ ≠ (.slice Ao24 t185.length co24 : Value).ownBlock) (.slice Ao38 y190.length co38) y190) := ⟨by (with_reducible repeat (first | apply Kd.R_alloc | apply Kd.R_drewN | apply Kd.R_drew)); exact Kd.R_mono (Kd.R_far (p := ⟨gb182, 2, none⟩) (Kd.R_types HO192.out BK182.out (by decide)) (fun _ hk => hk.2) (.slice Ao38 y190.length co38)) (fun _ hk => hk.1)⟩
                have n2_ : Aside0 ((w37.setCell ⟨gb182, 2, none⟩ (.slice Ao38 y190.length co38)).heap[gb182]? = some (.cells #[.int .i64 (wrap64 (t176 + (wrap64 (1 + (wrap64 (Int.tmod a2 8)))))), .int .i64 t177, .slice Ao38 y190.length co38] 26 (0, 0))) := ⟨by (with_reducible repeat (first | refine blk_drewN ?_ _ | refine blk_drew ?_ | refine blk_alloc ?_ _)); refine blk_put (cs := #[.int .i64 (wrap64 (t176 + (wrap64 (1 + (wrap64 (Int.tmod a2 8)))))), .int .i64 t177, .slice Ao18 t178.length co18]) ?_ 2 _ rfl; (with_reducible repeat (first | refine blk_drewN ?_ _ | refine blk_drew ?_ | refine blk_alloc ?_ _)); exact BK182.out⟩
                have n3_ : Aside0 ((w37.setCell ⟨gb182, 2, none⟩ (.slice Ao38 y190.length co38)).heap[gb189]? = some (.cells #[.int .i64 t183, .int .i64 t184, .slice Ao24 t185.length co24] 26 (0, 0))) := ⟨by (with_reducible repeat (first | refine blk_drewN ?_ _ | refine blk_drew ?_ | refine blk_alloc ?_ _)); refine blk_far ?_ NB189_182.out _; (with_reducible repeat (first | refine blk_drewN ?_ _ | refine blk_drew ?_ | refine blk_alloc ?_ _)); exact BK189.out⟩
                have n4_ : Aside0 (IsS56 w (w37.setCell ⟨gb182, 2, none⟩ (.slice Ao38 y190.length co38)) g175 t173 t174) := ⟨by repeat (first | (with_reducible first | exact HI175.out | apply IsS56.alloc | apply IsS56.drewN | apply IsS56.drew | apply IsS56.set_1 | refine IsS56.far ?_ NB175_182.out _ | refine IsS56.far ?_ NB175_189.out _) | exact HI175.out)⟩
                have n5_ : Aside0 (Below w.heap.size w (w37.setCell ⟨gb182, 2, none⟩ (.slice Ao38 y190.length co38))) := ⟨by repeat (first | (with_reducible first | exact HB.out | apply below_alloc | apply pw_below_drewN | apply below_drew1 | refine below_set ?_ (IsS56.ge HI175.out) | refine below_set ?_ GE182.out | refine below_set ?_ GE189.out) | exact HB.out)⟩
                (try clear HO_190002)
                (try clear HO192)
                (try clear BK182)
                (try clear BK189)
                (try clear HI175)
                (try clear HB)
                generalize (w37.setCell ⟨gb182, 2, none⟩ (.slice Ao38 y190.length co38)) = w40 at n0_ n1_ n2_ n3_ n4_ n5_ ⊢
                have HO_190002 := n0_
                have HO192 := n1_
                have BK182 := n2_
                have BK189 := n3_
                have HI175 := n4_
                have HB := n5_
                clear n0_ n1_ n2_ n3_ n4_ n5_
                have n0_ := Aside0.mk (Kd.R_drew HO_190002.out)
                have n1_ := Aside0.mk (Kd.R_drew HO192.out)
                have n2_ := Aside0.mk (blk_drew BK182.out)
                have n3_ := Aside0.mk (blk_drew BK189.out)
                have n4_ := Aside0.mk (IsS56.drew HI175.out)
                have n5_ := Aside0.mk (below_drew1 HB.out)
                clear HO_190002
                clear HO192
                clear BK182
                clear BK189
                clear HI175
                clear HB
                have HO_190002 := n0_
                have HO192 := n1_
                have BK182 := n2_
                have BK189 := n3_
                have HI175 := n4_
                have HB := n5_
                clear n0_ n1_ n2_ n3_ n4_ n5_
                refine start_ (n := 14) (S := fun w' => w'.cell? ⟨gb182, 0, none⟩ = some (.int .i64 (wrap64 (t176 + (wrap64 (1 + (wrap64 (Int.tmod a2 8))))))) ∧ w'.cell? ⟨gb182, 1, none⟩ = some (.int .i64 t177) ∧ w'.cell? ⟨gb182, 2, none⟩ = some (.slice Ao38 y190.length co38)) (ds := []) #[false, false, false, false, false, false, false, false, false, false, false, false, false, false] (by kernel_rfl) rfl rfl ⟨(blk_cell BK182.out 0).trans rfl, (blk_cell BK182.out 1).trans rfl, (blk_cell BK182.out 2).trans rfl⟩ (fun hHeld => ?_); refine with_tabW storagebarterlaw06_MatrixRows.tab13 storagebarterlaw06_MatrixRows.bits13 (fun HT_ HW_ => ?_)
                generalize w40.drew = w41 at HO_190002 HO192 BK182 BK189 HI175 HB hHeld ⊢
                refine pure_ (i := 1) (N := some 64) (v := ?_) (a' := ?_) #[false, true, false, false, false, false, false, false, false, false, false, false, false, false] rfl rfl (any_of HT_.out (by kernel_rfl)) (fun _ _ _ h => h) (Or.inl ⟨by rfl, ?_⟩) ?_ ?_
                rotate_left
                · intro w'
                  go_simp
                  with_reducible rfl
                rotate_left
                · simp only [Act.put, List.setIfInBounds_toArray, List.set_cons_zero, List.set_cons_succ, i64_w, i32_w]
                  rfl
                refine pure_ (i := 2) (N := some 65) (v := ?_) (a' := ?_) #[false, true, true, false, false, false, false, false, false, false, false, false, false, false] rfl rfl (any_of HT_.out (by kernel_rfl)) (fun _ _ _ h => h) (Or.inl ⟨by rfl, ?_⟩) ?_ ?_
                rotate_left
                · intro w'
                  go_simp
                  with_reducible rfl
                rotate_left
                · simp only [Act.put, List.setIfInBounds_toArray, List.set_cons_zero, List.set_cons_succ, i64_w, i32_w]
                  rfl
                refine pure_ (i := 3) (N := some 66) (v := ?_) (a' := ?_) #[false, true, true, true, false, false, false, false, false, false, false, false, false, false] rfl rfl (any_of HT_.out (by kernel_rfl)) (fun _ _ _ h => h) (Or.inl ⟨by rfl, ?_⟩) ?_ ?_
                rotate_left
                · intro w'
                  go_simp
                  with_reducible rfl
                rotate_left
                · simp only [Act.put, List.setIfInBounds_toArray, List.set_cons_zero, List.set_cons_succ, i64_w, i32_w]
                  rfl
                refine pure_ (i := 4) (N := some 67) (v := ?_) (a' := ?_) #[false, true, true, true, true, false, false, false, false, false, false, false, false, false] rfl rfl (any_of HT_.out (by kernel_rfl)) (fun _ _ _ h => h) (Or.inl ⟨by rfl, ?_⟩) ?_ ?_
                rotate_left
                · intro w'
                  go_simp
                  with_reducible rfl
                rotate_left
                · simp only [Act.put, List.setIfInBounds_toArray, List.set_cons_zero, List.set_cons_succ, i64_w, i32_w]
                  rfl
                refine pure_ (i := 5) (N := some 68) (v := ?_) (a' := ?_) #[false, true, true, true, true, true, false, false, false, false, false, false, false, false] rfl rfl (any_of HT_.out (by kernel_rfl)) (fun _ _ _ h => h) (Or.inl ⟨by rfl, ?_⟩) ?_ ?_
                rotate_left
                · intro w'
                  go_simp
                  with_reducible rfl
                rotate_left
                · simp only [Act.put, List.setIfInBounds_toArray, List.set_cons_zero, List.set_cons_succ, i64_w, i32_w]
                  rfl
                refine take_ (i := 0) (N := some 63) (v := ?_) (a' := ?_) #[true, true, true, true, true, true, false, false, false, false, false, false, false, false] rfl rfl (take_ofW HT_.out HW_.out (by kernel_rfl)) (fun _ _ _ h => h) (Or.inl ⟨by rfl, ?_⟩) hHeld ?_ ?_
                rotate_left
                · rintro w' ⟨s0, s1, s2⟩
                  go_simp
                  with_reducible rfl
                rotate_left
                · simp only [Act.put, List.setIfInBounds_toArray, List.set_cons_zero, List.set_cons_succ, i64_w, i32_w]
                  rfl
                refine join_ (σ := Value × Value × Nat) 2 #[true, true, true, true, true, true, true, true, true, true, true, true, false, false] (fun s_ => [(69, s_.1), (70, .tuple #[.agg #[.int .i64 t197, .int .i64 t198, s_.2.1], .int .i64 t202]), (14, .pointer (some ⟨s_.2.2, 0, none⟩)), (62, .tuple #[.agg #[.int .i64 t197, .int .i64 t198, s_.2.1], .int .i64 t202]), (71, .agg #[.int .i64 t197, .int .i64 t198, s_.2.1]), (72, .int .i64 t202)]) (fun s_ w' => (w'.cell? ⟨gb182, 0, none⟩ = some (.int .i64 (wrap64 (t176 + (wrap64 (1 + (wrap64 (Int.tmod a2 8))))))) ∧ w'.cell? ⟨gb182, 1, none⟩ = some (.int .i64 t177) ∧ w'.cell? ⟨gb182, 2, none⟩ = some (.slice Ao38 y190.length co38)) ∧ (Kd.R (Kd.int .i64) 3 w' w.heap.size (fun k_ => some k_ ≠ (s_.1 : Value).ownBlock ∧ some k_ ≠ (s_.2.1 : Value).ownBlock ∧ some k_ ≠ (.slice Ao24 t185.length co24 : Value).ownBlock) (.slice Ao38 y190.length co38) y190) ∧ (Kd.R (Kd.int .i64) 3 w' w.heap.size (fun k_ => some k_ ≠ (.slice Ao38 y190.length co38 : Value).ownBlock ∧ some k_ ≠ (s_.2.1 : Value).ownBlock ∧ some k_ ≠ (.slice Ao24 t185.length co24 : Value).ownBlock) s_.1 t193) ∧ (Kd.R (Kd.int .i64) 3 w' w.heap.size (fun k_ => some k_ ≠ (.slice Ao38 y190.length co38 : Value).ownBlock ∧ some k_ ≠ (s_.1 : Value).ownBlock ∧ some k_ ≠ (.slice Ao24 t185.length co24 : Value).ownBlock) s_.2.1 t199) ∧ (Kd.R (Kd.int .i64) 3 w' w.heap.size (fun k_ => some k_ ≠ (.slice Ao38 y190.length co38 : Value).ownBlock ∧ some k_ ≠ (s_.1 : Value).ownBlock ∧ some k_ ≠ (s_.2.1 : Value).ownBlock) (.slice Ao24 t185.length co24) t185) ∧ (w'.heap[gb182]? = some (.cells #[.int .i64 (wrap64 (t176 + (wrap64 (1 + (wrap64 (Int.tmod a2 8)))))), .int .i64 t177, .slice Ao38 y190.length co38] 26 (0, 0))) ∧ (w'.heap[gb189]? = some (.cells #[.int .i64 t183, .int .i64 t184, .slice Ao24 t185.length co24] 26 (0, 0))) ∧ (w'.heap[s_.2.2]? = some (.cells #[.int .i64 0, .int .i64 0, .slice none 0 0] 26 (0, 0))) ∧ (w.heap.size ≤ s_.2.2) ∧ (w.heap.size ≤ s_.2.2) ∧ (g175 ≠ s_.2.2) ∧ (s_.2.2 ≠ g175) ∧ (gb182 ≠ s_.2.2) ∧ (s_.2.2 ≠ gb182) ∧ (gb189 ≠ s_.2.2) ∧ (s_.2.2 ≠ gb189) ∧ (IsS56 w w' g175 t173 t196) ∧ (Below w.heap.size w w')) ?_ ?_
                rotate_left
                · intro hCont
                  refine two_ (i := 6) (j := 11) (Ni := some 69) (Nj := some 14) #[true, true, true, true, true, true, true, false, false, false, false, false, false, false] #[true, true, true, true, true, true, false, false, false, false, false, true, false, false] rfl rfl rfl rfl (two_of HT_.out (by kernel_rfl)) (by decide) (by decide) (fun K hK => ?_) (fun K hK => ?_)
                  · skip
                    refine goes_ Try.func23 (by kernel_rfl) rfl #[.pointer (some ⟨g175, 0, none⟩), .int .i64 (wrap64 ((wrap64 (1 + (wrap64 (Int.tmod a1 8)))) + (wrap64 (1 + (wrap64 (Int.tmod a2 8)))))), .int .i64 (wrap64 (1 + (wrap64 (Int.tmod a1 8))))] (by rfl) rfl rfl (by (try simp only [List.map_toArray, List.map_cons, List.map_nil]); first | done | rfl | (simp only [List.length_drop, List.length_take]; rfl)) ?_
                    with_reducible refine (storagebarterlaw06_pick.calls g175 t173 t174 (wrap64 ((wrap64 (1 + (wrap64 (Int.tmod a1 8)))) + (wrap64 (1 + (wrap64 (Int.tmod a2 8)))))) (wrap64 (1 + (wrap64 (Int.tmod a1 8)))) t193 t196 w _ ?side1 ?side2 A28.out).mono ?_
                    (case side1 => repeat (first | (with_reducible first | exact HI175.out | apply IsS56.alloc | apply IsS56.drewN | apply IsS56.drew | apply IsS56.set_1 | refine IsS56.far ?_ NB175_182.out _ | refine IsS56.far ?_ NB175_189.out _) | exact HI175.out))
                    (case side2 => repeat (first | (with_reducible first | exact HB.out | apply below_alloc | apply pw_below_drewN | apply below_drew1 | refine below_set ?_ (IsS56.ge HI175.out) | refine below_set ?_ GE182.out | refine below_set ?_ GE189.out) | exact HB.out))
                    rintro e w42 ⟨v194, rfl, ho0, hi, hb, hk⟩
                    refine ⟨_, rfl, ?_⟩
                    have n0_ := Aside0.mk (Kd.R_mono (Kd.R_told (Kd.R_oldK (IsS56.apart (show IsS56 w _ g175 t173 t174 from by repeat (first | (with_reducible first | exact HI175.out | apply IsS56.alloc | apply IsS56.drewN | apply IsS56.drew | apply IsS56.set_1 | refine IsS56.far ?_ NB175_182.out _ | refine IsS56.far ?_ NB175_189.out _) | exact HI175.out)) (by (with_reducible repeat (first | apply Kd.R_alloc | apply Kd.R_drewN | apply Kd.R_drew)); exact HO_190002.out) (by decide)) hk) (Kd.R_base ho0)) (fun _ h_ => h_.1))
                    have n1_ := Aside0.mk (KeepBut.blk hk (g' := gb182) (o := .cells #[.int .i64 (wrap64 (t176 + (wrap64 (1 + (wrap64 (Int.tmod a2 8)))))), .int .i64 t177, .slice Ao38 y190.length co38] 26 (0, 0)) (by (with_reducible repeat (first | refine blk_drewN ?_ _ | refine blk_drew ?_ | refine blk_alloc ?_ _)); exact BK182.out) NB182_175.out (by simp))
                    have n2_ := Aside0.mk (KeepBut.blk hk (g' := gb189) (o := .cells #[.int .i64 t183, .int .i64 t184, .slice Ao24 t185.length co24] 26 (0, 0)) (by (with_reducible repeat (first | refine blk_drewN ?_ _ | refine blk_drew ?_ | refine blk_alloc ?_ _)); exact BK189.out) NB189_175.out (by simp))
                    have n3_ := Aside0.mk (Kd.R_mono (Kd.R_told (Kd.R_oldK (IsS56.apart (show IsS56 w _ g175 t173 t174 from by repeat (first | (with_reducible first | exact HI175.out | apply IsS56.alloc | apply IsS56.drewN | apply IsS56.drew | apply IsS56.set_1 | refine IsS56.far ?_ NB175_182.out _ | refine IsS56.far ?_ NB175_189.out _) | exact HI175.out)) (by (with_reducible repeat (first | apply Kd.R_alloc | apply Kd.R_drewN | apply Kd.R_drew)); exact HO192.out) (by decide)) hk) (Kd.R_base ho0)) (fun _ h_ => h_.1))
                    have n4_ := Aside0.mk (Kd.R_lower (Kd.R_new' (Kd.R_new' ho0 (Kd.R_lt (by (with_reducible repeat (first | apply Kd.R_alloc | apply Kd.R_drewN | apply Kd.R_drew)); exact HO_190002.out))) (Kd.R_lt (by (with_reducible repeat (first | apply Kd.R_alloc | apply Kd.R_drewN | apply Kd.R_drew)); exact HO192.out))) (below_size (by repeat (first | (with_reducible first | exact HB.out | apply below_alloc | apply pw_below_drewN | apply below_drew1 | refine below_set ?_ (IsS56.ge HI175.out) | refine below_set ?_ GE182.out | refine below_set ?_ GE189.out) | exact HB.out))))
                    have n5_ := Aside0.mk (hb)
                    have n6_ := Aside0.mk (hi)
                    clear HO_190002
                    clear BK182
                    clear BK189
                    clear HO192
                    clear HB
                    clear HI175
                    have HO_190002 := n0_
                    have BK182 := n1_
                    have BK189 := n2_
                    have HO192 := n3_
                    have HO195 := n4_
                    have HB := n5_
                    have HI175 := n6_
                    clear n0_ n1_ n2_ n3_ n4_ n5_ n6_
                    (try clear hb)
                    (try clear hb2)
                    (try clear hk)
                    (try clear hi)
                    (try clear ho0)
                    obtain ⟨Ao43, co43, eo43⟩ := Kd.R_slice HO195.out
                    (first | subst eo43 | (injection eo43 with f1_ f2_ f3_; have f4_ := f1_.symm; have f5_ := f3_.symm; clear f1_ f2_ f3_; subst f4_; subst f5_))
                    refine hK.out _ _ ⟨(blk_cell BK182.out 0).trans rfl, (blk_cell BK182.out 1).trans rfl, (blk_cell BK182.out 2).trans rfl⟩ (fun hHeld => ?_)
                    clear hK K
                    refine norm_ (a' := ?_) ?_ ?_
                    rotate_left
                    · show Act.put _ (some 69) _ = _
                      simp only [Act.put, List.setIfInBounds_toArray, List.set_cons_zero, List.set_cons_succ, i64_w, i32_w]
                      rfl
                    refine two_ (i := 7) (j := 11) (Ni := some 70) (Nj := some 14) #[true, true, true, true, true, true, true, true, false, false, false, false, false, false] #[true, true, true, true, true, true, true, false, false, false, false, true, false, false] rfl rfl rfl rfl (two_of HT_.out (by kernel_rfl)) (by decide) (by decide) (fun K hK => ?_) (fun K hK => ?_)
                    · skip
                      refine goes_ Try.func24 (by kernel_rfl) rfl #[.agg #[.int .i64 (wrap64 (t176 + (wrap64 (1 + (wrap64 (Int.tmod a2 8)))))), .int .i64 t177, .slice Ao38 y190.length co38], .slice Ao43 t193.length co43] (by rfl) rfl rfl (by (try simp only [List.map_toArray, List.map_cons, List.map_nil]); first | done | rfl | (simp only [List.length_drop, List.length_take]; rfl)) ?_
                      with_reducible refine (matrix_Pick.calls kj10 (wrap64 (t176 + (wrap64 (1 + (wrap64 (Int.tmod a2 8)))))) t177 _ _ y190 _ _ t193 t197 t198 t199 t202 _ ?side1 ?side2 ?side3 ?side4 A29.out).mono ?_
                      (case side1 => repeat (first | exact (Kd.R_reads' HO192.out).2.2 | (with_reducible refine Kd.C_alloc ?_ _) | (with_reducible refine Kd.C_drewN ?_ _) | (with_reducible refine Kd.C_drew ?_)))
                      (case side2 => exact (Kd.R_reads' HO192.out).2.1)
                      (case side3 => repeat (first | exact (Kd.R_reads' HO195.out).2.2 | (with_reducible refine Kd.C_alloc ?_ _) | (with_reducible refine Kd.C_drewN ?_ _) | (with_reducible refine Kd.C_drew ?_)))
                      (case side4 => exact (Kd.R_reads' HO195.out).2.1)
                      rintro e w44 ⟨v200, rfl, ho0, hb⟩
                      refine ⟨_, rfl, ?_⟩
                      have n0_ := Aside0.mk (Kd.R_elder' (by (with_reducible repeat (first | apply Kd.R_alloc | apply Kd.R_drewN | apply Kd.R_drew)); exact HO_190002.out) (Kd.R_base ho0) hb)
                      have n1_ := Aside0.mk (Kd.R_elder' (by (with_reducible repeat (first | apply Kd.R_alloc | apply Kd.R_drewN | apply Kd.R_drew)); exact HO192.out) (Kd.R_base ho0) hb)
                      have n2_ := Aside0.mk (Kd.R_elder' (by (with_reducible repeat (first | apply Kd.R_alloc | apply Kd.R_drewN | apply Kd.R_drew)); exact HO195.out) (Kd.R_base ho0) hb)
                      have n3_ := Aside0.mk (Kd.R_lower (Kd.R_new' (Kd.R_new' (Kd.R_new' ho0 (Kd.R_lt (by (with_reducible repeat (first | apply Kd.R_alloc | apply Kd.R_drewN | apply Kd.R_drew)); exact HO_190002.out))) (Kd.R_lt (by (with_reducible repeat (first | apply Kd.R_alloc | apply Kd.R_drewN | apply Kd.R_drew)); exact HO192.out))) (Kd.R_lt (by (with_reducible repeat (first | apply Kd.R_alloc | apply Kd.R_drewN | apply Kd.R_drew)); exact HO195.out))) (below_size (by repeat (first | (with_reducible first | exact HB.out | apply below_alloc | apply pw_below_drewN | apply below_drew1 | refine below_set ?_ (IsS56.ge HI175.out) | refine below_set ?_ GE182.out | refine below_set ?_ GE189.out) | exact HB.out))))
                      have n4_ := Aside0.mk (blk_below (g := gb182) (o := .cells #[.int .i64 (wrap64 (t176 + (wrap64 (1 + (wrap64 (Int.tmod a2 8)))))), .int .i64 t177, .slice Ao38 y190.length co38] 26 (0, 0)) (by (with_reducible repeat (first | refine blk_drewN ?_ _ | refine blk_drew ?_ | refine blk_alloc ?_ _)); exact BK182.out) hb)
                      have n5_ := Aside0.mk (blk_below (g := gb189) (o := .cells #[.int .i64 t183, .int .i64 t184, .slice Ao24 t185.length co24] 26 (0, 0)) (by (with_reducible repeat (first | refine blk_drewN ?_ _ | refine blk_drew ?_ | refine blk_alloc ?_ _)); exact BK189.out) hb)
                      have n6_ := Aside0.mk (IsS56.below (by repeat (first | (with_reducible first | exact HI175.out | apply IsS56.alloc | apply IsS56.drewN | apply IsS56.drew | apply IsS56.set_1 | refine IsS56.far ?_ NB175_182.out _ | refine IsS56.far ?_ NB175_189.out _) | exact HI175.out)) hb)
                      have n7_ := Aside0.mk (below_step (by repeat (first | (with_reducible first | exact HB.out | apply below_alloc | apply pw_below_drewN | apply below_drew1 | refine below_set ?_ (IsS56.ge HI175.out) | refine below_set ?_ GE182.out | refine below_set ?_ GE189.out) | exact HB.out)) hb)
                      clear HO_190002
                      clear HO192
                      clear HO195
                      clear BK182
                      clear BK189
                      clear HI175
                      clear HB
                      have HO_190002 := n0_
                      have HO192 := n1_
                      have HO195 := n2_
                      have HO201 := n3_
                      have BK182 := n4_
                      have BK189 := n5_
                      have HI175 := n6_
                      have HB := n7_
                      clear n0_ n1_ n2_ n3_ n4_ n5_ n6_ n7_
                      (try clear hb)
                      (try clear hb2)
                      (try clear hk)
                      (try clear hi)
                      (try clear ho0)
                      refine hK.out _ _ ⟨(blk_cell BK182.out 0).trans rfl, (blk_cell BK182.out 1).trans rfl, (blk_cell BK182.out 2).trans rfl⟩ (fun hHeld => ?_)
                      clear hK K
                      refine norm_ (a' := ?_) ?_ ?_
                      rotate_left
                      · show Act.put _ (some 70) _ = _
                        simp only [Act.put, List.setIfInBounds_toArray, List.set_cons_zero, List.set_cons_succ, i64_w, i32_w]
                        rfl
                      refine pure_ (i := 8) (N := some 62) (v := ?_) (a' := ?_) #[true, true, true, true, true, true, true, true, true, false, false, false, false, false] rfl rfl (any_of HT_.out (by kernel_rfl)) (fun _ _ _ h => h) (Or.inl ⟨by rfl, ?_⟩) ?_ ?_
                      rotate_left
                      · intro w'
                        go_simp
                        with_reducible rfl
                      rotate_left
                      · simp only [Act.put, List.setIfInBounds_toArray, List.set_cons_zero, List.set_cons_succ, i64_w, i32_w]
                        rfl
                      refine pure_ (i := 9) (N := some 71) (v := ?_) (a' := ?_) #[true, true, true, true, true, true, true, true, true, true, false, false, false, false] rfl rfl (any_of HT_.out (by kernel_rfl)) (fun _ _ _ h => h) (Or.inl ⟨by rfl, ?_⟩) ?_ ?_
                      rotate_left
                      · intro w'
                        go_simp
                        with_reducible rfl
                      rotate_left
                      · simp only [Act.put, List.setIfInBounds_toArray, List.set_cons_zero, List.set_cons_succ, i64_w, i32_w]
                        rfl
                      refine pure_ (i := 10) (N := some 72) (v := ?_) (a' := ?_) #[true, true, true, true, true, true, true, true, true, true, true, false, false, false] rfl rfl (any_of HT_.out (by kernel_rfl)) (fun _ _ _ h => h) (Or.inl ⟨by rfl, ?_⟩) ?_ ?_
                      rotate_left
                      · intro w'
                        go_simp
                        with_reducible rfl
                      rotate_left
                      · simp only [Act.put, List.setIfInBounds_toArray, List.set_cons_zero, List.set_cons_succ, i64_w, i32_w]
                        rfl
                      refine one_ (i := 11) (N := some 14) #[true, true, true, true, true, true, true, true, true, true, true, true, false, false] rfl rfl (one_of HT_.out (by kernel_rfl)) (by decide) (fun K hK => ?_)
                      refine box_step ?hg (N := 14) ?hd (cs := #[.int .i64 0, .int .i64 0, .slice none 0 0]) (t := 26) ?hr ?_; (case hd => rfl); (case hg => rfl); (case hr => first | (go_simp; done) | (go_simp; rfl))
                      intro gb203 hg w45 hbox hb
                      have n0_ := Aside0.mk (Kd.R_below (by (with_reducible repeat (first | apply Kd.R_alloc | apply Kd.R_drewN | apply Kd.R_drew)); exact HO_190002.out) hb)
                      have n1_ := Aside0.mk (Kd.R_below (by (with_reducible repeat (first | apply Kd.R_alloc | apply Kd.R_drewN | apply Kd.R_drew)); exact HO192.out) hb)
                      have n2_ := Aside0.mk (Kd.R_below (by (with_reducible repeat (first | apply Kd.R_alloc | apply Kd.R_drewN | apply Kd.R_drew)); exact HO195.out) hb)
                      have n3_ := Aside0.mk (Kd.R_below (by (with_reducible repeat (first | apply Kd.R_alloc | apply Kd.R_drewN | apply Kd.R_drew)); exact HO201.out) hb)
                      have n4_ := Aside0.mk (blk_below (g := gb182) (o := .cells #[.int .i64 (wrap64 (t176 + (wrap64 (1 + (wrap64 (Int.tmod a2 8)))))), .int .i64 t177, .slice Ao38 y190.length co38] 26 (0, 0)) (by (with_reducible repeat (first | refine blk_drewN ?_ _ | refine blk_drew ?_ | refine blk_alloc ?_ _)); exact BK182.out) hb)
                      have n5_ := Aside0.mk (blk_below (g := gb189) (o := .cells #[.int .i64 t183, .int .i64 t184, .slice Ao24 t185.length co24] 26 (0, 0)) (by (with_reducible repeat (first | refine blk_drewN ?_ _ | refine blk_drew ?_ | refine blk_alloc ?_ _)); exact BK189.out) hb)
                      have n6_ := Aside0.mk (IsS56.below (by repeat (first | (with_reducible first | exact HI175.out | apply IsS56.alloc | apply IsS56.drewN | apply IsS56.drew | apply IsS56.set_1 | refine IsS56.far ?_ NB175_182.out _ | refine IsS56.far ?_ NB175_189.out _) | exact HI175.out)) hb)
                      have n7_ := Aside0.mk (below_step (by repeat (first | (with_reducible first | exact HB.out | apply below_alloc | apply pw_below_drewN | apply below_drew1 | refine below_set ?_ (IsS56.ge HI175.out) | refine below_set ?_ GE182.out | refine below_set ?_ GE189.out) | exact HB.out)) hb)
                      have n8_ := Aside0.mk (hbox)
                      have n9_ := Aside0.mk ((by rw [hg]; exact (below_size (by repeat (first | (with_reducible first | exact HB.out | apply below_alloc | apply pw_below_drewN | apply below_drew1 | refine below_set ?_ (IsS56.ge HI175.out) | refine below_set ?_ GE182.out | refine below_set ?_ GE189.out) | exact HB.out))) : w.heap.size ≤ gb203))
                      have n10_ := Aside0.mk ((by rw [hg]; exact (below_size (by repeat (first | (with_reducible first | exact HB.out | apply below_alloc | apply pw_below_drewN | apply below_drew1 | refine below_set ?_ (IsS56.ge HI175.out) | refine below_set ?_ GE182.out | refine below_set ?_ GE189.out) | exact HB.out))) : w.heap.size ≤ gb203))
                      have n11_ := Aside0.mk ((by rw [hg]; exact Nat.ne_of_lt (blk_lt (g := gb182) (o := .cells #[.int .i64 (wrap64 (t176 + (wrap64 (1 + (wrap64 (Int.tmod a2 8)))))), .int .i64 t177, .slice Ao38 y190.length co38] 26 (0, 0)) (by (with_reducible repeat (first | refine blk_drewN ?_ _ | refine blk_drew ?_ | refine blk_alloc ?_ _)); exact BK182.out)) : gb182 ≠ gb203))
                      have n12_ := Aside0.mk ((by rw [hg]; exact Nat.ne_of_gt (blk_lt (g := gb182) (o := .cells #[.int .i64 (wrap64 (t176 + (wrap64 (1 + (wrap64 (Int.tmod a2 8)))))), .int .i64 t177, .slice Ao38 y190.length co38] 26 (0, 0)) (by (with_reducible repeat (first | refine blk_drewN ?_ _ | refine blk_drew ?_ | refine blk_alloc ?_ _)); exact BK182.out)) : gb203 ≠ gb182))
                      have n13_ := Aside0.mk ((by rw [hg]; exact Nat.ne_of_lt (blk_lt (g := gb189) (o := .cells #[.int .i64 t183, .int .i64 t184, .slice Ao24 t185.length co24] 26 (0, 0)) (by (with_reducible repeat (first | refine blk_drewN ?_ _ | refine blk_drew ?_ | refine blk_alloc ?_ _)); exact BK189.out)) : gb189 ≠ gb203))
                      have n14_ := Aside0.mk ((by rw [hg]; exact Nat.ne_of_gt (blk_lt (g := gb189) (o := .cells #[.int .i64 t183, .int .i64 t184, .slice Ao24 t185.length co24] 26 (0, 0)) (by (with_reducible repeat (first | refine blk_drewN ?_ _ | refine blk_drew ?_ | refine blk_alloc ?_ _)); exact BK189.out)) : gb203 ≠ gb189))
                      have n15_ := Aside0.mk ((by rw [hg]; exact Nat.ne_of_lt (IsS56.lt (show IsS56 w _ g175 t173 t196 from by repeat (first | (with_reducible first | exact HI175.out | apply IsS56.alloc | apply IsS56.drewN | apply IsS56.drew | apply IsS56.set_1 | refine IsS56.far ?_ NB175_182.out _ | refine IsS56.far ?_ NB175_189.out _) | exact HI175.out))) : g175 ≠ gb203))
                      have n16_ := Aside0.mk ((by rw [hg]; exact Nat.ne_of_gt (IsS56.lt (show IsS56 w _ g175 t173 t196 from by repeat (first | (with_reducible first | exact HI175.out | apply IsS56.alloc | apply IsS56.drewN | apply IsS56.drew | apply IsS56.set_1 | refine IsS56.far ?_ NB175_182.out _ | refine IsS56.far ?_ NB175_189.out _) | exact HI175.out))) : gb203 ≠ g175))
                      clear HO_190002
                      clear HO192
                      clear HO195
                      clear HO201
                      clear BK182
                      clear BK189
                      clear HI175
                      clear HB
                      have HO_190002 := n0_
                      have HO192 := n1_
                      have HO195 := n2_
                      have HO201 := n3_
                      have BK182 := n4_
                      have BK189 := n5_
                      have HI175 := n6_
                      have HB := n7_
                      have BK203 := n8_
                      have GW203 := n9_
                      have GE203 := n10_
                      have NB182_203 := n11_
                      have NB203_182 := n12_
                      have NB189_203 := n13_
                      have NB203_189 := n14_
                      have NB175_203 := n15_
                      have NB203_175 := n16_
                      clear n0_ n1_ n2_ n3_ n4_ n5_ n6_ n7_ n8_ n9_ n10_ n11_ n12_ n13_ n14_ n15_ n16_
                      clear hb hbox hg
                      refine hK.out _ _ ⟨(blk_cell BK182.out 0).trans rfl, (blk_cell BK182.out 1).trans rfl, (blk_cell BK182.out 2).trans rfl⟩ (fun hHeld => ?_)
                      clear hK K
                      refine norm_ (a' := ?_) ?_ ?_
                      rotate_left
                      · show Act.put _ (some 14) _ = _
                        simp only [Act.put, List.setIfInBounds_toArray, List.set_cons_zero, List.set_cons_succ, i64_w, i32_w]
                        rfl
                      exact norm_ (by simp only [putAll, Act.put, List.setIfInBounds_toArray, List.set_cons_zero, List.set_cons_succ]) (hCont (.slice Ao43 t193.length co43, v200, gb203) _ ⟨hHeld, (by (with_reducible repeat (first | apply Kd.R_alloc | apply Kd.R_drewN | apply Kd.R_drew)); exact Kd.R_mono HO192.out (fun _ hk => ⟨hk.1.2, ⟨hk.2, hk.1.1⟩⟩)), (by (with_reducible repeat (first | apply Kd.R_alloc | apply Kd.R_drewN | apply Kd.R_drew)); exact Kd.R_mono HO195.out (fun _ hk => ⟨hk.1.2, ⟨hk.2, hk.1.1.2⟩⟩)), (by (with_reducible repeat (first | apply Kd.R_alloc | apply Kd.R_drewN | apply Kd.R_drew)); exact Kd.R_mono HO201.out (fun _ hk => ⟨hk.1.2, ⟨hk.2, hk.1.1.2⟩⟩)), (by (with_reducible repeat (first | apply Kd.R_alloc | apply Kd.R_drewN | apply Kd.R_drew)); exact Kd.R_mono HO_190002.out (fun _ hk => ⟨hk.1.1, ⟨hk.1.2, hk.2⟩⟩)), (by (with_reducible repeat (first | refine blk_drewN ?_ _ | refine blk_drew ?_ | refine blk_alloc ?_ _)); exact BK182.out), (by (with_reducible repeat (first | refine blk_drewN ?_ _ | refine blk_drew ?_ | refine blk_alloc ?_ _)); exact BK189.out), (by (with_reducible repeat (first | refine blk_drewN ?_ _ | refine blk_drew ?_ | refine blk_alloc ?_ _)); exact BK203.out), GW203.out, GE203.out, NB175_203.out, NB203_175.out, NB182_203.out, NB203_182.out, NB189_203.out, NB203_189.out, (by repeat (first | (with_reducible first | exact HI175.out | apply IsS56.alloc | apply IsS56.drewN | apply IsS56.drew | apply IsS56.set_1 | refine IsS56.far ?_ NB175_182.out _ | refine IsS56.far ?_ NB175_189.out _ | refine IsS56.far ?_ NB175_203.out _) | exact HI175.out)), (by repeat (first | (with_reducible first | exact HB.out | apply below_alloc | apply pw_below_drewN | apply below_drew1 | refine below_set ?_ (IsS56.ge HI175.out) | refine below_set ?_ GE182.out | refine below_set ?_ GE189.out | refine below_set ?_ GE203.out) | exact HB.out))⟩)
                    · skip
                      refine box_step ?hg (N := 14) ?hd (cs := #[.int .i64 0, .int .i64 0, .slice none 0 0]) (t := 26) ?hr ?_; (case hd => rfl); (case hg => rfl); (case hr => first | (go_simp; done) | (go_simp; rfl))
                      intro gb203 hg w43 hbox hb
                      have n0_ := Aside0.mk (Kd.R_below (by (with_reducible repeat (first | apply Kd.R_alloc | apply Kd.R_drewN | apply Kd.R_drew)); exact HO_190002.out) hb)
                      have n1_ := Aside0.mk (Kd.R_below (by (with_reducible repeat (first | apply Kd.R_alloc | apply Kd.R_drewN | apply Kd.R_drew)); exact HO192.out) hb)
                      have n2_ := Aside0.mk (Kd.R_below (by (with_reducible repeat (first | apply Kd.R_alloc | apply Kd.R_drewN | apply Kd.R_drew)); exact HO195.out) hb)
                      have n3_ := Aside0.mk (blk_below (g := gb182) (o := .cells #[.int .i64 (wrap64 (t176 + (wrap64 (1 + (wrap64 (Int.tmod a2 8)))))), .int .i64 t177, .slice Ao38 y190.length co38] 26 (0, 0)) (by (with_reducible repeat (first | refine blk_drewN ?_ _ | refine blk_drew ?_ | refine blk_alloc ?_ _)); exact BK182.out) hb)
                      have n4_ := Aside0.mk (blk_below (g := gb189) (o := .cells #[.int .i64 t183, .int .i64 t184, .slice Ao24 t185.length co24] 26 (0, 0)) (by (with_reducible repeat (first | refine blk_drewN ?_ _ | refine blk_drew ?_ | refine blk_alloc ?_ _)); exact BK189.out) hb)
                      have n5_ := Aside0.mk (IsS56.below (by repeat (first | (with_reducible first | exact HI175.out | apply IsS56.alloc | apply IsS56.drewN | apply IsS56.drew | apply IsS56.set_1 | refine IsS56.far ?_ NB175_182.out _ | refine IsS56.far ?_ NB175_189.out _) | exact HI175.out)) hb)
                      have n6_ := Aside0.mk (below_step (by repeat (first | (with_reducible first | exact HB.out | apply below_alloc | apply pw_below_drewN | apply below_drew1 | refine below_set ?_ (IsS56.ge HI175.out) | refine below_set ?_ GE182.out | refine below_set ?_ GE189.out) | exact HB.out)) hb)
                      have n7_ := Aside0.mk (hbox)
                      have n8_ := Aside0.mk ((by rw [hg]; exact (below_size (by repeat (first | (with_reducible first | exact HB.out | apply below_alloc | apply pw_below_drewN | apply below_drew1 | refine below_set ?_ (IsS56.ge HI175.out) | refine below_set ?_ GE182.out | refine below_set ?_ GE189.out) | exact HB.out))) : w.heap.size ≤ gb203))
                      have n9_ := Aside0.mk ((by rw [hg]; exact (below_size (by repeat (first | (with_reducible first | exact HB.out | apply below_alloc | apply pw_below_drewN | apply below_drew1 | refine below_set ?_ (IsS56.ge HI175.out) | refine below_set ?_ GE182.out | refine below_set ?_ GE189.out) | exact HB.out))) : w.heap.size ≤ gb203))
                      have n10_ := Aside0.mk ((by rw [hg]; exact Nat.ne_of_lt (blk_lt (g := gb182) (o := .cells #[.int .i64 (wrap64 (t176 + (wrap64 (1 + (wrap64 (Int.tmod a2 8)))))), .int .i64 t177, .slice Ao38 y190.length co38] 26 (0, 0)) (by (with_reducible repeat (first | refine blk_drewN ?_ _ | refine blk_drew ?_ | refine blk_alloc ?_ _)); exact BK182.out)) : gb182 ≠ gb203))
                      have n11_ := Aside0.mk ((by rw [hg]; exact Nat.ne_of_gt (blk_lt (g := gb182) (o := .cells #[.int .i64 (wrap64 (t176 + (wrap64 (1 + (wrap64 (Int.tmod a2 8)))))), .int .i64 t177, .slice Ao38 y190.length co38] 26 (0, 0)) (by (with_reducible repeat (first | refine blk_drewN ?_ _ | refine blk_drew ?_ | refine blk_alloc ?_ _)); exact BK182.out)) : gb203 ≠ gb182))
                      have n12_ := Aside0.mk ((by rw [hg]; exact Nat.ne_of_lt (blk_lt (g := gb189) (o := .cells #[.int .i64 t183, .int .i64 t184, .slice Ao24 t185.length co24] 26 (0, 0)) (by (with_reducible repeat (first | refine blk_drewN ?_ _ | refine blk_drew ?_ | refine blk_alloc ?_ _)); exact BK189.out)) : gb189 ≠ gb203))
                      have n13_ := Aside0.mk ((by rw [hg]; exact Nat.ne_of_gt (blk_lt (g := gb189) (o := .cells #[.int .i64 t183, .int .i64 t184, .slice Ao24 t185.length co24] 26 (0, 0)) (by (with_reducible repeat (first | refine blk_drewN ?_ _ | refine blk_drew ?_ | refine blk_alloc ?_ _)); exact BK189.out)) : gb203 ≠ gb189))
                      have n14_ := Aside0.mk ((by rw [hg]; exact Nat.ne_of_lt (IsS56.lt (show IsS56 w _ g175 t173 t196 from by repeat (first | (with_reducible first | exact HI175.out | apply IsS56.alloc | apply IsS56.drewN | apply IsS56.drew | apply IsS56.set_1 | refine IsS56.far ?_ NB175_182.out _ | refine IsS56.far ?_ NB175_189.out _) | exact HI175.out))) : g175 ≠ gb203))
                      have n15_ := Aside0.mk ((by rw [hg]; exact Nat.ne_of_gt (IsS56.lt (show IsS56 w _ g175 t173 t196 from by repeat (first | (with_reducible first | exact HI175.out | apply IsS56.alloc | apply IsS56.drewN | apply IsS56.drew | apply IsS56.set_1 | refine IsS56.far ?_ NB175_182.out _ | refine IsS56.far ?_ NB175_189.out _) | exact HI175.out))) : gb203 ≠ g175))
                      clear HO_190002
                      clear HO192
                      clear HO195
                      clear BK182
                      clear BK189
                      clear HI175
                      clear HB
                      have HO_190002 := n0_
                      have HO192 := n1_
                      have HO195 := n2_
                      have BK182 := n3_
                      have BK189 := n4_
                      have HI175 := n5_
                      have HB := n6_
                      have BK203 := n7_
                      have GW203 := n8_
                      have GE203 := n9_
                      have NB182_203 := n10_
                      have NB203_182 := n11_
                      have NB189_203 := n12_
                      have NB203_189 := n13_
                      have NB175_203 := n14_
                      have NB203_175 := n15_
                      clear n0_ n1_ n2_ n3_ n4_ n5_ n6_ n7_ n8_ n9_ n10_ n11_ n12_ n13_ n14_ n15_
                      clear hb hbox hg
                      obtain ⟨Ao44, co44, eo44⟩ := Kd.R_slice HO195.out
                      (first | subst eo44 | (injection eo44 with f1_ f2_ f3_; have f4_ := f1_.symm; have f5_ := f3_.symm; clear f1_ f2_ f3_; subst f4_; subst f5_))
                      refine hK.out _ _ ⟨(blk_cell BK182.out 0).trans rfl, (blk_cell BK182.out 1).trans rfl, (blk_cell BK182.out 2).trans rfl⟩ (fun hHeld => ?_)
                      clear hK K
                      refine norm_ (a' := ?_) ?_ ?_
                      rotate_left
                      · show Act.put _ (some 14) _ = _
                        simp only [Act.put, List.setIfInBounds_toArray, List.set_cons_zero, List.set_cons_succ, i64_w, i32_w]
                        rfl
                      refine one_ (i := 7) (N := some 70) #[true, true, true, true, true, true, true, true, false, false, false, true, false, false] rfl rfl (one_of HT_.out (by kernel_rfl)) (by decide) (fun K hK => ?_)
                      refine goes_ Try.func24 (by kernel_rfl) rfl #[.agg #[.int .i64 (wrap64 (t176 + (wrap64 (1 + (wrap64 (Int.tmod a2 8)))))), .int .i64 t177, .slice Ao38 y190.length co38], .slice Ao44 t193.length co44] (by rfl) rfl rfl (by (try simp only [List.map_toArray, List.map_cons, List.map_nil]); first | done | rfl | (simp only [List.length_drop, List.length_take]; rfl)) ?_
                      with_reducible refine (matrix_Pick.calls kj10 (wrap64 (t176 + (wrap64 (1 + (wrap64 (Int.tmod a2 8)))))) t177 _ _ y190 _ _ t193 t197 t198 t199 t202 _ ?side1 ?side2 ?side3 ?side4 A29.out).mono ?_
                      (case side1 => repeat (first | exact (Kd.R_reads' HO192.out).2.2 | (with_reducible refine Kd.C_alloc ?_ _) | (with_reducible refine Kd.C_drewN ?_ _) | (with_reducible refine Kd.C_drew ?_)))
                      (case side2 => exact (Kd.R_reads' HO192.out).2.1)
                      (case side3 => repeat (first | exact (Kd.R_reads' HO195.out).2.2 | (with_reducible refine Kd.C_alloc ?_ _) | (with_reducible refine Kd.C_drewN ?_ _) | (with_reducible refine Kd.C_drew ?_)))
                      (case side4 => exact (Kd.R_reads' HO195.out).2.1)
                      rintro e w45 ⟨v200, rfl, ho0, hb⟩
                      refine ⟨_, rfl, ?_⟩
                      have n0_ := Aside0.mk (Kd.R_elder' (by (with_reducible repeat (first | apply Kd.R_alloc | apply Kd.R_drewN | apply Kd.R_drew)); exact HO_190002.out) (Kd.R_base ho0) hb)
                      have n1_ := Aside0.mk (Kd.R_elder' (by (with_reducible repeat (first | apply Kd.R_alloc | apply Kd.R_drewN | apply Kd.R_drew)); exact HO192.out) (Kd.R_base ho0) hb)
                      have n2_ := Aside0.mk (Kd.R_elder' (by (with_reducible repeat (first | apply Kd.R_alloc | apply Kd.R_drewN | apply Kd.R_drew)); exact HO195.out) (Kd.R_base ho0) hb)
                      have n3_ := Aside0.mk (Kd.R_lower (Kd.R_new' (Kd.R_new' (Kd.R_new' ho0 (Kd.R_lt (by (with_reducible repeat (first | apply Kd.R_alloc | apply Kd.R_drewN | apply Kd.R_drew)); exact HO_190002.out))) (Kd.R_lt (by (with_reducible repeat (first | apply Kd.R_alloc | apply Kd.R_drewN | apply Kd.R_drew)); exact HO192.out))) (Kd.R_lt (by (with_reducible repeat (first | apply Kd.R_alloc | apply Kd.R_drewN | apply Kd.R_drew)); exact HO195.out))) (below_size (by repeat (first | (with_reducible first | exact HB.out | apply below_alloc | apply pw_below_drewN | apply below_drew1 | refine below_set ?_ (IsS56.ge HI175.out) | refine below_set ?_ GE182.out | refine below_set ?_ GE189.out | refine below_set ?_ GE203.out) | exact HB.out))))
                      have n4_ := Aside0.mk (blk_below (g := gb182) (o := .cells #[.int .i64 (wrap64 (t176 + (wrap64 (1 + (wrap64 (Int.tmod a2 8)))))), .int .i64 t177, .slice Ao38 y190.length co38] 26 (0, 0)) (by (with_reducible repeat (first | refine blk_drewN ?_ _ | refine blk_drew ?_ | refine blk_alloc ?_ _)); exact BK182.out) hb)
                      have n5_ := Aside0.mk (blk_below (g := gb189) (o := .cells #[.int .i64 t183, .int .i64 t184, .slice Ao24 t185.length co24] 26 (0, 0)) (by (with_reducible repeat (first | refine blk_drewN ?_ _ | refine blk_drew ?_ | refine blk_alloc ?_ _)); exact BK189.out) hb)
                      have n6_ := Aside0.mk (IsS56.below (by repeat (first | (with_reducible first | exact HI175.out | apply IsS56.alloc | apply IsS56.drewN | apply IsS56.drew | apply IsS56.set_1 | refine IsS56.far ?_ NB175_182.out _ | refine IsS56.far ?_ NB175_189.out _ | refine IsS56.far ?_ NB175_203.out _) | exact HI175.out)) hb)
                      have n7_ := Aside0.mk (blk_below (g := gb203) (o := .cells #[.int .i64 0, .int .i64 0, .slice none 0 0] 26 (0, 0)) (by (with_reducible repeat (first | refine blk_drewN ?_ _ | refine blk_drew ?_ | refine blk_alloc ?_ _)); exact BK203.out) hb)
                      have n8_ := Aside0.mk (below_step (by repeat (first | (with_reducible first | exact HB.out | apply below_alloc | apply pw_below_drewN | apply below_drew1 | refine below_set ?_ (IsS56.ge HI175.out) | refine below_set ?_ GE182.out | refine below_set ?_ GE189.out | refine below_set ?_ GE203.out) | exact HB.out)) hb)
                      clear HO_190002
                      clear HO192
                      clear HO195
                      clear BK182
                      clear BK189
                      clear HI175
                      clear BK203
                      clear HB
                      have HO_190002 := n0_
                      have HO192 := n1_
                      have HO195 := n2_
                      have HO201 := n3_
                      have BK182 := n4_
                      have BK189 := n5_
                      have HI175 := n6_
                      have BK203 := n7_
                      have HB := n8_
                      clear n0_ n1_ n2_ n3_ n4_ n5_ n6_ n7_ n8_
                      (try clear hb)
                      (try clear hb2)
                      (try clear hk)
                      (try clear hi)
                      (try clear ho0)
                      refine hK.out _ _ ⟨(blk_cell BK182.out 0).trans rfl, (blk_cell BK182.out 1).trans rfl, (blk_cell BK182.out 2).trans rfl⟩ (fun hHeld => ?_)
                      clear hK K
                      refine norm_ (a' := ?_) ?_ ?_
                      rotate_left
                      · show Act.put _ (some 70) _ = _
                        simp only [Act.put, List.setIfInBounds_toArray, List.set_cons_zero, List.set_cons_succ, i64_w, i32_w]
                        rfl
                      refine pure_ (i := 8) (N := some 62) (v := ?_) (a' := ?_) #[true, true, true, true, true, true, true, true, true, false, false, true, false, false] rfl rfl (any_of HT_.out (by kernel_rfl)) (fun _ _ _ h => h) (Or.inl ⟨by rfl, ?_⟩) ?_ ?_
                      rotate_left
                      · intro w'
                        go_simp
                        with_reducible rfl
                      rotate_left
                      · simp only [Act.put, List.setIfInBounds_toArray, List.set_cons_zero, List.set_cons_succ, i64_w, i32_w]
                        rfl
                      refine pure_ (i := 9) (N := some 71) (v := ?_) (a' := ?_) #[true, true, true, true, true, true, true, true, true, true, false, true, false, false] rfl rfl (any_of HT_.out (by kernel_rfl)) (fun _ _ _ h => h) (Or.inl ⟨by rfl, ?_⟩) ?_ ?_
                      rotate_left
                      · intro w'
                        go_simp
                        with_reducible rfl
                      rotate_left
                      · simp only [Act.put, List.setIfInBounds_toArray, List.set_cons_zero, List.set_cons_succ, i64_w, i32_w]
                        rfl
                      refine pure_ (i := 10) (N := some 72) (v := ?_) (a' := ?_) #[true, true, true, true, true, true, true, true, true, true, true, true, false, false] rfl rfl (any_of HT_.out (by kernel_rfl)) (fun _ _ _ h => h) (Or.inl ⟨by rfl, ?_⟩) ?_ ?_
                      rotate_left
                      · intro w'
                        go_simp
                        with_reducible rfl
                      rotate_left
                      · simp only [Act.put, List.setIfInBounds_toArray, List.set_cons_zero, List.set_cons_succ, i64_w, i32_w]
                        rfl
                      exact norm_ (by simp only [putAll, Act.put, List.setIfInBounds_toArray, List.set_cons_zero, List.set_cons_succ]) (hCont (.slice Ao44 t193.length co44, v200, gb203) _ ⟨hHeld, (by (with_reducible repeat (first | apply Kd.R_alloc | apply Kd.R_drewN | apply Kd.R_drew)); exact Kd.R_mono HO192.out (fun _ hk => ⟨hk.1.2, ⟨hk.2, hk.1.1⟩⟩)), (by (with_reducible repeat (first | apply Kd.R_alloc | apply Kd.R_drewN | apply Kd.R_drew)); exact Kd.R_mono HO195.out (fun _ hk => ⟨hk.1.2, ⟨hk.2, hk.1.1.2⟩⟩)), (by (with_reducible repeat (first | apply Kd.R_alloc | apply Kd.R_drewN | apply Kd.R_drew)); exact Kd.R_mono HO201.out (fun _ hk => ⟨hk.1.2, ⟨hk.2, hk.1.1.2⟩⟩)), (by (with_reducible repeat (first | apply Kd.R_alloc | apply Kd.R_drewN | apply Kd.R_drew)); exact Kd.R_mono HO_190002.out (fun _ hk => ⟨hk.1.1, ⟨hk.1.2, hk.2⟩⟩)), (by (with_reducible repeat (first | refine blk_drewN ?_ _ | refine blk_drew ?_ | refine blk_alloc ?_ _)); exact BK182.out), (by (with_reducible repeat (first | refine blk_drewN ?_ _ | refine blk_drew ?_ | refine blk_alloc ?_ _)); exact BK189.out), (by (with_reducible repeat (first | refine blk_drewN ?_ _ | refine blk_drew ?_ | refine blk_alloc ?_ _)); exact BK203.out), GW203.out, GE203.out, NB175_203.out, NB203_175.out, NB182_203.out, NB203_182.out, NB189_203.out, NB203_189.out, (by repeat (first | (with_reducible first | exact HI175.out | apply IsS56.alloc | apply IsS56.drewN | apply IsS56.drew | apply IsS56.set_1 | refine IsS56.far ?_ NB175_182.out _ | refine IsS56.far ?_ NB175_189.out _ | refine IsS56.far ?_ NB175_203.out _) | exact HI175.out)), (by repeat (first | (with_reducible first | exact HB.out | apply below_alloc | apply pw_below_drewN | apply below_drew1 | refine below_set ?_ (IsS56.ge HI175.out) | refine below_set ?_ GE182.out | refine below_set ?_ GE189.out | refine below_set ?_ GE203.out) | exact HB.out))⟩)
                  · skip
                    refine box_step ?hg (N := 14) ?hd (cs := #[.int .i64 0, .int .i64 0, .slice none 0 0]) (t := 26) ?hr ?_; (case hd => rfl); (case hg => rfl); (case hr => first | (go_simp; done) | (go_simp; rfl))
                    intro gb203 hg w42 hbox hb
                    have n0_ := Aside0.mk (Kd.R_below (by (with_reducible repeat (first | apply Kd.R_alloc | apply Kd.R_drewN | apply Kd.R_drew)); exact HO_190002.out) hb)
                    have n1_ := Aside0.mk (Kd.R_below (by (with_reducible repeat (first | apply Kd.R_alloc | apply Kd.R_drewN | apply Kd.R_drew)); exact HO192.out) hb)
                    have n2_ := Aside0.mk (blk_below (g := gb182) (o := .cells #[.int .i64 (wrap64 (t176 + (wrap64 (1 + (wrap64 (Int.tmod a2 8)))))), .int .i64 t177, .slice Ao38 y190.length co38] 26 (0, 0)) (by (with_reducible repeat (first | refine blk_drewN ?_ _ | refine blk_drew ?_ | refine blk_alloc ?_ _)); exact BK182.out) hb)
                    have n3_ := Aside0.mk (blk_below (g := gb189) (o := .cells #[.int .i64 t183, .int .i64 t184, .slice Ao24 t185.length co24] 26 (0, 0)) (by (with_reducible repeat (first | refine blk_drewN ?_ _ | refine blk_drew ?_ | refine blk_alloc ?_ _)); exact BK189.out) hb)
                    have n4_ := Aside0.mk (IsS56.below (by repeat (first | (with_reducible first | exact HI175.out | apply IsS56.alloc | apply IsS56.drewN | apply IsS56.drew | apply IsS56.set_1 | refine IsS56.far ?_ NB175_182.out _ | refine IsS56.far ?_ NB175_189.out _) | exact HI175.out)) hb)
                    have n5_ := Aside0.mk (below_step (by repeat (first | (with_reducible first | exact HB.out | apply below_alloc | apply pw_below_drewN | apply below_drew1 | refine below_set ?_ (IsS56.ge HI175.out) | refine below_set ?_ GE182.out | refine below_set ?_ GE189.out) | exact HB.out)) hb)
                    have n6_ := Aside0.mk (hbox)
                    have n7_ := Aside0.mk ((by rw [hg]; exact (below_size (by repeat (first | (with_reducible first | exact HB.out | apply below_alloc | apply pw_below_drewN | apply below_drew1 | refine below_set ?_ (IsS56.ge HI175.out) | refine below_set ?_ GE182.out | refine below_set ?_ GE189.out) | exact HB.out))) : w.heap.size ≤ gb203))
                    have n8_ := Aside0.mk ((by rw [hg]; exact (below_size (by repeat (first | (with_reducible first | exact HB.out | apply below_alloc | apply pw_below_drewN | apply below_drew1 | refine below_set ?_ (IsS56.ge HI175.out) | refine below_set ?_ GE182.out | refine below_set ?_ GE189.out) | exact HB.out))) : w.heap.size ≤ gb203))
                    have n9_ := Aside0.mk ((by rw [hg]; exact Nat.ne_of_lt (blk_lt (g := gb182) (o := .cells #[.int .i64 (wrap64 (t176 + (wrap64 (1 + (wrap64 (Int.tmod a2 8)))))), .int .i64 t177, .slice Ao38 y190.length co38] 26 (0, 0)) (by (with_reducible repeat (first | refine blk_drewN ?_ _ | refine blk_drew ?_ | refine blk_alloc ?_ _)); exact BK182.out)) : gb182 ≠ gb203))
                    have n10_ := Aside0.mk ((by rw [hg]; exact Nat.ne_of_gt (blk_lt (g := gb182) (o := .cells #[.int .i64 (wrap64 (t176 + (wrap64 (1 + (wrap64 (Int.tmod a2 8)))))), .int .i64 t177, .slice Ao38 y190.length co38] 26 (0, 0)) (by (with_reducible repeat (first | refine blk_drewN ?_ _ | refine blk_drew ?_ | refine blk_alloc ?_ _)); exact BK182.out)) : gb203 ≠ gb182))
                    have n11_ := Aside0.mk ((by rw [hg]; exact Nat.ne_of_lt (blk_lt (g := gb189) (o := .cells #[.int .i64 t183, .int .i64 t184, .slice Ao24 t185.length co24] 26 (0, 0)) (by (with_reducible repeat (first | refine blk_drewN ?_ _ | refine blk_drew ?_ | refine blk_alloc ?_ _)); exact BK189.out)) : gb189 ≠ gb203))
                    have n12_ := Aside0.mk ((by rw [hg]; exact Nat.ne_of_gt (blk_lt (g := gb189) (o := .cells #[.int .i64 t183, .int .i64 t184, .slice Ao24 t185.length co24] 26 (0, 0)) (by (with_reducible repeat (first | refine blk_drewN ?_ _ | refine blk_drew ?_ | refine blk_alloc ?_ _)); exact BK189.out)) : gb203 ≠ gb189))
                    have n13_ := Aside0.mk ((by rw [hg]; exact Nat.ne_of_lt (IsS56.lt (show IsS56 w _ g175 t173 t174 from by repeat (first | (with_reducible first | exact HI175.out | apply IsS56.alloc | apply IsS56.drewN | apply IsS56.drew | apply IsS56.set_1 | refine IsS56.far ?_ NB175_182.out _ | refine IsS56.far ?_ NB175_189.out _) | exact HI175.out))) : g175 ≠ gb203))
                    have n14_ := Aside0.mk ((by rw [hg]; exact Nat.ne_of_gt (IsS56.lt (show IsS56 w _ g175 t173 t174 from by repeat (first | (with_reducible first | exact HI175.out | apply IsS56.alloc | apply IsS56.drewN | apply IsS56.drew | apply IsS56.set_1 | refine IsS56.far ?_ NB175_182.out _ | refine IsS56.far ?_ NB175_189.out _) | exact HI175.out))) : gb203 ≠ g175))
                    clear HO_190002
                    clear HO192
                    clear BK182
                    clear BK189
                    clear HI175
                    clear HB
                    have HO_190002 := n0_
                    have HO192 := n1_
                    have BK182 := n2_
                    have BK189 := n3_
                    have HI175 := n4_
                    have HB := n5_
                    have BK203 := n6_
                    have GW203 := n7_
                    have GE203 := n8_
                    have NB182_203 := n9_
                    have NB203_182 := n10_
                    have NB189_203 := n11_
                    have NB203_189 := n12_
                    have NB175_203 := n13_
                    have NB203_175 := n14_
                    clear n0_ n1_ n2_ n3_ n4_ n5_ n6_ n7_ n8_ n9_ n10_ n11_ n12_ n13_ n14_
                    clear hb hbox hg
                    refine hK.out _ _ ⟨(blk_cell BK182.out 0).trans rfl, (blk_cell BK182.out 1).trans rfl, (blk_cell BK182.out 2).trans rfl⟩ (fun hHeld => ?_)
                    clear hK K
                    refine norm_ (a' := ?_) ?_ ?_
                    rotate_left
                    · show Act.put _ (some 14) _ = _
                      simp only [Act.put, List.setIfInBounds_toArray, List.set_cons_zero, List.set_cons_succ, i64_w, i32_w]
                      rfl
                    refine one_ (i := 6) (N := some 69) #[true, true, true, true, true, true, true, false, false, false, false, true, false, false] rfl rfl (one_of HT_.out (by kernel_rfl)) (by decide) (fun K hK => ?_)
                    refine goes_ Try.func23 (by kernel_rfl) rfl #[.pointer (some ⟨g175, 0, none⟩), .int .i64 (wrap64 ((wrap64 (1 + (wrap64 (Int.tmod a1 8)))) + (wrap64 (1 + (wrap64 (Int.tmod a2 8)))))), .int .i64 (wrap64 (1 + (wrap64 (Int.tmod a1 8))))] (by rfl) rfl rfl (by (try simp only [List.map_toArray, List.map_cons, List.map_nil]); first | done | rfl | (simp only [List.length_drop, List.length_take]; rfl)) ?_
                    with_reducible refine (storagebarterlaw06_pick.calls g175 t173 t174 (wrap64 ((wrap64 (1 + (wrap64 (Int.tmod a1 8)))) + (wrap64 (1 + (wrap64 (Int.tmod a2 8)))))) (wrap64 (1 + (wrap64 (Int.tmod a1 8)))) t193 t196 w _ ?side1 ?side2 A28.out).mono ?_
                    (case side1 => repeat (first | (with_reducible first | exact HI175.out | apply IsS56.alloc | apply IsS56.drewN | apply IsS56.drew | apply IsS56.set_1 | refine IsS56.far ?_ NB175_182.out _ | refine IsS56.far ?_ NB175_189.out _ | refine IsS56.far ?_ NB175_203.out _) | exact HI175.out))
                    (case side2 => repeat (first | (with_reducible first | exact HB.out | apply below_alloc | apply pw_below_drewN | apply below_drew1 | refine below_set ?_ (IsS56.ge HI175.out) | refine below_set ?_ GE182.out | refine below_set ?_ GE189.out | refine below_set ?_ GE203.out) | exact HB.out))
                    rintro e w43 ⟨v194, rfl, ho0, hi, hb, hk⟩
                    refine ⟨_, rfl, ?_⟩
                    have n0_ := Aside0.mk (Kd.R_mono (Kd.R_told (Kd.R_oldK (IsS56.apart (show IsS56 w _ g175 t173 t174 from by repeat (first | (with_reducible first | exact HI175.out | apply IsS56.alloc | apply IsS56.drewN | apply IsS56.drew | apply IsS56.set_1 | refine IsS56.far ?_ NB175_182.out _ | refine IsS56.far ?_ NB175_189.out _ | refine IsS56.far ?_ NB175_203.out _) | exact HI175.out)) (by (with_reducible repeat (first | apply Kd.R_alloc | apply Kd.R_drewN | apply Kd.R_drew)); exact HO_190002.out) (by decide)) hk) (Kd.R_base ho0)) (fun _ h_ => h_.1))
                    have n1_ := Aside0.mk (KeepBut.blk hk (g' := gb182) (o := .cells #[.int .i64 (wrap64 (t176 + (wrap64 (1 + (wrap64 (Int.tmod a2 8)))))), .int .i64 t177, .slice Ao38 y190.length co38] 26 (0, 0)) (by (with_reducible repeat (first | refine blk_drewN ?_ _ | refine blk_drew ?_ | refine blk_alloc ?_ _)); exact BK182.out) NB182_175.out (by simp))
                    have n2_ := Aside0.mk (KeepBut.blk hk (g' := gb189) (o := .cells #[.int .i64 t183, .int .i64 t184, .slice Ao24 t185.length co24] 26 (0, 0)) (by (with_reducible repeat (first | refine blk_drewN ?_ _ | refine blk_drew ?_ | refine blk_alloc ?_ _)); exact BK189.out) NB189_175.out (by simp))
                    have n3_ := Aside0.mk (Kd.R_mono (Kd.R_told (Kd.R_oldK (IsS56.apart (show IsS56 w _ g175 t173 t174 from by repeat (first | (with_reducible first | exact HI175.out | apply IsS56.alloc | apply IsS56.drewN | apply IsS56.drew | apply IsS56.set_1 | refine IsS56.far ?_ NB175_182.out _ | refine IsS56.far ?_ NB175_189.out _ | refine IsS56.far ?_ NB175_203.out _) | exact HI175.out)) (by (with_reducible repeat (first | apply Kd.R_alloc | apply Kd.R_drewN | apply Kd.R_drew)); exact HO192.out) (by decide)) hk) (Kd.R_base ho0)) (fun _ h_ => h_.1))
                    have n4_ := Aside0.mk (KeepBut.blk hk (g' := gb203) (o := .cells #[.int .i64 0, .int .i64 0, .slice none 0 0] 26 (0, 0)) (by (with_reducible repeat (first | refine blk_drewN ?_ _ | refine blk_drew ?_ | refine blk_alloc ?_ _)); exact BK203.out) NB203_175.out (by simp))
                    have n5_ := Aside0.mk (Kd.R_lower (Kd.R_new' (Kd.R_new' ho0 (Kd.R_lt (by (with_reducible repeat (first | apply Kd.R_alloc | apply Kd.R_drewN | apply Kd.R_drew)); exact HO_190002.out))) (Kd.R_lt (by (with_reducible repeat (first | apply Kd.R_alloc | apply Kd.R_drewN | apply Kd.R_drew)); exact HO192.out))) (below_size (by repeat (first | (with_reducible first | exact HB.out | apply below_alloc | apply pw_below_drewN | apply below_drew1 | refine below_set ?_ (IsS56.ge HI175.out) | refine below_set ?_ GE182.out | refine below_set ?_ GE189.out | refine below_set ?_ GE203.out) | exact HB.out))))
                    have n6_ := Aside0.mk (hb)
                    have n7_ := Aside0.mk (hi)
                    clear HO_190002
                    clear BK182
                    clear BK189
                    clear HO192
                    clear BK203
                    clear HB
                    clear HI175
                    have HO_190002 := n0_
                    have BK182 := n1_
                    have BK189 := n2_
                    have HO192 := n3_
                    have BK203 := n4_
                    have HO195 := n5_
                    have HB := n6_
                    have HI175 := n7_
                    clear n0_ n1_ n2_ n3_ n4_ n5_ n6_ n7_
                    (try clear hb)
                    (try clear hb2)
                    (try clear hk)
                    (try clear hi)
                    (try clear ho0)
                    obtain ⟨Ao44, co44, eo44⟩ := Kd.R_slice HO195.out
                    (first | subst eo44 | (injection eo44 with f1_ f2_ f3_; have f4_ := f1_.symm; have f5_ := f3_.symm; clear f1_ f2_ f3_; subst f4_; subst f5_))
                    refine hK.out _ _ ⟨(blk_cell BK182.out 0).trans rfl, (blk_cell BK182.out 1).trans rfl, (blk_cell BK182.out 2).trans rfl⟩ (fun hHeld => ?_)
                    clear hK K
                    refine norm_ (a' := ?_) ?_ ?_
                    rotate_left
                    · show Act.put _ (some 69) _ = _
                      simp only [Act.put, List.setIfInBounds_toArray, List.set_cons_zero, List.set_cons_succ, i64_w, i32_w]
                      rfl
                    refine one_ (i := 7) (N := some 70) #[true, true, true, true, true, true, true, true, false, false, false, true, false, false] rfl rfl (one_of HT_.out (by kernel_rfl)) (by decide) (fun K hK => ?_)
                    refine goes_ Try.func24 (by kernel_rfl) rfl #[.agg #[.int .i64 (wrap64 (t176 + (wrap64 (1 + (wrap64 (Int.tmod a2 8)))))), .int .i64 t177, .slice Ao38 y190.length co38], .slice Ao44 t193.length co44] (by rfl) rfl rfl (by (try simp only [List.map_toArray, List.map_cons, List.map_nil]); first | done | rfl | (simp only [List.length_drop, List.length_take]; rfl)) ?_
                    with_reducible refine (matrix_Pick.calls kj10 (wrap64 (t176 + (wrap64 (1 + (wrap64 (Int.tmod a2 8)))))) t177 _ _ y190 _ _ t193 t197 t198 t199 t202 _ ?side1 ?side2 ?side3 ?side4 A29.out).mono ?_
                    (case side1 => repeat (first | exact (Kd.R_reads' HO192.out).2.2 | (with_reducible refine Kd.C_alloc ?_ _) | (with_reducible refine Kd.C_drewN ?_ _) | (with_reducible refine Kd.C_drew ?_)))
                    (case side2 => exact (Kd.R_reads' HO192.out).2.1)
                    (case side3 => repeat (first | exact (Kd.R_reads' HO195.out).2.2 | (with_reducible refine Kd.C_alloc ?_ _) | (with_reducible refine Kd.C_drewN ?_ _) | (with_reducible refine Kd.C_drew ?_)))
                    (case side4 => exact (Kd.R_reads' HO195.out).2.1)
                    rintro e w45 ⟨v200, rfl, ho0, hb⟩
                    refine ⟨_, rfl, ?_⟩
                    have n0_ := Aside0.mk (Kd.R_elder' (by (with_reducible repeat (first | apply Kd.R_alloc | apply Kd.R_drewN | apply Kd.R_drew)); exact HO_190002.out) (Kd.R_base ho0) hb)
                    have n1_ := Aside0.mk (Kd.R_elder' (by (with_reducible repeat (first | apply Kd.R_alloc | apply Kd.R_drewN | apply Kd.R_drew)); exact HO192.out) (Kd.R_base ho0) hb)
                    have n2_ := Aside0.mk (Kd.R_elder' (by (with_reducible repeat (first | apply Kd.R_alloc | apply Kd.R_drewN | apply Kd.R_drew)); exact HO195.out) (Kd.R_base ho0) hb)
                    have n3_ := Aside0.mk (Kd.R_lower (Kd.R_new' (Kd.R_new' (Kd.R_new' ho0 (Kd.R_lt (by (with_reducible repeat (first | apply Kd.R_alloc | apply Kd.R_drewN | apply Kd.R_drew)); exact HO_190002.out))) (Kd.R_lt (by (with_reducible repeat (first | apply Kd.R_alloc | apply Kd.R_drewN | apply Kd.R_drew)); exact HO192.out))) (Kd.R_lt (by (with_reducible repeat (first | apply Kd.R_alloc | apply Kd.R_drewN | apply Kd.R_drew)); exact HO195.out))) (below_size (by repeat (first | (with_reducible first | exact HB.out | apply below_alloc | apply pw_below_drewN | apply below_drew1 | refine below_set ?_ (IsS56.ge HI175.out) | refine below_set ?_ GE182.out | refine below_set ?_ GE189.out | refine below_set ?_ GE203.out) | exact HB.out))))
                    have n4_ := Aside0.mk (blk_below (g := gb182) (o := .cells #[.int .i64 (wrap64 (t176 + (wrap64 (1 + (wrap64 (Int.tmod a2 8)))))), .int .i64 t177, .slice Ao38 y190.length co38] 26 (0, 0)) (by (with_reducible repeat (first | refine blk_drewN ?_ _ | refine blk_drew ?_ | refine blk_alloc ?_ _)); exact BK182.out) hb)
                    have n5_ := Aside0.mk (blk_below (g := gb189) (o := .cells #[.int .i64 t183, .int .i64 t184, .slice Ao24 t185.length co24] 26 (0, 0)) (by (with_reducible repeat (first | refine blk_drewN ?_ _ | refine blk_drew ?_ | refine blk_alloc ?_ _)); exact BK189.out) hb)
                    have n6_ := Aside0.mk (IsS56.below (by repeat (first | (with_reducible first | exact HI175.out | apply IsS56.alloc | apply IsS56.drewN | apply IsS56.drew | apply IsS56.set_1 | refine IsS56.far ?_ NB175_182.out _ | refine IsS56.far ?_ NB175_189.out _ | refine IsS56.far ?_ NB175_203.out _) | exact HI175.out)) hb)
                    have n7_ := Aside0.mk (blk_below (g := gb203) (o := .cells #[.int .i64 0, .int .i64 0, .slice none 0 0] 26 (0, 0)) (by (with_reducible repeat (first | refine blk_drewN ?_ _ | refine blk_drew ?_ | refine blk_alloc ?_ _)); exact BK203.out) hb)
                    have n8_ := Aside0.mk (below_step (by repeat (first | (with_reducible first | exact HB.out | apply below_alloc | apply pw_below_drewN | apply below_drew1 | refine below_set ?_ (IsS56.ge HI175.out) | refine below_set ?_ GE182.out | refine below_set ?_ GE189.out | refine below_set ?_ GE203.out) | exact HB.out)) hb)
                    clear HO_190002
                    clear HO192
                    clear HO195
                    clear BK182
                    clear BK189
                    clear HI175
                    clear BK203
                    clear HB
                    have HO_190002 := n0_
                    have HO192 := n1_
                    have HO195 := n2_
                    have HO201 := n3_
                    have BK182 := n4_
                    have BK189 := n5_
                    have HI175 := n6_
                    have BK203 := n7_
                    have HB := n8_
                    clear n0_ n1_ n2_ n3_ n4_ n5_ n6_ n7_ n8_
                    (try clear hb)
                    (try clear hb2)
                    (try clear hk)
                    (try clear hi)
                    (try clear ho0)
                    refine hK.out _ _ ⟨(blk_cell BK182.out 0).trans rfl, (blk_cell BK182.out 1).trans rfl, (blk_cell BK182.out 2).trans rfl⟩ (fun hHeld => ?_)
                    clear hK K
                    refine norm_ (a' := ?_) ?_ ?_
                    rotate_left
                    · show Act.put _ (some 70) _ = _
                      simp only [Act.put, List.setIfInBounds_toArray, List.set_cons_zero, List.set_cons_succ, i64_w, i32_w]
                      rfl
                    refine pure_ (i := 8) (N := some 62) (v := ?_) (a' := ?_) #[true, true, true, true, true, true, true, true, true, false, false, true, false, false] rfl rfl (any_of HT_.out (by kernel_rfl)) (fun _ _ _ h => h) (Or.inl ⟨by rfl, ?_⟩) ?_ ?_
                    rotate_left
                    · intro w'
                      go_simp
                      with_reducible rfl
                    rotate_left
                    · simp only [Act.put, List.setIfInBounds_toArray, List.set_cons_zero, List.set_cons_succ, i64_w, i32_w]
                      rfl
                    refine pure_ (i := 9) (N := some 71) (v := ?_) (a' := ?_) #[true, true, true, true, true, true, true, true, true, true, false, true, false, false] rfl rfl (any_of HT_.out (by kernel_rfl)) (fun _ _ _ h => h) (Or.inl ⟨by rfl, ?_⟩) ?_ ?_
                    rotate_left
                    · intro w'
                      go_simp
                      with_reducible rfl
                    rotate_left
                    · simp only [Act.put, List.setIfInBounds_toArray, List.set_cons_zero, List.set_cons_succ, i64_w, i32_w]
                      rfl
                    refine pure_ (i := 10) (N := some 72) (v := ?_) (a' := ?_) #[true, true, true, true, true, true, true, true, true, true, true, true, false, false] rfl rfl (any_of HT_.out (by kernel_rfl)) (fun _ _ _ h => h) (Or.inl ⟨by rfl, ?_⟩) ?_ ?_
                    rotate_left
                    · intro w'
                      go_simp
                      with_reducible rfl
                    rotate_left
                    · simp only [Act.put, List.setIfInBounds_toArray, List.set_cons_zero, List.set_cons_succ, i64_w, i32_w]
                      rfl
                    exact norm_ (by simp only [putAll, Act.put, List.setIfInBounds_toArray, List.set_cons_zero, List.set_cons_succ]) (hCont (.slice Ao44 t193.length co44, v200, gb203) _ ⟨hHeld, (by (with_reducible repeat (first | apply Kd.R_alloc | apply Kd.R_drewN | apply Kd.R_drew)); exact Kd.R_mono HO192.out (fun _ hk => ⟨hk.1.2, ⟨hk.2, hk.1.1⟩⟩)), (by (with_reducible repeat (first | apply Kd.R_alloc | apply Kd.R_drewN | apply Kd.R_drew)); exact Kd.R_mono HO195.out (fun _ hk => ⟨hk.1.2, ⟨hk.2, hk.1.1.2⟩⟩)), (by (with_reducible repeat (first | apply Kd.R_alloc | apply Kd.R_drewN | apply Kd.R_drew)); exact Kd.R_mono HO201.out (fun _ hk => ⟨hk.1.2, ⟨hk.2, hk.1.1.2⟩⟩)), (by (with_reducible repeat (first | apply Kd.R_alloc | apply Kd.R_drewN | apply Kd.R_drew)); exact Kd.R_mono HO_190002.out (fun _ hk => ⟨hk.1.1, ⟨hk.1.2, hk.2⟩⟩)), (by (with_reducible repeat (first | refine blk_drewN ?_ _ | refine blk_drew ?_ | refine blk_alloc ?_ _)); exact BK182.out), (by (with_reducible repeat (first | refine blk_drewN ?_ _ | refine blk_drew ?_ | refine blk_alloc ?_ _)); exact BK189.out), (by (with_reducible repeat (first | refine blk_drewN ?_ _ | refine blk_drew ?_ | refine blk_alloc ?_ _)); exact BK203.out), GW203.out, GE203.out, NB175_203.out, NB203_175.out, NB182_203.out, NB203_182.out, NB189_203.out, NB203_189.out, (by repeat (first | (with_reducible first | exact HI175.out | apply IsS56.alloc | apply IsS56.drewN | apply IsS56.drew | apply IsS56.set_1 | refine IsS56.far ?_ NB175_182.out _ | refine IsS56.far ?_ NB175_189.out _ | refine IsS56.far ?_ NB175_203.out _) | exact HI175.out)), (by repeat (first | (with_reducible first | exact HB.out | apply below_alloc | apply pw_below_drewN | apply below_drew1 | refine below_set ?_ (IsS56.ge HI175.out) | refine below_set ?_ GE182.out | refine below_set ?_ GE189.out | refine below_set ?_ GE203.out) | exact HB.out))⟩)
                rintro ⟨v194, v200, gb203⟩ w46 ⟨hS_, h0_, h1_, h2_, h3_, h4_, h5_, h6_, h7_, h8_, h9_, h10_, h11_, h12_, h13_, h14_, h15_, h16_⟩
                have n0_ : Aside0 (Kd.R (Kd.int .i64) 3 w46 w.heap.size (fun k_ => some k_ ≠ (v194 : Value).ownBlock ∧ some k_ ≠ (v200 : Value).ownBlock ∧ some k_ ≠ (.slice Ao24 t185.length co24 : Value).ownBlock) (.slice Ao38 y190.length co38) y190) := ⟨h0_⟩
                have n1_ : Aside0 (Kd.R (Kd.int .i64) 3 w46 w.heap.size (fun k_ => some k_ ≠ (.slice Ao38 y190.length co38 : Value).ownBlock ∧ some k_ ≠ (v200 : Value).ownBlock ∧ some k_ ≠ (.slice Ao24 t185.length co24 : Value).ownBlock) v194 t193) := ⟨h1_⟩
                have n2_ : Aside0 (Kd.R (Kd.int .i64) 3 w46 w.heap.size (fun k_ => some k_ ≠ (.slice Ao38 y190.length co38 : Value).ownBlock ∧ some k_ ≠ (v194 : Value).ownBlock ∧ some k_ ≠ (.slice Ao24 t185.length co24 : Value).ownBlock) v200 t199) := ⟨h2_⟩
                have n3_ : Aside0 (Kd.R (Kd.int .i64) 3 w46 w.heap.size (fun k_ => some k_ ≠ (.slice Ao38 y190.length co38 : Value).ownBlock ∧ some k_ ≠ (v194 : Value).ownBlock ∧ some k_ ≠ (v200 : Value).ownBlock) (.slice Ao24 t185.length co24) t185) := ⟨h3_⟩
                have n4_ : Aside0 (w46.heap[gb182]? = some (.cells #[.int .i64 (wrap64 (t176 + (wrap64 (1 + (wrap64 (Int.tmod a2 8)))))), .int .i64 t177, .slice Ao38 y190.length co38] 26 (0, 0))) := ⟨h4_⟩
                have n5_ : Aside0 (w46.heap[gb189]? = some (.cells #[.int .i64 t183, .int .i64 t184, .slice Ao24 t185.length co24] 26 (0, 0))) := ⟨h5_⟩
                have n6_ : Aside0 (w46.heap[gb203]? = some (.cells #[.int .i64 0, .int .i64 0, .slice none 0 0] 26 (0, 0))) := ⟨h6_⟩
                have n7_ : Aside0 (w.heap.size ≤ gb203) := ⟨h7_⟩
                have n8_ : Aside0 (w.heap.size ≤ gb203) := ⟨h8_⟩
                have n9_ : Aside0 (g175 ≠ gb203) := ⟨h9_⟩
                have n10_ : Aside0 (gb203 ≠ g175) := ⟨h10_⟩
                have n11_ : Aside0 (gb182 ≠ gb203) := ⟨h11_⟩
                have n12_ : Aside0 (gb203 ≠ gb182) := ⟨h12_⟩
                have n13_ : Aside0 (gb189 ≠ gb203) := ⟨h13_⟩
                have n14_ : Aside0 (gb203 ≠ gb189) := ⟨h14_⟩
                have n15_ : Aside0 (IsS56 w w46 g175 t173 t196) := ⟨h15_⟩
                have n16_ : Aside0 (Below w.heap.size w w46) := ⟨h16_⟩
                clear HO_190002
                clear HO192
                clear BK182
                clear BK189
                clear HI175
                clear HB
                clear h0_ h1_ h2_ h3_ h4_ h5_ h6_ h7_ h8_ h9_ h10_ h11_ h12_ h13_ h14_ h15_ h16_
                have HO192 := n0_
                have HO195 := n1_
                have HO201 := n2_
                have HO_190002 := n3_
                have BK182 := n4_
                have BK189 := n5_
                have BK203 := n6_
                have GW203 := n7_
                have GE203 := n8_
                have NB175_203 := n9_
                have NB203_175 := n10_
                have NB182_203 := n11_
                have NB203_182 := n12_
                have NB189_203 := n13_
                have NB203_189 := n14_
                have HI175 := n15_
                have HB := n16_
                clear n0_ n1_ n2_ n3_ n4_ n5_ n6_ n7_ n8_ n9_ n10_ n11_ n12_ n13_ n14_ n15_ n16_
                have hHeld : w46.cell? ⟨gb182, 0, none⟩ = some (.int .i64 (wrap64 (t176 + (wrap64 (1 + (wrap64 (Int.tmod a2 8))))))) ∧ w46.cell? ⟨gb182, 1, none⟩ = some (.int .i64 t177) ∧ w46.cell? ⟨gb182, 2, none⟩ = some (.slice Ao38 y190.length co38) := hS_
                obtain ⟨Ao49, co49, eo49⟩ := Kd.R_slice HO201.out
                (first | subst eo49 | (injection eo49 with f1_ f2_ f3_; have f4_ := f1_.symm; have f5_ := f3_.symm; clear f1_ f2_ f3_; subst f4_; subst f5_))
                refine norm_ (a' := ?_) ?_ ?_
                rotate_left
                · simp only [putAll, Act.put, List.setIfInBounds_toArray, List.set_cons_zero, List.set_cons_succ]
                  rfl
                refine one_ (i := 12) (N := none) #[true, true, true, true, true, true, true, true, true, true, true, true, true, false] rfl rfl (one_of HT_.out (by kernel_rfl)) (by decide) (fun K hK => ?_)
                have hs47 : w46.cell? ⟨gb203, 0, none⟩ = some (.int .i64 0) := (blk_cell BK203.out 0).trans rfl
                have hfs47 := blk_frozen BK203.out 0
                have hns47_0 := NB182_203.out
                have hns47_1 := NB189_203.out
                have hms47_0 := NB203_182.out
                have hms47_1 := NB203_189.out
                have hs48 : w46.cell? ⟨gb203, 1, none⟩ = some (.int .i64 0) := (blk_cell BK203.out 1).trans rfl
                have hfs48 := blk_frozen BK203.out 1
                have hns48_0 := NB182_203.out
                have hns48_1 := NB189_203.out
                have hms48_0 := NB203_182.out
                have hms48_1 := NB203_189.out
                have hs50 : w46.cell? ⟨gb203, 2, none⟩ = some (.slice none 0 0) := (blk_cell BK203.out 2).trans rfl
                have hfs50 := blk_frozen BK203.out 2
                have hns50_0 := NB182_203.out
                have hns50_1 := NB189_203.out
                have hms50_0 := NB203_182.out
                have hms50_1 := NB203_189.out
                refine skip_ (w1 := ?_) (by rfl) rfl ?_ ?_
                rotate_left
                · go_simp
                  rfl
                refine hK.out _ _ ⟨((cell_far (p := ⟨gb203, _, none⟩) NB182_203.out _).trans (((cell_far (p := ⟨gb203, _, none⟩) NB182_203.out _).trans (((cell_far (p := ⟨gb203, _, none⟩) NB182_203.out _).trans (hHeld.1)))))), ((cell_far (p := ⟨gb203, _, none⟩) NB182_203.out _).trans (((cell_far (p := ⟨gb203, _, none⟩) NB182_203.out _).trans (((cell_far (p := ⟨gb203, _, none⟩) NB182_203.out _).trans (hHeld.2.1)))))), ((cell_far (p := ⟨gb203, _, none⟩) NB182_203.out _).trans (((cell_far (p := ⟨gb203, _, none⟩) NB182_203.out _).trans (((cell_far (p := ⟨gb203, _, none⟩) NB182_203.out _).trans (hHeld.2.2))))))⟩ (fun hHeld => ?_)
                clear hK K
                refine pure_ (i := 13) (N := some 15) (v := ?_) (a' := ?_) #[true, true, true, true, true, true, true, true, true, true, true, true, true, true] rfl rfl (any_of HT_.out (by kernel_rfl)) (fun _ _ _ h => h) (Or.inl ⟨by rfl, ?_⟩) ?_ ?_
                rotate_left
                · intro w'
                  go_simp
                  with_reducible rfl
                rotate_left
                · simp only [Act.put, List.setIfInBounds_toArray, List.set_cons_zero, List.set_cons_succ, i64_w, i32_w]
                  rfl
                refine done_ (done_of HT_.out (by kernel_rfl)) ?_
                have hnb51 := NB203_182.out
                have hnc51 := NB182_203.out
                have hnb52 := NB203_189.out
                have hnc52 := NB189_203.out
                have hnb53 := NB203_175.out
                have hnc53 := NB175_203.out
                have hcz54_0 : w46.cell? ⟨gb203, 0, none⟩ = some (.int .i64 0) := (blk_cell BK203.out 0).trans rfl
                have hcz54_1 : w46.cell? ⟨gb203, 1, none⟩ = some (.int .i64 0) := (blk_cell BK203.out 1).trans rfl
                have hcz54_2 : w46.cell? ⟨gb203, 2, none⟩ = some (.slice none 0 0) := (blk_cell BK203.out 2).trans rfl
                have hfz54_0 := blk_frozen BK203.out 0
                have hfz54_1 := blk_frozen BK203.out 1
                have hfz54_2 := blk_frozen BK203.out 2
                try go_wp2_with (first | ((with_reducible refine gate_callee (f := 26) rfl ?_); refine goesL_ (some 75) rfl rfl Try.func26 (by kernel_rfl) rfl #[.agg #[.int .i64 t197, .int .i64 t198, .slice Ao49 t199.length co49]] rfl (by (try simp only [List.map_toArray, List.map_cons, List.map_nil]); first | done | rfl | (simp only [List.length_drop, List.length_take]; rfl)) ?_; (with_reducible refine (matrix_Inverse.calls kj10 t197 t198 _ _ t199 t204 t205 t206 t209 _ ?side1 ?side2 A30.out).mono ?_); (case side1 => refine (Kd.R_reads' (e := 3) (base := w.heap.size) (ok := fun k_ => (some k_ ≠ (.slice Ao38 y190.length co38 : Value).ownBlock ∧ (some k_ ≠ (v194 : Value).ownBlock ∧ some k_ ≠ (.slice Ao24 t185.length co24 : Value).ownBlock))) (n := t199.length) (c := co49) ?_).2.2; exact (by (with_reducible repeat (first | apply Kd.R_alloc | apply Kd.R_drewN | apply Kd.R_drew)); exact (Kd.R_mono (Kd.R_far (p := ⟨gb203, 2, none⟩) (Kd.R_far (p := ⟨gb203, 1, none⟩) (Kd.R_far (p := ⟨gb203, 0, none⟩) (Kd.R_types HO201.out BK203.out (by decide)) (fun _ hk => hk.2) (.int .i64 t197)) (fun _ hk => hk.2) (.int .i64 t198)) (fun _ hk => hk.2) (.slice Ao49 t199.length co49)) (fun _ h_ => h_.1)))); (case side2 => exact (Kd.R_reads' HO201.out).2.1); rintro e w55 ⟨v207, rfl, ho0, hb⟩; refine ⟨_, rfl, ?_⟩; have n0_ := Aside0.mk (Kd.R_elder' (by (with_reducible repeat (first | apply Kd.R_alloc | apply Kd.R_drewN | apply Kd.R_drew)); exact (Kd.R_mono (Kd.R_far (p := ⟨gb203, 2, none⟩) (Kd.R_far (p := ⟨gb203, 1, none⟩) (Kd.R_far (p := ⟨gb203, 0, none⟩) (Kd.R_types HO_190002.out BK203.out (by decide)) (fun _ hk => hk.2) (.int .i64 t197)) (fun _ hk => hk.2) (.int .i64 t198)) (fun _ hk => hk.2) (.slice Ao49 t199.length co49)) (fun _ h_ => h_.1))) (Kd.R_base ho0) hb); have n1_ := Aside0.mk (Kd.R_elder' (by (with_reducible repeat (first | apply Kd.R_alloc | apply Kd.R_drewN | apply Kd.R_drew)); exact (Kd.R_mono (Kd.R_far (p := ⟨gb203, 2, none⟩) (Kd.R_far (p := ⟨gb203, 1, none⟩) (Kd.R_far (p := ⟨gb203, 0, none⟩) (Kd.R_types HO192.out BK203.out (by decide)) (fun _ hk => hk.2) (.int .i64 t197)) (fun _ hk => hk.2) (.int .i64 t198)) (fun _ hk => hk.2) (.slice Ao49 t199.length co49)) (fun _ h_ => h_.1))) (Kd.R_base ho0) hb); have n2_ := Aside0.mk (Kd.R_elder' (by (with_reducible repeat (first | apply Kd.R_alloc | apply Kd.R_drewN | apply Kd.R_drew)); exact (Kd.R_mono (Kd.R_far (p := ⟨gb203, 2, none⟩) (Kd.R_far (p := ⟨gb203, 1, none⟩) (Kd.R_far (p := ⟨gb203, 0, none⟩) (Kd.R_types HO195.out BK203.out (by decide)) (fun _ hk => hk.2) (.int .i64 t197)) (fun _ hk => hk.2) (.int .i64 t198)) (fun _ hk => hk.2) (.slice Ao49 t199.length co49)) (fun _ h_ => h_.1))) (Kd.R_base ho0) hb); have n3_ := Aside0.mk (Kd.R_elder' (by (with_reducible repeat (first | apply Kd.R_alloc | apply Kd.R_drewN | apply Kd.R_drew)); exact (Kd.R_mono (Kd.R_far (p := ⟨gb203, 2, none⟩) (Kd.R_far (p := ⟨gb203, 1, none⟩) (Kd.R_far (p := ⟨gb203, 0, none⟩) (Kd.R_types HO201.out BK203.out (by decide)) (fun _ hk => hk.2) (.int .i64 t197)) (fun _ hk => hk.2) (.int .i64 t198)) (fun _ hk => hk.2) (.slice Ao49 t199.length co49)) (fun _ h_ => h_.1))) (Kd.R_base ho0) hb); have n4_ := Aside0.mk (Kd.R_lower (Kd.R_new' (Kd.R_new' (Kd.R_new' (Kd.R_new' ho0 (Kd.R_lt (by (with_reducible repeat (first | apply Kd.R_alloc | apply Kd.R_drewN | apply Kd.R_drew)); exact (Kd.R_mono (Kd.R_far (p := ⟨gb203, 2, none⟩) (Kd.R_far (p := ⟨gb203, 1, none⟩) (Kd.R_far (p := ⟨gb203, 0, none⟩) (Kd.R_types HO_190002.out BK203.out (by decide)) (fun _ hk => hk.2) (.int .i64 t197)) (fun _ hk => hk.2) (.int .i64 t198)) (fun _ hk => hk.2) (.slice Ao49 t199.length co49)) (fun _ h_ => h_.1))))) (Kd.R_lt (by (with_reducible repeat (first | apply Kd.R_alloc | apply Kd.R_drewN | apply Kd.R_drew)); exact (Kd.R_mono (Kd.R_far (p := ⟨gb203, 2, none⟩) (Kd.R_far (p := ⟨gb203, 1, none⟩) (Kd.R_far (p := ⟨gb203, 0, none⟩) (Kd.R_types HO192.out BK203.out (by decide)) (fun _ hk => hk.2) (.int .i64 t197)) (fun _ hk => hk.2) (.int .i64 t198)) (fun _ hk => hk.2) (.slice Ao49 t199.length co49)) (fun _ h_ => h_.1))))) (Kd.R_lt (by (with_reducible repeat (first | apply Kd.R_alloc | apply Kd.R_drewN | apply Kd.R_drew)); exact (Kd.R_mono (Kd.R_far (p := ⟨gb203, 2, none⟩) (Kd.R_far (p := ⟨gb203, 1, none⟩) (Kd.R_far (p := ⟨gb203, 0, none⟩) (Kd.R_types HO195.out BK203.out (by decide)) (fun _ hk => hk.2) (.int .i64 t197)) (fun _ hk => hk.2) (.int .i64 t198)) (fun _ hk => hk.2) (.slice Ao49 t199.length co49)) (fun _ h_ => h_.1))))) (Kd.R_lt (by (with_reducible repeat (first | apply Kd.R_alloc | apply Kd.R_drewN | apply Kd.R_drew)); exact (Kd.R_mono (Kd.R_far (p := ⟨gb203, 2, none⟩) (Kd.R_far (p := ⟨gb203, 1, none⟩) (Kd.R_far (p := ⟨gb203, 0, none⟩) (Kd.R_types HO201.out BK203.out (by decide)) (fun _ hk => hk.2) (.int .i64 t197)) (fun _ hk => hk.2) (.int .i64 t198)) (fun _ hk => hk.2) (.slice Ao49 t199.length co49)) (fun _ h_ => h_.1))))) (below_size (by repeat (first | (with_reducible first | exact HB.out | apply below_alloc | apply pw_below_drewN | apply below_drew1 | refine below_set ?_ (IsS56.ge HI175.out) | refine below_set ?_ GE182.out | refine below_set ?_ GE189.out | refine below_set ?_ GE203.out) | exact HB.out)))); have n5_ := Aside0.mk (blk_below (g := gb182) (o := .cells #[.int .i64 (wrap64 (t176 + (wrap64 (1 + (wrap64 (Int.tmod a2 8)))))), .int .i64 t177, .slice Ao38 y190.length co38] 26 (0, 0)) (by (with_reducible repeat (first | refine blk_drewN ?_ _ | refine blk_drew ?_ | refine blk_alloc ?_ _)); refine blk_far ?_ NB182_203.out _; (with_reducible repeat (first | refine blk_drewN ?_ _ | refine blk_drew ?_ | refine blk_alloc ?_ _)); refine blk_far ?_ NB182_203.out _; (with_reducible repeat (first | refine blk_drewN ?_ _ | refine blk_drew ?_ | refine blk_alloc ?_ _)); refine blk_far ?_ NB182_203.out _; (with_reducible repeat (first | refine blk_drewN ?_ _ | refine blk_drew ?_ | refine blk_alloc ?_ _)); exact BK182.out) hb); have n6_ := Aside0.mk (blk_below (g := gb189) (o := .cells #[.int .i64 t183, .int .i64 t184, .slice Ao24 t185.length co24] 26 (0, 0)) (by (with_reducible repeat (first | refine blk_drewN ?_ _ | refine blk_drew ?_ | refine blk_alloc ?_ _)); refine blk_far ?_ NB189_203.out _; (with_reducible repeat (first | refine blk_drewN ?_ _ | refine blk_drew ?_ | refine blk_alloc ?_ _)); refine blk_far ?_ NB189_203.out _; (with_reducible repeat (first | refine blk_drewN ?_ _ | refine blk_drew ?_ | refine blk_alloc ?_ _)); refine blk_far ?_ NB189_203.out _; (with_reducible repeat (first | refine blk_drewN ?_ _ | refine blk_drew ?_ | refine blk_alloc ?_ _)); exact BK189.out) hb); have n7_ := Aside0.mk (IsS56.below (show IsS56 w (((w46.setCell ⟨gb203, 0, none⟩ (.int .i64 t197)).setCell ⟨gb203, 1, none⟩ (.int .i64 t198)).setCell ⟨gb203, 2, none⟩ (.slice Ao49 t199.length co49)) g175 t173 t196 from by repeat (first | (with_reducible first | exact HI175.out | apply IsS56.alloc | apply IsS56.drewN | apply IsS56.drew | apply IsS56.set_1 | refine IsS56.far ?_ NB175_182.out _ | refine IsS56.far ?_ NB175_189.out _ | refine IsS56.far ?_ NB175_203.out _) | exact HI175.out)) hb); have n8_ := Aside0.mk (blk_below (g := gb203) (o := .cells #[.int .i64 t197, .int .i64 t198, .slice Ao49 t199.length co49] 26 (0, 0)) (by (with_reducible repeat (first | refine blk_drewN ?_ _ | refine blk_drew ?_ | refine blk_alloc ?_ _)); refine blk_put (cs := #[.int .i64 t197, .int .i64 t198, .slice none 0 0]) ?_ 2 _ rfl; (with_reducible repeat (first | refine blk_drewN ?_ _ | refine blk_drew ?_ | refine blk_alloc ?_ _)); refine blk_put (cs := #[.int .i64 t197, .int .i64 0, .slice none 0 0]) ?_ 1 _ rfl; (with_reducible repeat (first | refine blk_drewN ?_ _ | refine blk_drew ?_ | refine blk_alloc ?_ _)); refine blk_put (cs := #[.int .i64 0, .int .i64 0, .slice none 0 0]) ?_ 0 _ rfl; (with_reducible repeat (first | refine blk_drewN ?_ _ | refine blk_drew ?_ | refine blk_alloc ?_ _)); exact BK203.out) hb); have n9_ := Aside0.mk (below_step (by repeat (first | (with_reducible first | exact HB.out | apply below_alloc | apply pw_below_drewN | apply below_drew1 | refine below_set ?_ (IsS56.ge HI175.out) | refine below_set ?_ GE182.out | refine below_set ?_ GE189.out | refine below_set ?_ GE203.out) | exact HB.out)) hb); clear HO_190002; clear HO192; clear HO195; clear HO201; clear BK182; clear BK189; clear HI175; clear BK203; clear HB; have HO_190002 := n0_; have HO192 := n1_; have HO195 := n2_; have HO201 := n3_; have HO208 := n4_; have BK182 := n5_; have BK189 := n6_; have HI175 := n7_; have BK203 := n8_; have HB := n9_; clear n0_ n1_ n2_ n3_ n4_ n5_ n6_ n7_ n8_ n9_; (try clear hb); (try clear hb2); (try clear hk); (try clear hi); (try clear ho0)) | ((with_reducible refine gate_dst (N := 16) rfl ?_); refine box_event ?hg (N := 16) ?hd (cs := #[.int .i64 0, .int .i64 0, .slice none 0 0]) (t := 26) ?hr ?_; (case hd => rfl); (case hg => rfl); (case hr => first | (go_simp; done) | (go_simp; rfl)); intro gb210 hg w56 hbox hb; have n0_ := Aside0.mk (Kd.R_below (by (with_reducible repeat (first | apply Kd.R_alloc | apply Kd.R_drewN | apply Kd.R_drew)); exact HO_190002.out) hb); have n1_ := Aside0.mk (Kd.R_below (by (with_reducible repeat (first | apply Kd.R_alloc | apply Kd.R_drewN | apply Kd.R_drew)); exact HO192.out) hb); have n2_ := Aside0.mk (Kd.R_below (by (with_reducible repeat (first | apply Kd.R_alloc | apply Kd.R_drewN | apply Kd.R_drew)); exact HO195.out) hb); have n3_ := Aside0.mk (Kd.R_below (by (with_reducible repeat (first | apply Kd.R_alloc | apply Kd.R_drewN | apply Kd.R_drew)); exact HO201.out) hb); have n4_ := Aside0.mk (Kd.R_below (by (with_reducible repeat (first | apply Kd.R_alloc | apply Kd.R_drewN | apply Kd.R_drew)); exact HO208.out) hb); have n5_ := Aside0.mk (blk_below (g := gb182) (o := .cells #[.int .i64 (wrap64 (t176 + (wrap64 (1 + (wrap64 (Int.tmod a2 8)))))), .int .i64 t177, .slice Ao38 y190.length co38] 26 (0, 0)) (by (with_reducible repeat (first | refine blk_drewN ?_ _ | refine blk_drew ?_ | refine blk_alloc ?_ _)); exact BK182.out) hb); have n6_ := Aside0.mk (blk_below (g := gb189) (o := .cells #[.int .i64 t183, .int .i64 t184, .slice Ao24 t185.length co24] 26 (0, 0)) (by (with_reducible repeat (first | refine blk_drewN ?_ _ | refine blk_drew ?_ | refine blk_alloc ?_ _)); exact BK189.out) hb); have n7_ := Aside0.mk (IsS56.below (by repeat (first | (with_reducible first | exact HI175.out | apply IsS56.alloc | apply IsS56.drewN | apply IsS56.drew | apply IsS56.set_1 | refine IsS56.far ?_ NB175_182.out _ | refine IsS56.far ?_ NB175_189.out _ | refine IsS56.far ?_ NB175_203.out _) | exact HI175.out)) hb); have n8_ := Aside0.mk (blk_below (g := gb203) (o := .cells #[.int .i64 t197, .int .i64 t198, .slice Ao49 t199.length co49] 26 (0, 0)) (by (with_reducible repeat (first | refine blk_drewN ?_ _ | refine blk_drew ?_ | refine blk_alloc ?_ _)); exact BK203.out) hb); have n9_ := Aside0.mk (below_step (by repeat (first | (with_reducible first | exact HB.out | apply below_alloc | apply pw_below_drewN | apply below_drew1 | refine below_set ?_ (IsS56.ge HI175.out) | refine below_set ?_ GE182.out | refine below_set ?_ GE189.out | refine below_set ?_ GE203.out) | exact HB.out)) hb); have n10_ := Aside0.mk (hbox); have n11_ := Aside0.mk ((by rw [hg]; exact (below_size (by repeat (first | (with_reducible first | exact HB.out | apply below_alloc | apply pw_below_drewN | apply below_drew1 | refine below_set ?_ (IsS56.ge HI175.out) | refine below_set ?_ GE182.out | refine below_set ?_ GE189.out | refine below_set ?_ GE203.out) | exact HB.out))) : w.heap.size ≤ gb210)); have n12_ := Aside0.mk ((by rw [hg]; exact (below_size (by repeat (first | (with_reducible first | exact HB.out | apply below_alloc | apply pw_below_drewN | apply below_drew1 | refine below_set ?_ (IsS56.ge HI175.out) | refine below_set ?_ GE182.out | refine below_set ?_ GE189.out | refine below_set ?_ GE203.out) | exact HB.out))) : w.heap.size ≤ gb210)); have n13_ := Aside0.mk ((by rw [hg]; exact Nat.ne_of_lt (blk_lt (g := gb182) (o := .cells #[.int .i64 (wrap64 (t176 + (wrap64 (1 + (wrap64 (Int.tmod a2 8)))))), .int .i64 t177, .slice Ao38 y190.length co38] 26 (0, 0)) (by (with_reducible repeat (first | refine blk_drewN ?_ _ | refine blk_drew ?_ | refine blk_alloc ?_ _)); exact BK182.out)) : gb182 ≠ gb210)); have n14_ := Aside0.mk ((by rw [hg]; exact Nat.ne_of_gt (blk_lt (g := gb182) (o := .cells #[.int .i64 (wrap64 (t176 + (wrap64 (1 + (wrap64 (Int.tmod a2 8)))))), .int .i64 t177, .slice Ao38 y190.length co38] 26 (0, 0)) (by (with_reducible repeat (first | refine blk_drewN ?_ _ | refine blk_drew ?_ | refine blk_alloc ?_ _)); exact BK182.out)) : gb210 ≠ gb182)); have n15_ := Aside0.mk ((by rw [hg]; exact Nat.ne_of_lt (blk_lt (g := gb189) (o := .cells #[.int .i64 t183, .int .i64 t184, .slice Ao24 t185.length co24] 26 (0, 0)) (by (with_reducible repeat (first | refine blk_drewN ?_ _ | refine blk_drew ?_ | refine blk_alloc ?_ _)); exact BK189.out)) : gb189 ≠ gb210)); have n16_ := Aside0.mk ((by rw [hg]; exact Nat.ne_of_gt (blk_lt (g := gb189) (o := .cells #[.int .i64 t183, .int .i64 t184, .slice Ao24 t185.length co24] 26 (0, 0)) (by (with_reducible repeat (first | refine blk_drewN ?_ _ | refine blk_drew ?_ | refine blk_alloc ?_ _)); exact BK189.out)) : gb210 ≠ gb189)); have n17_ := Aside0.mk ((by rw [hg]; exact Nat.ne_of_lt (blk_lt (g := gb203) (o := .cells #[.int .i64 t197, .int .i64 t198, .slice Ao49 t199.length co49] 26 (0, 0)) (by (with_reducible repeat (first | refine blk_drewN ?_ _ | refine blk_drew ?_ | refine blk_alloc ?_ _)); exact BK203.out)) : gb203 ≠ gb210)); have n18_ := Aside0.mk ((by rw [hg]; exact Nat.ne_of_gt (blk_lt (g := gb203) (o := .cells #[.int .i64 t197, .int .i64 t198, .slice Ao49 t199.length co49] 26 (0, 0)) (by (with_reducible repeat (first | refine blk_drewN ?_ _ | refine blk_drew ?_ | refine blk_alloc ?_ _)); exact BK203.out)) : gb210 ≠ gb203)); have n19_ := Aside0.mk ((by rw [hg]; exact Nat.ne_of_lt (IsS56.lt (show IsS56 w _ g175 t173 t196 from by repeat (first | (with_reducible first | exact HI175.out | apply IsS56.alloc | apply IsS56.drewN | apply IsS56.drew | apply IsS56.set_1 | refine IsS56.far ?_ NB175_182.out _ | refine IsS56.far ?_ NB175_189.out _ | refine IsS56.far ?_ NB175_203.out _) | exact HI175.out))) : g175 ≠ gb210)); have n20_ := Aside0.mk ((by rw [hg]; exact Nat.ne_of_gt (IsS56.lt (show IsS56 w _ g175 t173 t196 from by repeat (first | (with_reducible first | exact HI175.out | apply IsS56.alloc | apply IsS56.drewN | apply IsS56.drew | apply IsS56.set_1 | refine IsS56.far ?_ NB175_182.out _ | refine IsS56.far ?_ NB175_189.out _ | refine IsS56.far ?_ NB175_203.out _) | exact HI175.out))) : gb210 ≠ g175)); clear HO_190002; clear HO192; clear HO195; clear HO201; clear HO208; clear BK182; clear BK189; clear HI175; clear BK203; clear HB; have HO_190002 := n0_; have HO192 := n1_; have HO195 := n2_; have HO201 := n3_; have HO208 := n4_; have BK182 := n5_; have BK189 := n6_; have HI175 := n7_; have BK203 := n8_; have HB := n9_; have BK210 := n10_; have GW210 := n11_; have GE210 := n12_; have NB182_210 := n13_; have NB210_182 := n14_; have NB189_210 := n15_; have NB210_189 := n16_; have NB203_210 := n17_; have NB210_203 := n18_; have NB175_210 := n19_; have NB210_175 := n20_; clear n0_ n1_ n2_ n3_ n4_ n5_ n6_ n7_ n8_ n9_ n10_ n11_ n12_ n13_ n14_ n15_ n16_ n17_ n18_ n19_ n20_; clear hb hbox hg; have hnb57 := NB210_182.out; have hnc57 := NB182_210.out; have hnb58 := NB210_189.out; have hnc58 := NB189_210.out; have hnb59 := NB210_203.out; have hnc59 := NB203_210.out; have hnb60 := NB210_175.out; have hnc60 := NB175_210.out; have hcz61_0 : w56.cell? ⟨gb210, 0, none⟩ = some (.int .i64 0) := (blk_cell BK210.out 0).trans rfl; have hcz61_1 : w56.cell? ⟨gb210, 1, none⟩ = some (.int .i64 0) := (blk_cell BK210.out 1).trans rfl; have hcz61_2 : w56.cell? ⟨gb210, 2, none⟩ = some (.slice none 0 0) := (blk_cell BK210.out 2).trans rfl; have hfz61_0 := blk_frozen BK210.out 0; have hfz61_1 := blk_frozen BK210.out 1; have hfz61_2 := blk_frozen BK210.out 2; obtain ⟨Ao62, co62, eo62⟩ := Kd.R_slice HO208.out; subst eo62))
                go_ret
                exact ⟨by first | rfl | (rw [HL_.out]; rfl) | (simp [errW_none, errW_some] <;> rfl) | (simp [*, errW_none, errW_some] <;> rfl), by repeat (first | (with_reducible first | exact HB.out | apply below_alloc | apply pw_below_drewN | apply below_drew1 | refine below_set ?_ (IsS56.ge HI175.out) | refine below_set ?_ GE182.out | refine below_set ?_ GE189.out | refine below_set ?_ GE203.out | refine below_set ?_ GE210.out) | exact HB.out)⟩
              · rw [if_neg c31] at H
                have c31b0 : (t202 == 0) = false := beq_eq_false_iff_ne.mpr c31
                have c31b1 : (t202 != 0) = true := bne_iff_ne.mpr c31
                exact absurd H (by simp)
            · rw [if_neg c27] at H
              exact absurd H (by simp)
    · replace c7 := Bool.eq_false_iff.mpr c7
      subst c7
      have H1 : (some true) = some true := rfl
      clear H
      have H := H1
      clear H1
      clear H
      go_enter Try.func8, Try.ntmps8
      go_wp2_with (first | ((with_reducible refine gate_callee (f := 11) rfl ?_); refine goesL_ (some 18) rfl rfl Try.func11 (by kernel_rfl) rfl #[] rfl (by (try simp only [List.map_toArray, List.map_cons, List.map_nil]); first | done | rfl | (simp only [List.length_drop, List.length_take]; rfl)) ?_; (with_reducible refine (storagebarterlaw06_sane.calls k _ A4.out).mono ?_); rintro e w94 ⟨rfl, hb⟩; refine ⟨_, rfl, ?_⟩; have n0_ := Aside0.mk (below_step (by repeat (first | (with_reducible first | exact HB.out | apply below_alloc | apply pw_below_drewN | apply below_drew1) | exact HB.out)) hb); clear HB; have HB := n0_; clear n0_; (try clear hb); (try clear hb2); (try clear hk); (try clear hi)) | ((with_reducible refine gate_callee (f := 19) rfl ?_); refine goesL_ (some 21) rfl rfl Try.func19 (by kernel_rfl) rfl #[.slice A0 l0.length c0] rfl (by (try simp only [List.map_toArray, List.map_cons, List.map_nil]); first | done | rfl | (simp only [List.length_drop, List.length_take]; rfl)) ?_; (with_reducible refine (storagebartermake_Few.calls _ _ l0 false _ ?side1 ?side2 A6.out).mono ?_); (case side1 => repeat (first | exact (Kd.C_below HR0.out HB.out) | (with_reducible refine Kd.C_alloc ?_ _) | (with_reducible refine Kd.C_drewN ?_ _) | (with_reducible refine Kd.C_drew ?_))); (case side2 => exact HC0.out); rintro e w' ⟨rfl, ⟨nd, rfl⟩⟩; refine ⟨_, rfl, ?_⟩))
      go_ret
      exact ⟨by first | rfl | (simp [errW_none, errW_some] <;> rfl) | (simp [*, errW_none, errW_some] <;> rfl), by repeat (first | (with_reducible first | exact HB.out | apply below_alloc | apply pw_below_drewN | apply below_drew1) | exact HB.out)⟩
  · replace c5 := Bool.eq_false_iff.mpr c5
    subst c5
    have H1 : (some false) = some true := by rw [if_neg (show ¬ (false = true) by decide)] at H; exact H
    clear H
    have H := H1
    clear H1
    exact absurd H (by simp)

/-- THE ONE PURE STATEMENT of storagebarterlaw06_MatrixRows: yours. -/
def storagebarterlaw06_MatrixRows.Pure : Prop := ∀ (l0 : List Int) (a1 : Int) (a2 : Int), l0.length ≤ maxLen → l0.length * 8 ≤ 140737488351232 → (∀ x ∈ l0, (Lit.int .i64 x).wf = true) → (Lit.int .u8 a1).wf = true → (Lit.int .u8 a2).wf = true → ∃ k, storagebarterlaw06_MatrixRows.f k l0 a1 a2 = some true
theorem storagebarterlaw06_MatrixRows.walk (P : storagebarterlaw06_MatrixRows.Pure) (a0 : Option Addr) (len0 cap0 : Nat) (z0 : List Int) (a1 : Int) (a2 : Int) (w : World) (w0 : (a0 = none ∧ len0 = 0 ∧ cap0 = 0 ∧ z0 = []) ∨ ∃ x, a0 = some x ∧ len0 ≤ cap0 ∧ cap0 ≤ maxLen ∧ z0.length = cap0 ∧ (∀ i, i < z0.length → w.cell? (x.add i) = some (.int .i64 (z0.getD i 0))) ∧ ∀ n ∈ z0, (Lit.int .i64 n).wf = true) (y0 : len0 * 8 ≤ 140737488351232) (w1 : (Lit.int .u8 a1).wf = true) (w2 : (Lit.int .u8 a2).wf = true) :
    Calls Try.prog 8 #[.slice a0 len0 cap0, .int .u8 a1, .int .u8 a2] w fun e w' => e = .returned (.bool true) ∧ Below w.heap.size w w' := by
  obtain ⟨l0, rfl, hr0, hm0, hw0, hc0⟩ := ReadsInt.ofRowC w0
  obtain ⟨k, h⟩ := P l0 a1 a2 hm0 y0 hw0 w1 w2
  refine (storagebarterlaw06_MatrixRows.calls k _ _ l0 a1 a2 w (Kd.C_of_reads (d := (0 : Int)) (h1 := fun _ => rfl) hr0) hc0 h).mono ?_
  rintro e w' ⟨rfl, hd⟩
  exact ⟨rfl, hd⟩

end
end Go.Proofs.Ytbdbfnkjbbbmdaa.PMatrixRows
