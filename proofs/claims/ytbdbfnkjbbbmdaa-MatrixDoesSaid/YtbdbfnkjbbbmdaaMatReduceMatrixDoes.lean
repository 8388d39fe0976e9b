/- The walk of matrix.reduce: it brings the rows to the reduced form of the first columns, and returns their rank. -/
import Derived.Test.YtbdbfnkjbbbmdaaMatAnyMatrixDoes
import Derived.Deep.LoopGhost
import Derived.Deep.Light
import Derived.Deep.CutRange
import Derived.BigRegion
import Derived.BigQuiet
import Derived.StillTailTactics
namespace Go.Proofs.Ytbdbfnkjbbbmdaa.MatMatrixDoes
set_option linter.unusedSimpArgs false
set_option linter.unusedVariables false
open Go.RowKit Go.Proofs.Ytbdbfnkjbbbmdaa.PMatrixDoes Go.Proofs.YtbdbfnkjbbbmdaaW.PrintWords Go.Proofs.YtbdbfnkjbbbmdaaW.PrintLast Go.Proofs.Ytbdbfnkjbbbmdaa.Gf Go.Proofs.Ytbdbfnkjbbbmdaa.Lin Go.Proofs.Ytbdbfnkjbbbmdaa.MatMem
theorem belowN {B : Nat} {w w' : World} (h : Below B w w') (k : Nat) : Below B w (w'.drewN k) := ⟨h.os, h.tape, h.output, h.size, h.block⟩
/-- What reduce leaves. -/
def ReduceEnd (base g cap n W C : Nat) (M : Nat → Nat → F) (w : World) (e : Ending) (w' : World) : Prop :=
  ∃ (r : Nat) (hb' cp' : Nat → Nat) (M' : Nat → Nat → F), e = .returned (.int .i64 (r : Int)) ∧ Mat w' base g cap n W hb' cp' M' ∧ Inv n W M M' r C ∧ Below base w w'
set_option maxHeartbeats 4000000 in
set_option maxRecDepth 100000 in
theorem reduce_any (base g cap n W C : Nat) (hb cp : Nat → Nat) (M : Nat → Nat → F) (w : World) (hM : Mat w base g cap n W hb cp M) (hn : n ≤ 16) (hW : W ≤ 32) (hC : C ≤ W) :
    Calls Try.prog 40 #[.slice (some ⟨g, 0, none⟩) n cap, .int .i64 (C : Int)] w (ReduceEnd base g cap n W C M w) := by
  have HM := Aside0.mk hM
  have H0 : Aside0 (Inv n W M M 0 0) := ⟨Inv.start n W M⟩
  have HB := Aside0.mk (Below.refl base w)
  clear hM
  go_enter Try.func40, Try.ntmps40
  go_wp2
  go_loopg [5, 18] C (fun gk v5 v18 wr => ∃ (k r : Nat) (hb' cp' : Nat → Nat) (M' : Nat → Nat → F), k ≤ C ∧ gk = C - k ∧ v18 = .int .i64 k ∧ v5 = .int .i64 r ∧ r ≤ n ∧ Aside0 (Mat wr base g cap n W hb' cp' M') ∧ Aside0 (Inv n W M M' r k) ∧ Aside0 (Below base w wr))
  case atStart => exact ⟨0, 0, hb, cp, M, Nat.zero_le _, rfl, rfl, rfl, Nat.zero_le _, HM, H0, HB⟩
  case round =>
    clear HM H0 HB
    obtain ⟨k, r, hb', cp', M', hk, rfl, rfl, rfl, hr, HM, HI, HB⟩ := hrel
    by_cases hlt : k < C
    · have hlt' : (k : Int) < (C : Int) := by omega
      have hn' := hn
      go_wp2
      go_loopg [7] (n - r) (fun gi v7 wi => wi = wr ∧ ∃ i : Nat, r ≤ i ∧ i ≤ n ∧ v7 = .int .i64 i ∧ gi = n - i ∧ Aside0 (∀ t, r ≤ t → t < i → M' t k = 0))
      case atStart => exact ⟨rfl, r, Nat.le_refl _, hr, rfl, rfl, ⟨fun t a b => absurd a (by omega)⟩⟩
      case round =>
        obtain ⟨rfl, i, hri, hin, rfl, rfl, HZ⟩ := hrel
        by_cases hi : i < n
        · have hi' : (i : Int) < (n : Int) := by omega
          have c1 := HM.out.head hi
          have c2 := HM.out.elem hi (show k < W by omega)
          have kW : (k : Int) < (W : Int) := by omega
          by_cases hz : M' i k = 0
          · have hzb := val_zero hz
            go_wp2
            go_roundg (n - (i + 1))
            case measure => go_light; omega
            case rel =>
              go_light
              refine ⟨rfl, i + 1, by omega, by omega, by go_num, rfl, ⟨fun t a b => ?_⟩⟩
              by_cases e : t = i
              · subst e; exact hz
              · exact HZ.out t a (by omega)
          · have hzb := val_ne hz
            have hi3 : ((i : Int) == (n : Int)) = false := by rw [beq_eq_false_iff_ne]; omega
            have hrn : (r : Int) < (n : Int) := by omega
            have c3 := HM.out.head (show r < n by omega)
            have f1 := HM.out.top.frozen i
            have f2 := HM.out.top.frozen r
            go_upto_region 9 with fail
            go_cut [] (fun wc => Aside0 (Mat wc base g cap n W (fun t => hb' (swp r i t)) (fun t => cp' (swp r i t)) (fun a b => M' (swp r i a) b)) ∧ Aside0 (Below base w wc))
            case first =>
              by_cases e : i = r
              · subst e
                go_region
                go_wp2
                go_meet
                case rel =>
                  go_light
                  exact ⟨⟨(HM.out.swap (show i < n by omega) hi).drew⟩, ⟨((HB.out.setCell (p := ⟨g, i, none⟩) HM.out.base_g _).setCell (p := ⟨g, i, none⟩) HM.out.base_g _).drew⟩⟩
              · go_region
                go_wp2
                go_meet
                case rel =>
                  go_light
                  exact ⟨⟨(HM.out.swap (show r < n by omega) hi).drew⟩, ⟨((HB.out.setCell (p := ⟨g, r, none⟩) HM.out.base_g _).setCell (p := ⟨g, i, none⟩) HM.out.base_g _).drew⟩⟩
            case rest =>
              obtain ⟨HM2, HB2⟩ := hcut
              obtain ⟨M2, hM2⟩ : ∃ f, f = fun a b => M' (swp r i a) b := ⟨_, rfl⟩
              rw [← hM2] at HM2
              generalize (fun t => hb' (swp r i t)) = hb2 at HM2
              generalize (fun t => cp' (swp r i t)) = cp2 at HM2
              have E2 := Aside0.mk hM2
              have hne : M2 r k ≠ 0 := by
                rw [hM2]
                show M' (swp r i r) k ≠ 0
                have : swp r i r = i := by unfold swp; rw [if_pos rfl]
                rw [this]; exact hz
              have HNE := Aside0.mk hne
              clear hM2 hne HM HB c1 c2 c3 f1 f2 hz hzb
              have hrn2 : r < n := by omega
              have c3 := HM2.out.head hrn2
              have c4 := HM2.out.elem hrn2 (show k < W by omega)
              go_upto_block 4 with (go_at_call 36; (with_reducible refine (inv_any _ HNE.out _).mono ?_); rintro e w' ⟨rfl, ⟨nd, rfl⟩⟩)
              go_cut [] (fun wc => Aside0 (Mat wc base g cap n W hb2 cp2 (fun a b => if a = r then mul (M2 a b) (inv (M2 r k)) else M2 a b)) ∧ Aside0 (Below base w wc))
              case first =>
                go_wp2_with fail
                go_loopg [72] W (fun gj v72 wj => ∃ j : Nat, j ≤ W ∧ gj = W - j ∧ v72 = .int .i64 j ∧ Aside0 (Mat wj base g cap n W hb2 cp2 (fun a b => if a = r ∧ b < j then mul (M2 a b) (inv (M2 r k)) else M2 a b)) ∧ Aside0 (Below base w wj))
                case atStart =>
                  go_light
                  exact ⟨0, Nat.zero_le _, rfl, rfl, ⟨(HM2.out.drewN _).congr fun a _ b _ => by simp⟩, ⟨belowN HB2.out _⟩⟩
                case round =>
                  clear HM2 HB2
                  obtain ⟨j, hj, rfl, rfl, HM3, HB3⟩ := hrel
                  by_cases hjW : j < W
                  · have hjW' : (j : Int) < (W : Int) := by omega
                    have c5 := HM3.out.head hrn2
                    have c6 : wr.cell? ⟨hb2 r, j, none⟩ = some (.int .i64 ((M2 r j).val : Int)) := by simpa using HM3.out.elem hrn2 hjW
                    have f6 := (HM3.out.row r hrn2).frozen j
                    go_upto_region 14 with fail
                    go_region_with (go_at_call 42; (with_reducible refine (mul_any _ _ _).mono ?_); rintro e w' ⟨rfl, ⟨nd, rfl⟩⟩)
                    all_goals
                      go_wp2
                      go_roundg (W - (j + 1))
                      case measure => go_light; omega
                      case rel =>
                        go_light
                        refine ⟨j + 1, by omega, rfl, by go_num, ⟨((HM3.out.drewN _).store (b := j) hrn2 _).congr fun a _ b _ => ?_⟩, ⟨(belowN HB3.out _).setCell (HM3.out.base_h r hrn2) _⟩⟩
                        by_cases ea : a = r
                        · subst ea
                          by_cases eb : b = j
                          · subst eb; simp
                          · by_cases lb : b < j
                            · simp [eb, lb, show b < j + 1 by omega]
                            · simp [eb, lb, show ¬ b < j + 1 by omega]
                        · simp [ea]
                  · have hjW' : ¬ (j : Int) < (W : Int) := by omega
                    go_wp2
                    go_meet
                    case rel =>
                      go_light
                      exact ⟨⟨HM3.out.congr fun a _ b hb => by simp [show b < j by omega]⟩, HB3⟩
              case rest =>
                obtain ⟨HM3, HB3⟩ := hcut
                obtain ⟨M3, hM3⟩ : ∃ f, f = fun a b => if a = r then mul (M2 a b) (inv (M2 r k)) else M2 a b := ⟨_, rfl⟩
                rw [← hM3] at HM3
                have E3 := Aside0.mk hM3
                clear hM3 HM2 HB2 c3 c4
                go_upto_block 6 with fail
                go_cut [] (fun wc => Aside0 (Mat wc base g cap n W hb2 cp2 (fun a b => if a = r then M3 a b else add (M3 a b) (mul (M3 r b) (M3 a k)))) ∧ Aside0 (Below base w wc))
                case first =>
                  go_wp2_with fail
                  go_loopg [89] n (fun gt v89 wt => ∃ t : Nat, t ≤ n ∧ gt = n - t ∧ v89 = .int .i64 t ∧ Aside0 (Mat wt base g cap n W hb2 cp2 (fun a b => if a = r ∨ t ≤ a then M3 a b else add (M3 a b) (mul (M3 r b) (M3 a k)))) ∧ Aside0 (Below base w wt))
                  case atStart =>
                    go_light
                    exact ⟨0, Nat.zero_le _, rfl, rfl, ⟨HM3.out.congr fun a _ b _ => by simp⟩, HB3⟩
                  case round =>
                    clear HM3 HB3
                    obtain ⟨t, ht, rfl, rfl, HM4, HB4⟩ := hrel
                    by_cases htn : t < n
                    · have htn' : (t : Int) < (n : Int) := by omega
                      obtain ⟨M4, hM4⟩ : ∃ f, f = fun a b => if a = r ∨ t ≤ a then M3 a b else add (M3 a b) (mul (M3 r b) (M3 a k)) := ⟨_, rfl⟩
                      rw [← hM4] at HM4
                      have m4t : ∀ b, M4 t b = M3 t b := fun b => by rw [hM4]; simp
                      have m4r : ∀ b, M4 r b = M3 r b := fun b => by rw [hM4]; simp
                      have E4 := Aside0.mk hM4
                      have c7 := HM4.out.head htn
                      have c8 : wr.cell? ⟨hb2 t, k, none⟩ = some (.int .i64 ((M3 t k).val : Int)) := by
                        have := HM4.out.elem htn (show k < W by omega)
                        rwa [m4t] at this
                      have M4T := Aside0.mk m4t
                      have M4R := Aside0.mk m4r
                      clear hM4 m4t m4r
                      by_cases htr : t = r
                      · have htr' : ((t : Int) != (r : Int)) = false := by rw [bne_eq_false_iff_eq]; omega
                        have HTR := Aside0.mk htr
                        clear htr
                        go_wp2
                        go_roundg (n - (t + 1))
                        case measure => go_light; omega
                        case rel =>
                          go_light
                          have htr := HTR.out
                          refine ⟨t + 1, by omega, rfl, by go_num, ⟨HM4.out.congr fun a _ b _ => ?_⟩, HB4⟩
                          rw [E4.out]
                          by_cases ea : a = r
                          · simp [ea]
                          · by_cases lt : t ≤ a
                            · simp [ea, lt, show t + 1 ≤ a by omega]
                            · simp [ea, lt, show ¬ t + 1 ≤ a by omega]
                      · have htr' : ((t : Int) != (r : Int)) = true := by rw [bne_iff_ne]; omega
                        by_cases hz : M3 t k = 0
                        · have hz' : ((((M3 t k).val : Nat) : Int) != 0) = false := by rw [hz]; rfl
                          have HZ2 := Aside0.mk hz
                          clear hz
                          go_wp2
                          go_roundg (n - (t + 1))
                          case measure => go_light; omega
                          case rel =>
                            go_light
                            have hz := HZ2.out
                            refine ⟨t + 1, by omega, rfl, by go_num, ⟨HM4.out.congr fun a _ b _ => ?_⟩, HB4⟩
                            rw [E4.out]
                            by_cases ea : a = r
                            · simp [ea]
                            · by_cases et : a = t
                              · subst et
                                simp [ea, show ¬ a + 1 ≤ a by omega, hz, mul_zero, add_zero]
                              · by_cases lt : t ≤ a
                                · simp [ea, lt, show t + 1 ≤ a by omega]
                                · simp [ea, lt, show ¬ t + 1 ≤ a by omega]
                        · have hz' : ((((M3 t k).val : Nat) : Int) != 0) = true := by
                            rw [bne_iff_ne]
                            intro h
                            exact hz (Fin.ext (by simpa using h))
                          have c9 := HM4.out.head hrn2
                          clear hz
                          go_wp2
                          go_loopg [110] W (fun gj v110 wj => ∃ j : Nat, j ≤ W ∧ gj = W - j ∧ v110 = .int .i64 j ∧ Aside0 (Mat wj base g cap n W hb2 cp2 (fun a b => if a = t ∧ b < j then add (M3 t b) (mul (M3 r b) (M3 t k)) else M4 a b)) ∧ Aside0 (Below base w wj))
                          case atStart =>
                            go_light
                            exact ⟨0, Nat.zero_le _, rfl, rfl, ⟨HM4.out.congr fun a _ b _ => by simp⟩, HB4⟩
                          case round =>
                            clear HM4 HB4
                            obtain ⟨j, hj, rfl, rfl, HM5, HB5⟩ := hrel
                            by_cases hjW : j < W
                            · have hjW' : (j : Int) < (W : Int) := by omega
                              have c5 : wr.cell? ⟨hb2 r, j, none⟩ = some (.int .i64 ((M3 r j).val : Int)) := by
                                have := HM5.out.elem hrn2 hjW
                                rw [if_neg (fun h => htr h.1.symm), M4R.out] at this
                                exact this
                              have c6 : wr.cell? ⟨hb2 t, j, none⟩ = some (.int .i64 ((M3 t j).val : Int)) := by
                                have := HM5.out.elem htn hjW
                                rw [if_neg (fun h => Nat.lt_irrefl _ h.2), M4T.out] at this
                                exact this
                              have f6 := (HM5.out.row t htn).frozen j
                              have hx := xor_any (M3 t j) (mul (M3 r j) (M3 t k))
                              go_upto_region 24 with fail
                              go_region_with (go_at_call 42; (with_reducible refine (mul_any _ _ _).mono ?_); rintro e w' ⟨rfl, ⟨nd, rfl⟩⟩)
                              all_goals
                                go_wp2
                                go_roundg (W - (j + 1))
                                case measure => go_light; omega
                                case rel =>
                                  go_light
                                  refine ⟨j + 1, by omega, rfl, by go_num, ⟨((HM5.out.drewN _).store (b := j) htn _).congr fun a _ b _ => ?_⟩, ⟨(belowN HB5.out _).setCell (HM5.out.base_h t htn) _⟩⟩
                                  by_cases ea : a = t
                                  · subst ea
                                    by_cases eb : b = j
                                    · subst eb; simp
                                    · by_cases lb : b < j
                                      · simp [eb, lb, show b < j + 1 by omega]
                                      · simp [eb, lb, show ¬ b < j + 1 by omega]
                                  · simp [ea]
                            · have hjW' : ¬ (j : Int) < (W : Int) := by omega
                              go_wp2
                              go_roundg (n - (t + 1))
                              case measure => go_light; omega
                              case rel =>
                                go_light
                                refine ⟨t + 1, by omega, rfl, by go_num, ⟨HM5.out.congr fun a _ b hb => ?_⟩, HB5⟩
                                rw [E4.out]
                                by_cases ea : a = r
                                · subst ea
                                  simp [Ne.symm htr]
                                · by_cases et : a = t
                                  · subst et
                                    simp [ea, show b < j by omega, show ¬ a + 1 ≤ a by omega]
                                  · by_cases lt : t ≤ a
                                    · simp [ea, et, lt, show t + 1 ≤ a by omega]
                                    · simp [ea, et, lt, show ¬ t + 1 ≤ a by omega]
                    · have htn' : ¬ (t : Int) < (n : Int) := by omega
                      go_wp2
                      go_meet
                      case rel =>
                        go_light
                        exact ⟨⟨HM4.out.congr fun a ha b _ => by simp [show ¬ t ≤ a by omega]⟩, HB4⟩
                case rest =>
                  obtain ⟨HM4, HB4⟩ := hcut
                  go_wp2
                  go_roundg (C - (k + 1))
                  case measure => go_light; omega
                  case rel =>
                    go_light
                    refine ⟨k + 1, r + 1, hb2, cp2, _, by omega, rfl, by go_num, by go_num, by omega, HM4, ⟨HI.out.pivot (q := i) (by omega) hri hi ?_ fun a _ b _ => ?_⟩, HB4⟩
                    · have := HNE.out
                      rw [E2.out] at this
                      simpa [swp] using this
                    · rw [E3.out, E2.out]
                      by_cases ea : a = r
                      · subst ea
                        simp [swp]
                      · simp [ea, swp]
        · have hi' : ¬ (i : Int) < (n : Int) := by omega
          have hi2 : ((i : Int) == (n : Int)) = true := by rw [beq_iff_eq]; omega
          go_wp2
          go_roundg (C - (k + 1))
          case measure => go_light; omega
          case rel =>
            go_light
            exact ⟨k + 1, r, hb', cp', M', by omega, rfl, by go_num, rfl, hr, HM, ⟨HI.out.next fun t a b => HZ.out t a (by omega)⟩, HB⟩
    · have hge : ¬ (k : Int) < (C : Int) := by omega
      go_wp2
      go_ret
      go_light
      obtain rfl : k = C := by omega
      exact ⟨r, hb', cp', M', rfl, HM.out, HI.out, HB.out⟩
end Go.Proofs.Ytbdbfnkjbbbmdaa.MatMatrixDoes
