-- PRINTED BY print.sh 35421559b90ae4d0a3588c463048766b98c2df88dd9212a6774a882060cdf62d: not written by this session
import Derived.Test.YtdigfgkbcpfjmaaPFieldDoesx0
import Derived.Test.YtdigfgkbcpfjmaaPFieldDoesx1
import Derived.Test.YtdigfgkbcpfjmaaPFieldDoesx2
namespace Go.Proofs.Ytdigfgkbcpfjmaa.PFieldDoes
open Go.RowKit Go.Proofs.YtdigfgkbcpfjmaaW.PrintWords Go.Proofs.YtdigfgkbcpfjmaaW.PrintLast Go.Proofs.YtdigfgkbcpfjmaaW.PrintMore
attribute [local go_sem] max2_int min2_int max_two min_two max_three min_three max_four min_four   -- for this text's walks alone
set_option linter.unusedVariables false
set_option linter.unusedSimpArgs false

/-! ### storagebarterlaw05_FieldDoes: function 5 -/
mutual
def storagebarterlaw05_FieldDoes.l0 : Nat → Int → Int → List Int → Int → Int → Option (Bool)
  | 0, _, _, _, _, _ => none
  | k + 1, x1, x2, x38, x39, x40 => if x40 < x39 then (if 0 ≤ x40 then (if x40 < (x38.length : Int) then ((storagebartermake_Mod.f x1 16).bind fun t137 => ((some (([x1, t137] : List Int) : List Int)).bind fun y138 => (storagebarterlaw05_FieldDoes.l1 k x1 x2 (rd x38 x40) x38 x39 x40 y138 (y138.length : Int) 0))) else (none)) else (none)) else (some true)
def storagebarterlaw05_FieldDoes.l1 : Nat → Int → Int → Int → List Int → Int → Int → List Int → Int → Int → Option (Bool)
  | 0, _, _, _, _, _, _, _, _, _ => none
  | k + 1, x1, x2, x8, x38, x39, x40, x47, x48, x49 => if x49 < x48 then (if 0 ≤ x49 then (if x49 < (x47.length : Int) then ((field_Add.f x8 (rd x47 x49)).bind fun bt142 => ((storagebarterref05_Add.f x8 (rd x47 x49)).bind fun bt144 => ((field_Mul.f k x8 (rd x47 x49)).bind fun bt146 => ((storagebarterref05_Mul.f k x8 (rd x47 x49)).bind fun bt148 => (if bt142.1 = bt144.1 then (if bt142.2 = bt144.2 then (if bt146.1 = bt148.1 then (if bt146.2 = bt148.2 then (storagebarterlaw05_FieldDoes.l1 k x1 x2 x8 x38 x39 x40 x47 x48 (wrap64 (x49 + 1))) else (some false)) else (some false)) else (some false)) else (some false)))))) else (none)) else (none)) else ((field_Inverse.f k x8).bind fun bt150 => ((storagebarterref05_Inverse.f k x8).bind fun bt152 => ((field_Log.f k x8).bind fun bt154 => ((storagebarterref05_Log.f k x8).bind fun bt156 => (if bt150.1 = bt152.1 then (if bt150.2 = bt152.2 then (if bt154.1 = bt156.1 then (storagebarterlaw05_FieldDoes.j2 k x1 x2 x8 x38 x39 x40 (bt154.2 != bt156.2)) else (storagebarterlaw05_FieldDoes.j2 k x1 x2 x8 x38 x39 x40 true)) else (storagebarterlaw05_FieldDoes.j2 k x1 x2 x8 x38 x39 x40 true)) else (storagebarterlaw05_FieldDoes.j2 k x1 x2 x8 x38 x39 x40 true))))))
def storagebarterlaw05_FieldDoes.j2 : Nat → Int → Int → Int → List Int → Int → Int → Bool → Option (Bool)
  | 0, _, _, _, _, _, _, _ => none
  | k + 1, x1, x2, x8, x38, x39, x40, x133 => if x133 = true then (some false) else ((storagebartermake_Mod.f x2 40).bind fun t158 => ((some (([x2, wrap64 (t158 - 20)] : List Int) : List Int)).bind fun y159 => (storagebarterlaw05_FieldDoes.l2 k x1 x2 x8 x38 x39 x40 y159 (y159.length : Int) 0)))
def storagebarterlaw05_FieldDoes.l2 : Nat → Int → Int → Int → List Int → Int → Int → List Int → Int → Int → Option (Bool)
  | 0, _, _, _, _, _, _, _, _, _ => none
  | k + 1, x1, x2, x8, x38, x39, x40, x138, x139, x140 => if x140 < x139 then (if 0 ≤ x140 then (if x140 < (x138.length : Int) then ((field_Power.f k x8 (rd x138 x140)).bind fun bt163 => ((storagebarterref05_Power.f k x8 (rd x138 x140)).bind fun bt165 => (if bt163.1 = bt165.1 then (if bt163.2 = bt165.2 then (storagebarterlaw05_FieldDoes.l2 k x1 x2 x8 x38 x39 x40 x138 x139 (wrap64 (x140 + 1))) else (some false)) else (some false)))) else (none)) else (none)) else (storagebarterlaw05_FieldDoes.l0 k x1 x2 x38 x39 (wrap64 (x40 + 1)))
end
def storagebarterlaw05_FieldDoes.f (k : Nat) (a0 : Int) (a1 : Int) (a2 : Int) : Option (Bool) := (storagebarterlaw05_sane.f k).bind fun t131 => (if t131 = true then ((storagebartermake_Mod.f a0 16).bind fun t132 => ((some (([a0, t132] : List Int) : List Int)).bind fun y133 => (storagebarterlaw05_FieldDoes.l0 k a1 a2 y133 (y133.length : Int) 0))) else (some false))
theorem storagebarterlaw05_FieldDoes.mono_l : ∀ k, (∀ y0 y1 y2 y3 y4, LeO (storagebarterlaw05_FieldDoes.l0 k y0 y1 y2 y3 y4) (storagebarterlaw05_FieldDoes.l0 (k + 1) y0 y1 y2 y3 y4)) ∧ (∀ y0 y1 y2 y3 y4 y5 y6 y7 y8, LeO (storagebarterlaw05_FieldDoes.l1 k y0 y1 y2 y3 y4 y5 y6 y7 y8) (storagebarterlaw05_FieldDoes.l1 (k + 1) y0 y1 y2 y3 y4 y5 y6 y7 y8)) ∧ (∀ y0 y1 y2 y3 y4 y5 y6, LeO (storagebarterlaw05_FieldDoes.j2 k y0 y1 y2 y3 y4 y5 y6) (storagebarterlaw05_FieldDoes.j2 (k + 1) y0 y1 y2 y3 y4 y5 y6)) ∧ (∀ y0 y1 y2 y3 y4 y5 y6 y7 y8, LeO (storagebarterlaw05_FieldDoes.l2 k y0 y1 y2 y3 y4 y5 y6 y7 y8) (storagebarterlaw05_FieldDoes.l2 (k + 1) y0 y1 y2 y3 y4 y5 y6 y7 y8))
  | 0 => ⟨fun _ _ _ _ _ r h => by simp [storagebarterlaw05_FieldDoes.l0] at h, fun _ _ _ _ _ _ _ _ _ r h => by simp [storagebarterlaw05_FieldDoes.l1] at h, fun _ _ _ _ _ _ _ r h => by simp [storagebarterlaw05_FieldDoes.j2] at h, fun _ _ _ _ _ _ _ _ _ r h => by simp [storagebarterlaw05_FieldDoes.l2] at h⟩
  | k + 1 => by
    obtain ⟨ih0, ih1, ih2, ih3⟩ := storagebarterlaw05_FieldDoes.mono_l k
    refine ⟨?_, ?_, ?_, ?_⟩
    · intro y0 y1 y2 y3 y4
      unfold storagebarterlaw05_FieldDoes.l0
      repeat' first
      | (with_reducible exact ih0 _ _ _ _ _)
      | (with_reducible exact ih1 _ _ _ _ _ _ _ _ _)
      | (with_reducible exact ih2 _ _ _ _ _ _ _)
      | (with_reducible exact ih3 _ _ _ _ _ _ _ _ _)
      | (with_reducible exact field_Inverse.mono _ _)
      | (with_reducible exact field_Log.mono _ _)
      | (with_reducible exact field_Mul.mono _ _ _)
      | (with_reducible exact field_Power.mono _ _ _)
      | (with_reducible exact storagebarterlaw05_sane.mono _)
      | (with_reducible exact storagebarterref05_Inverse.mono _ _)
      | (with_reducible exact storagebarterref05_Log.mono _ _)
      | (with_reducible exact storagebarterref05_Mul.mono _ _ _)
      | (with_reducible exact storagebarterref05_Power.mono _ _ _)
      | (with_reducible exact LeO.refl _)
      | (with_reducible exact LeO.none _)
      | (with_reducible refine LeO.ite ?_ ?_)
      | (with_reducible refine LeO.bind ?_ (fun _ => ?_))
      | exact ih0 _ _ _ _ _
      | exact ih1 _ _ _ _ _ _ _ _ _
      | exact ih2 _ _ _ _ _ _ _
      | exact ih3 _ _ _ _ _ _ _ _ _
      | exact field_Inverse.mono _ _
      | exact field_Log.mono _ _
      | exact field_Mul.mono _ _ _
      | exact field_Power.mono _ _ _
      | exact storagebarterlaw05_sane.mono _
      | exact storagebarterref05_Inverse.mono _ _
      | exact storagebarterref05_Log.mono _ _
      | exact storagebarterref05_Mul.mono _ _ _
      | exact storagebarterref05_Power.mono _ _ _
      | exact LeO.none _
      | refine LeO.ite ?_ ?_
      | refine LeO.bind ?_ (fun _ => ?_)
    · intro y0 y1 y2 y3 y4 y5 y6 y7 y8
      unfold storagebarterlaw05_FieldDoes.l1
      repeat' first
      | (with_reducible exact ih0 _ _ _ _ _)
      | (with_reducible exact ih1 _ _ _ _ _ _ _ _ _)
      | (with_reducible exact ih2 _ _ _ _ _ _ _)
      | (with_reducible exact ih3 _ _ _ _ _ _ _ _ _)
      | (with_reducible exact field_Inverse.mono _ _)
      | (with_reducible exact field_Log.mono _ _)
      | (with_reducible exact field_Mul.mono _ _ _)
      | (with_reducible exact field_Power.mono _ _ _)
      | (with_reducible exact storagebarterlaw05_sane.mono _)
      | (with_reducible exact storagebarterref05_Inverse.mono _ _)
      | (with_reducible exact storagebarterref05_Log.mono _ _)
      | (with_reducible exact storagebarterref05_Mul.mono _ _ _)
      | (with_reducible exact storagebarterref05_Power.mono _ _ _)
      | (with_reducible exact LeO.refl _)
      | (with_reducible exact LeO.none _)
      | (with_reducible refine LeO.ite ?_ ?_)
      | (with_reducible refine LeO.bind ?_ (fun _ => ?_))
      | exact ih0 _ _ _ _ _
      | exact ih1 _ _ _ _ _ _ _ _ _
      | exact ih2 _ _ _ _ _ _ _
      | exact ih3 _ _ _ _ _ _ _ _ _
      | exact field_Inverse.mono _ _
      | exact field_Log.mono _ _
      | exact field_Mul.mono _ _ _
      | exact field_Power.mono _ _ _
      | exact storagebarterlaw05_sane.mono _
      | exact storagebarterref05_Inverse.mono _ _
      | exact storagebarterref05_Log.mono _ _
      | exact storagebarterref05_Mul.mono _ _ _
      | exact storagebarterref05_Power.mono _ _ _
      | exact LeO.none _
      | refine LeO.ite ?_ ?_
      | refine LeO.bind ?_ (fun _ => ?_)
    · intro y0 y1 y2 y3 y4 y5 y6
      unfold storagebarterlaw05_FieldDoes.j2
      repeat' first
      | (with_reducible exact ih0 _ _ _ _ _)
      | (with_reducible exact ih1 _ _ _ _ _ _ _ _ _)
      | (with_reducible exact ih2 _ _ _ _ _ _ _)
      | (with_reducible exact ih3 _ _ _ _ _ _ _ _ _)
      | (with_reducible exact field_Inverse.mono _ _)
      | (with_reducible exact field_Log.mono _ _)
      | (with_reducible exact field_Mul.mono _ _ _)
      | (with_reducible exact field_Power.mono _ _ _)
      | (with_reducible exact storagebarterlaw05_sane.mono _)
      | (with_reducible exact storagebarterref05_Inverse.mono _ _)
      | (with_reducible exact storagebarterref05_Log.mono _ _)
      | (with_reducible exact storagebarterref05_Mul.mono _ _ _)
      | (with_reducible exact storagebarterref05_Power.mono _ _ _)
      | (with_reducible exact LeO.refl _)
      | (with_reducible exact LeO.none _)
      | (with_reducible refine LeO.ite ?_ ?_)
      | (with_reducible refine LeO.bind ?_ (fun _ => ?_))
      | exact ih0 _ _ _ _ _
      | exact ih1 _ _ _ _ _ _ _ _ _
      | exact ih2 _ _ _ _ _ _ _
      | exact ih3 _ _ _ _ _ _ _ _ _
      | exact field_Inverse.mono _ _
      | exact field_Log.mono _ _
      | exact field_Mul.mono _ _ _
      | exact field_Power.mono _ _ _
      | exact storagebarterlaw05_sane.mono _
      | exact storagebarterref05_Inverse.mono _ _
      | exact storagebarterref05_Log.mono _ _
      | exact storagebarterref05_Mul.mono _ _ _
      | exact storagebarterref05_Power.mono _ _ _
      | exact LeO.none _
      | refine LeO.ite ?_ ?_
      | refine LeO.bind ?_ (fun _ => ?_)
    · intro y0 y1 y2 y3 y4 y5 y6 y7 y8
      unfold storagebarterlaw05_FieldDoes.l2
      repeat' first
      | (with_reducible exact ih0 _ _ _ _ _)
      | (with_reducible exact ih1 _ _ _ _ _ _ _ _ _)
      | (with_reducible exact ih2 _ _ _ _ _ _ _)
      | (with_reducible exact ih3 _ _ _ _ _ _ _ _ _)
      | (with_reducible exact field_Inverse.mono _ _)
      | (with_reducible exact field_Log.mono _ _)
      | (with_reducible exact field_Mul.mono _ _ _)
      | (with_reducible exact field_Power.mono _ _ _)
      | (with_reducible exact storagebarterlaw05_sane.mono _)
      | (with_reducible exact storagebarterref05_Inverse.mono _ _)
      | (with_reducible exact storagebarterref05_Log.mono _ _)
      | (with_reducible exact storagebarterref05_Mul.mono _ _ _)
      | (with_reducible exact storagebarterref05_Power.mono _ _ _)
      | (with_reducible exact LeO.refl _)
      | (with_reducible exact LeO.none _)
      | (with_reducible refine LeO.ite ?_ ?_)
      | (with_reducible refine LeO.bind ?_ (fun _ => ?_))
      | exact ih0 _ _ _ _ _
      | exact ih1 _ _ _ _ _ _ _ _ _
      | exact ih2 _ _ _ _ _ _ _
      | exact ih3 _ _ _ _ _ _ _ _ _
      | exact field_Inverse.mono _ _
      | exact field_Log.mono _ _
      | exact field_Mul.mono _ _ _
      | exact field_Power.mono _ _ _
      | exact storagebarterlaw05_sane.mono _
      | exact storagebarterref05_Inverse.mono _ _
      | exact storagebarterref05_Log.mono _ _
      | exact storagebarterref05_Mul.mono _ _ _
      | exact storagebarterref05_Power.mono _ _ _
      | exact LeO.none _
      | refine LeO.ite ?_ ?_
      | refine LeO.bind ?_ (fun _ => ?_)
theorem storagebarterlaw05_FieldDoes.mono : ∀ a0 a1 a2 k, LeO (storagebarterlaw05_FieldDoes.f k a0 a1 a2) (storagebarterlaw05_FieldDoes.f (k + 1) a0 a1 a2) := by
  intro a0 a1 a2 k
  obtain ⟨ih0, ih1, ih2, ih3⟩ := storagebarterlaw05_FieldDoes.mono_l k
  unfold storagebarterlaw05_FieldDoes.f
  repeat' first
      | (with_reducible exact ih0 _ _ _ _ _)
      | (with_reducible exact ih1 _ _ _ _ _ _ _ _ _)
      | (with_reducible exact ih2 _ _ _ _ _ _ _)
      | (with_reducible exact ih3 _ _ _ _ _ _ _ _ _)
      | (with_reducible exact field_Inverse.mono _ _)
      | (with_reducible exact field_Log.mono _ _)
      | (with_reducible exact field_Mul.mono _ _ _)
      | (with_reducible exact field_Power.mono _ _ _)
      | (with_reducible exact storagebarterlaw05_sane.mono _)
      | (with_reducible exact storagebarterref05_Inverse.mono _ _)
      | (with_reducible exact storagebarterref05_Log.mono _ _)
      | (with_reducible exact storagebarterref05_Mul.mono _ _ _)
      | (with_reducible exact storagebarterref05_Power.mono _ _ _)
      | (with_reducible exact LeO.refl _)
      | (with_reducible exact LeO.none _)
      | (with_reducible refine LeO.ite ?_ ?_)
      | (with_reducible refine LeO.bind ?_ (fun _ => ?_))
      | exact ih0 _ _ _ _ _
      | exact ih1 _ _ _ _ _ _ _ _ _
      | exact ih2 _ _ _ _ _ _ _
      | exact ih3 _ _ _ _ _ _ _ _ _
      | exact field_Inverse.mono _ _
      | exact field_Log.mono _ _
      | exact field_Mul.mono _ _ _
      | exact field_Power.mono _ _ _
      | exact storagebarterlaw05_sane.mono _
      | exact storagebarterref05_Inverse.mono _ _
      | exact storagebarterref05_Log.mono _ _
      | exact storagebarterref05_Mul.mono _ _ _
      | exact storagebarterref05_Power.mono _ _ _
      | exact LeO.none _
      | refine LeO.ite ?_ ?_
      | refine LeO.bind ?_ (fun _ => ?_)
set_option maxHeartbeats 8000000 in
set_option maxRecDepth 100000 in
theorem storagebarterlaw05_FieldDoes.calls (k : Nat) (a0 : Int) (a1 : Int) (a2 : Int) (r : Bool) (w : World) (h : storagebarterlaw05_FieldDoes.f k a0 a1 a2 = some r) :
    Calls Try.prog 5 #[.int .i64 a0, .int .i64 a1, .int .i64 a2] w fun e w' => e = .returned (.bool r) ∧ Below w.heap.size w w' := by
  have HB := Aside0.mk (Below.refl w.heap.size w)
  have H : ((storagebarterlaw05_sane.f k).bind fun t131 => (if t131 = true then ((storagebartermake_Mod.f a0 16).bind fun t132 => ((some (([a0, t132] : List Int) : List Int)).bind fun y133 => (storagebarterlaw05_FieldDoes.l0 k a1 a2 y133 (y133.length : Int) 0))) else (some false))) = some r := h
  clear h
  replace H := Option.bind_eq_some_iff.mp H
  obtain ⟨t131, A40, H⟩ := H
  replace H : (if t131 = true then ((storagebartermake_Mod.f a0 16).bind fun t132 => ((some (([a0, t132] : List Int) : List Int)).bind fun y133 => (storagebarterlaw05_FieldDoes.l0 k a1 a2 y133 (y133.length : Int) 0))) else (some false)) = some r := H
  have A4 := Aside0.mk A40
  clear A40
  by_cases c5 : t131 = true
  · subst c5
    have H1 : ((storagebartermake_Mod.f a0 16).bind fun t132 => ((some (([a0, t132] : List Int) : List Int)).bind fun y133 => (storagebarterlaw05_FieldDoes.l0 k a1 a2 y133 (y133.length : Int) 0))) = some r := by rw [if_pos rfl] at H; exact H
    clear H
    have H := H1
    clear H1
    replace H := Option.bind_eq_some_iff.mp H
    obtain ⟨t132, A60, H⟩ := H
    replace H : ((some (([a0, t132] : List Int) : List Int)).bind fun y133 => (storagebarterlaw05_FieldDoes.l0 k a1 a2 y133 (y133.length : Int) 0)) = some r := H
    have A6 := Aside0.mk A60
    clear A60
    obtain ⟨y133, hy133⟩ : ∃ y_ : List Int, y_ = (([a0, t132] : List Int)) := ⟨_, rfl⟩
    replace H : (storagebarterlaw05_FieldDoes.l0 k a1 a2 y133 (y133.length : Int) 0) = some r := by first | (rw [hy133]; with_reducible exact H) | (have H2_ := (Option.bind_some _ _).symm.trans H; rw [hy133]; with_reducible exact H2_) | (have H2_ := (Option.bind_some _ _).symm.trans H; with_reducible exact H2_) | with_reducible exact H | (rw [hy133]; exact H) | exact H
    have Ny133 := Aside0.mk hy133
    clear hy133
    have H' := Aside0.mk H
    clear H
    go_enter Try.func5, Try.ntmps5
    go_wp2_with (first | ((with_reducible refine gate_callee (f := 8) rfl ?_); refine goesL_ (some 33) rfl rfl Try.func8 (by kernel_rfl) rfl #[] rfl (by (try simp only [List.map_toArray, List.map_cons, List.map_nil]); first | done | rfl | (simp only [List.length_drop, List.length_take]; rfl)) ?_; (with_reducible refine (storagebarterlaw05_sane.calls k  true _ A4.out).mono ?_); rintro e w' ⟨rfl, ⟨nd, rfl⟩⟩; refine ⟨_, rfl, ?_⟩) | ((with_reducible refine gate_callee (f := 14) rfl ?_); refine goesL_ (some 37) rfl rfl Try.func14 (by kernel_rfl) rfl #[.int .i64 a0, .int .i64 16] rfl (by (try simp only [List.map_toArray, List.map_cons, List.map_nil]); first | done | rfl | (simp only [List.length_drop, List.length_take]; rfl)) ?_; (with_reducible refine (storagebartermake_Mod.calls a0 16 t132 _ A6.out).mono ?_); rintro e w' ⟨rfl, ⟨nd, rfl⟩⟩; refine ⟨_, rfl, ?_⟩) | ((with_reducible refine gate_dst (N := 38) rfl ?_); refine Kd.R_lit (Kd.int .i64) _ 3 ?hg (N := 38) ?hd (xs := ([a0, t132] : List Int)) (inner := [.int .i64 a0, .int .i64 t132]) (ok := fun _ => True) (okp := fun _ => True) ?hr ?hp (fun _ hk => hk) trivial (Below.refl _ _) (Nat.le_refl _) (by simp) ?_; (case hd => rfl); (case hg => rfl); (case hr => first | (go_simp; done) | (go_simp; rfl)); (case hp => exact (Reps.one (show Kd.M (Kd.int .i64) _ _ _ a0 [.int .i64 a0] from rfl) (Reps.one (show Kd.M (Kd.int .i64) _ _ _ t132 [.int .i64 t132] from rfl) (Reps.none _ _)))); intro v134 w7 ho8 hb hg_ hnew_; clear hg_ hnew_; (first | rw [← Ny133.out] at ho8 | (simp only [Int.reduceToNat] at ho8; rw [← Ny133.out] at ho8)); have n0_ := Aside0.mk (Kd.R_lower ho8 (below_size (by repeat (first | (with_reducible first | exact HB.out | apply below_alloc | apply pw_below_drewN | apply below_drew1) | exact HB.out)))); have n1_ := Aside0.mk (below_step (by repeat (first | (with_reducible first | exact HB.out | apply below_alloc | apply pw_below_drewN | apply below_drew1) | exact HB.out)) hb); clear HB; have HO135 := n0_; have HB := n1_; clear n0_ n1_; clear hb ho8; obtain ⟨Ao9, co9, eo9⟩ := Kd.R_slice HO135.out; subst eo9))
    go_loopg [40] k (fun kq v40 w' => ∃ (x40_1 : Int), v40 = .int .i64 x40_1 ∧ Aside0 (storagebarterlaw05_FieldDoes.l0 kq a1 a2 y133 (y133.length : Int) x40_1 = some r) ∧ Aside0 (kq ≤ k) ∧ Aside0 (Kd.R (Kd.int .i64) 3 w' w.heap.size (fun _ => True) (.slice Ao9 y133.length co9) y133) ∧ Aside0 (Below w.heap.size w w'))
    case atStart => exact ⟨(0), (by first | rfl | (simp; done) | (simp [*]; done)), H', ⟨Nat.le_refl _⟩, ⟨by (with_reducible repeat (first | apply Kd.R_alloc | apply Kd.R_drewN | apply Kd.R_drew)); exact HO135.out⟩, ⟨by repeat (first | (with_reducible first | exact HB.out | apply below_alloc | apply pw_below_drewN | apply below_drew1) | exact HB.out)⟩⟩
    case round =>
      clear H'
      try clear c1
      try clear p2
      try clear c5
      try clear c8
      obtain ⟨x40_1, rfl, HA, HK1, HO_38, HB⟩ := hrel
      cases gk with
      | zero => exact absurd HA.out (by simp [storagebarterlaw05_FieldDoes.l0])
      | succ k1 =>
        have H := HA.out
        clear HA
        simp only [storagebarterlaw05_FieldDoes.l0] at H
        by_cases c10 : x40_1 < (y133.length : Int)
        · rw [if_pos c10] at H
          have c10b0 : decide (x40_1 < (y133.length : Int)) = true := decide_eq_true c10
          clear c10
          by_cases c11 : 0 ≤ x40_1
          · rw [if_pos c11] at H
            have c11b0 : decide (0 ≤ x40_1) = true := decide_eq_true c11
            clear c11
            by_cases c12 : x40_1 < (y133.length : Int)
            · rw [if_pos c12] at H
              have c12b0 : decide (x40_1 < (y133.length : Int)) = true := decide_eq_true c12
              clear c12
              replace H := Option.bind_eq_some_iff.mp H
              obtain ⟨t137, A130, H⟩ := H
              replace H : ((some (([a1, t137] : List Int) : List Int)).bind fun y138 => (storagebarterlaw05_FieldDoes.l1 k1 a1 a2 (rd y133 x40_1) y133 (y133.length : Int) x40_1 y138 (y138.length : Int) 0)) = some r := H
              have A13 := Aside0.mk A130
              clear A130
              obtain ⟨y138, hy138⟩ : ∃ y_ : List Int, y_ = (([a1, t137] : List Int)) := ⟨_, rfl⟩
              replace H : (storagebarterlaw05_FieldDoes.l1 k1 a1 a2 (rd y133 x40_1) y133 (y133.length : Int) x40_1 y138 (y138.length : Int) 0) = some r := by first | (rw [hy138]; with_reducible exact H) | (have H2_ := (Option.bind_some _ _).symm.trans H; rw [hy138]; with_reducible exact H2_) | (have H2_ := (Option.bind_some _ _).symm.trans H; with_reducible exact H2_) | with_reducible exact H | (rw [hy138]; exact H) | exact H
              have Ny138 := Aside0.mk hy138
              clear hy138
              have H' := Aside0.mk H
              clear H
              have p136 : 0 ≤ (x40_1 : Int) := of_decide_eq_true (by first | (with_reducible assumption) | assumption)
              have q136 : x40_1 < (y133.length : Int) := of_decide_eq_true (by first | (with_reducible assumption) | assumption)
              obtain ⟨ad136, e136, hx136_0⟩ := Kd.at_int (Kd.R_reads' HO_38.out).2.2 x40_1 p136 q136
              cases e136
              replace p136 := eq_true p136
              replace q136 := eq_true q136
              go_wp2_with (first | ((with_reducible refine gate_callee (f := 14) rfl ?_); refine goesL_ (some 46) rfl rfl Try.func14 (by kernel_rfl) rfl #[.int .i64 a1, .int .i64 16] rfl (by (try simp only [List.map_toArray, List.map_cons, List.map_nil]); first | done | rfl | (simp only [List.length_drop, List.length_take]; rfl)) ?_; (with_reducible refine (storagebartermake_Mod.calls a1 16 t137 _ A13.out).mono ?_); rintro e w' ⟨rfl, ⟨nd, rfl⟩⟩; refine ⟨_, rfl, ?_⟩) | ((with_reducible refine gate_dst (N := 47) rfl ?_); refine Kd.R_lit (Kd.int .i64) _ 3 ?hg (N := 47) ?hd (xs := ([a1, t137] : List Int)) (inner := [.int .i64 a1, .int .i64 t137]) (ok := fun _ => True) (okp := fun _ => True) ?hr ?hp (fun _ hk => hk) trivial (Below.refl _ _) (Nat.le_refl _) (by simp) ?_; (case hd => rfl); (case hg => rfl); (case hr => first | (go_simp; done) | (go_simp; rfl)); (case hp => exact (Reps.one (show Kd.M (Kd.int .i64) _ _ _ a1 [.int .i64 a1] from rfl) (Reps.one (show Kd.M (Kd.int .i64) _ _ _ t137 [.int .i64 t137] from rfl) (Reps.none _ _)))); intro v139 w14 ho15 hb hg_ hnew_; clear hg_ hnew_; (first | rw [← Ny138.out] at ho15 | (simp only [Int.reduceToNat] at ho15; rw [← Ny138.out] at ho15)); have n0_ := Aside0.mk (Kd.R_elder' (by (with_reducible repeat (first | apply Kd.R_alloc | apply Kd.R_drewN | apply Kd.R_drew)); exact HO_38.out) (Kd.R_base ho15) hb); have n1_ := Aside0.mk (Kd.R_lower (Kd.R_new' ho15 (Kd.R_lt (by (with_reducible repeat (first | apply Kd.R_alloc | apply Kd.R_drewN | apply Kd.R_drew)); exact HO_38.out))) (below_size (by repeat (first | (with_reducible first | exact HB.out | apply below_alloc | apply pw_below_drewN | apply below_drew1) | exact HB.out)))); have n2_ := Aside0.mk (below_step (by repeat (first | (with_reducible first | exact HB.out | apply below_alloc | apply pw_below_drewN | apply below_drew1) | exact HB.out)) hb); clear HO_38; clear HB; have HO_38 := n0_; have HO140 := n1_; have HB := n2_; clear n0_ n1_ n2_; clear hb ho15; obtain ⟨Ao16, co16, eo16⟩ := Kd.R_slice HO140.out; subst eo16))
              go_loopg [49] k1 (fun kq v49 w' => ∃ (x49_2 : Int), v49 = .int .i64 x49_2 ∧ Aside0 (storagebarterlaw05_FieldDoes.l1 kq a1 a2 (rd y133 x40_1) y133 (y133.length : Int) x40_1 y138 (y138.length : Int) x49_2 = some r) ∧ Aside0 (kq ≤ k1) ∧ Aside0 (Kd.R (Kd.int .i64) 3 w' w.heap.size (fun k_ => some k_ ≠ ((.slice Ao16 y138.length co16) : Value).ownBlock) (.slice (some ad136) y133.length co9) y133) ∧ Aside0 (Kd.R (Kd.int .i64) 3 w' w.heap.size (fun k_ => some k_ ≠ ((.slice (some ad136) y133.length co9) : Value).ownBlock) (.slice Ao16 y138.length co16) y138) ∧ Aside0 (Below w.heap.size w w'))
              case atStart => exact ⟨(0), (by first | rfl | (simp; done) | (simp [*]; done)), H', ⟨Nat.le_refl _⟩, ⟨by (with_reducible repeat (first | apply Kd.R_alloc | apply Kd.R_drewN | apply Kd.R_drew)); exact Kd.R_mono HO_38.out (fun _ hk => hk.2)⟩, ⟨by (with_reducible repeat (first | apply Kd.R_alloc | apply Kd.R_drewN | apply Kd.R_drew)); exact Kd.R_mono HO140.out (fun _ hk => hk.2)⟩, ⟨by repeat (first | (with_reducible first | exact HB.out | apply below_alloc | apply pw_below_drewN | apply below_drew1) | exact HB.out)⟩⟩
              case round =>
                clear H'
                try clear c1
                try clear p1
                try clear q1
                try clear hx1
                try clear p2
                try clear c5
                try clear c8
                try clear c10
                try clear c10b0
                try clear c11
                try clear c11b0
                try clear c12
                try clear c12b0
                try clear p13
                try clear q13
                try clear hx13
                try clear c14
                try clear hx136_0
                try clear p136
                try clear p2
                try clear q136
                obtain ⟨x49_2, rfl, HA, HK2, HO_38, HO_47, HB⟩ := hrel
                cases gk with
                | zero => exact absurd HA.out (by simp [storagebarterlaw05_FieldDoes.l1])
                | succ k2 =>
                  have H := HA.out
                  clear HA
                  simp only [storagebarterlaw05_FieldDoes.l1] at H
                  by_cases c17 : x49_2 < (y138.length : Int)
                  · rw [if_pos c17] at H
                    have c17b0 : decide (x49_2 < (y138.length : Int)) = true := decide_eq_true c17
                    clear c17
                    by_cases c18 : 0 ≤ x49_2
                    · rw [if_pos c18] at H
                      have c18b0 : decide (0 ≤ x49_2) = true := decide_eq_true c18
                      clear c18
                      by_cases c19 : x49_2 < (y138.length : Int)
                      · rw [if_pos c19] at H
                        have c19b0 : decide (x49_2 < (y138.length : Int)) = true := decide_eq_true c19
                        clear c19
                        replace H := Option.bind_eq_some_iff.mp H
                        obtain ⟨⟨t142, t143⟩, A200, H⟩ := H
                        replace H : ((storagebarterref05_Add.f (rd y133 x40_1) (rd y138 x49_2)).bind fun bt144 => ((field_Mul.f k2 (rd y133 x40_1) (rd y138 x49_2)).bind fun bt146 => ((storagebarterref05_Mul.f k2 (rd y133 x40_1) (rd y138 x49_2)).bind fun bt148 => (if t142 = bt144.1 then (if t143 = bt144.2 then (if bt146.1 = bt148.1 then (if bt146.2 = bt148.2 then (storagebarterlaw05_FieldDoes.l1 k2 a1 a2 (rd y133 x40_1) y133 (y133.length : Int) x40_1 y138 (y138.length : Int) (wrap64 (x49_2 + 1))) else (some false)) else (some false)) else (some false)) else (some false))))) = some r := H
                        have A20 := Aside0.mk A200
                        clear A200
                        replace H := Option.bind_eq_some_iff.mp H
                        obtain ⟨⟨t144, t145⟩, A210, H⟩ := H
                        replace H : ((field_Mul.f k2 (rd y133 x40_1) (rd y138 x49_2)).bind fun bt146 => ((storagebarterref05_Mul.f k2 (rd y133 x40_1) (rd y138 x49_2)).bind fun bt148 => (if t142 = t144 then (if t143 = t145 then (if bt146.1 = bt148.1 then (if bt146.2 = bt148.2 then (storagebarterlaw05_FieldDoes.l1 k2 a1 a2 (rd y133 x40_1) y133 (y133.length : Int) x40_1 y138 (y138.length : Int) (wrap64 (x49_2 + 1))) else (some false)) else (some false)) else (some false)) else (some false)))) = some r := H
                        have A21 := Aside0.mk A210
                        clear A210
                        replace H := Option.bind_eq_some_iff.mp H
                        obtain ⟨⟨t146, t147⟩, A220, H⟩ := H
                        replace H : ((storagebarterref05_Mul.f k2 (rd y133 x40_1) (rd y138 x49_2)).bind fun bt148 => (if t142 = t144 then (if t143 = t145 then (if t146 = bt148.1 then (if t147 = bt148.2 then (storagebarterlaw05_FieldDoes.l1 k2 a1 a2 (rd y133 x40_1) y133 (y133.length : Int) x40_1 y138 (y138.length : Int) (wrap64 (x49_2 + 1))) else (some false)) else (some false)) else (some false)) else (some false))) = some r := H
                        have A22 := Aside0.mk A220
                        clear A220
                        replace H := Option.bind_eq_some_iff.mp H
                        obtain ⟨⟨t148, t149⟩, A230, H⟩ := H
                        replace H : (if t142 = t144 then (if t143 = t145 then (if t146 = t148 then (if t147 = t149 then (storagebarterlaw05_FieldDoes.l1 k2 a1 a2 (rd y133 x40_1) y133 (y133.length : Int) x40_1 y138 (y138.length : Int) (wrap64 (x49_2 + 1))) else (some false)) else (some false)) else (some false)) else (some false)) = some r := H
                        have A23 := Aside0.mk A230
                        clear A230
                        by_cases c24 : t142 = t144
                        · rw [if_pos c24] at H
                          have c24b0 : (t142 == t144) = true := beq_iff_eq.mpr c24
                          have c24b1 : (t142 != t144) = false := bne_eq_false_iff_eq.mpr c24
                          clear c24
                          by_cases c25 : t143 = t145
                          · rw [if_pos c25] at H
                            have c25b0 : (t143 == t145) = true := beq_iff_eq.mpr c25
                            have c25b1 : (t143 != t145) = false := bne_eq_false_iff_eq.mpr c25
                            clear c25
                            by_cases c26 : t146 = t148
                            · rw [if_pos c26] at H
                              have c26b0 : (t146 == t148) = true := beq_iff_eq.mpr c26
                              have c26b1 : (t146 != t148) = false := bne_eq_false_iff_eq.mpr c26
                              clear c26
                              by_cases c27 : t147 = t149
                              · rw [if_pos c27] at H
                                have c27b0 : (t147 == t149) = true := beq_iff_eq.mpr c27
                                have c27b1 : (t147 != t149) = false := bne_eq_false_iff_eq.mpr c27
                                clear c27
                                have H' := Aside0.mk H
                                clear H
                                have p141 : 0 ≤ (x49_2 : Int) := of_decide_eq_true (by first | (with_reducible assumption) | assumption)
                                have q141 : x49_2 < (y138.length : Int) := of_decide_eq_true (by first | (with_reducible assumption) | assumption)
                                obtain ⟨ad141, e141, hx141_0⟩ := Kd.at_int (Kd.R_reads' HO_47.out).2.2 x49_2 p141 q141
                                cases e141
                                replace p141 := eq_true p141
                                replace q141 := eq_true q141
                                go_wp2_with (first | ((with_reducible refine gate_callee (f := 15) rfl ?_); refine goesL_ (some 56) rfl rfl Try.func15 (by kernel_rfl) rfl #[.int .i64 (rd y133 x40_1), .int .i64 (rd y138 x49_2)] rfl (by (try simp only [List.map_toArray, List.map_cons, List.map_nil]); first | done | rfl | (simp only [List.length_drop, List.length_take]; rfl)) ?_; (with_reducible refine (field_Add.calls (rd y133 x40_1) (rd y138 x49_2) t142 t143 _ A20.out).mono ?_); rintro e w' ⟨rfl, ⟨nd, rfl⟩⟩; refine ⟨_, rfl, ?_⟩) | ((with_reducible refine gate_callee (f := 16) rfl ?_); refine goesL_ (some 62) rfl rfl Try.func16 (by kernel_rfl) rfl #[.int .i64 (rd y133 x40_1), .int .i64 (rd y138 x49_2)] rfl (by (try simp only [List.map_toArray, List.map_cons, List.map_nil]); first | done | rfl | (simp only [List.length_drop, List.length_take]; rfl)) ?_; (with_reducible refine (storagebarterref05_Add.calls (rd y133 x40_1) (rd y138 x49_2) t144 t145 _ A21.out).mono ?_); rintro e w' ⟨rfl, ⟨nd, rfl⟩⟩; refine ⟨_, rfl, ?_⟩) | ((with_reducible refine gate_callee (f := 13) rfl ?_); refine goesL_ (some 68) rfl rfl Try.func13 (by kernel_rfl) rfl #[.int .i64 (rd y133 x40_1), .int .i64 (rd y138 x49_2)] rfl (by (try simp only [List.map_toArray, List.map_cons, List.map_nil]); first | done | rfl | (simp only [List.length_drop, List.length_take]; rfl)) ?_; (with_reducible refine (field_Mul.calls k2 (rd y133 x40_1) (rd y138 x49_2) t146 t147 _ A22.out).mono ?_); rintro e w' ⟨rfl, ⟨nd, rfl⟩⟩; refine ⟨_, rfl, ?_⟩) | ((with_reducible refine gate_callee (f := 17) rfl ?_); refine goesL_ (some 74) rfl rfl Try.func17 (by kernel_rfl) rfl #[.int .i64 (rd y133 x40_1), .int .i64 (rd y138 x49_2)] rfl (by (try simp only [List.map_toArray, List.map_cons, List.map_nil]); first | done | rfl | (simp only [List.length_drop, List.length_take]; rfl)) ?_; (with_reducible refine (storagebarterref05_Mul.calls k2 (rd y133 x40_1) (rd y138 x49_2) t148 t149 _ A23.out).mono ?_); rintro e w' ⟨rfl, ⟨nd, rfl⟩⟩; refine ⟨_, rfl, ?_⟩))
                                go_roundg k2
                                case measure => have := HK1.out; have := HK2.out; omega
                                case rel => exact ⟨(wrap64 (x49_2 + 1)), (by first | rfl | (simp; done) | (simp [*]; done)), H', ⟨by have := HK1.out; have := HK2.out; omega⟩, ⟨by (with_reducible repeat (first | apply Kd.R_alloc | apply Kd.R_drewN | apply Kd.R_drew)); exact HO_38.out⟩, ⟨by (with_reducible repeat (first | apply Kd.R_alloc | apply Kd.R_drewN | apply Kd.R_drew)); exact HO_47.out⟩, ⟨by repeat (first | (with_reducible first | exact HB.out | apply below_alloc | apply pw_below_drewN | apply below_drew1) | exact HB.out)⟩⟩
                              · rw [if_neg c27] at H
                                have c27b0 : (t147 == t149) = false := beq_eq_false_iff_ne.mpr c27
                                have c27b1 : (t147 != t149) = true := bne_iff_ne.mpr c27
                                obtain rfl := Option.some.inj H
                                have p141 : 0 ≤ (x49_2 : Int) := of_decide_eq_true (by first | (with_reducible assumption) | assumption)
                                have q141 : x49_2 < (y138.length : Int) := of_decide_eq_true (by first | (with_reducible assumption) | assumption)
                                obtain ⟨ad141, e141, hx141_0⟩ := Kd.at_int (Kd.R_reads' HO_47.out).2.2 x49_2 p141 q141
                                cases e141
                                replace p141 := eq_true p141
                                replace q141 := eq_true q141
                                go_wp2_with (first | ((with_reducible refine gate_callee (f := 15) rfl ?_); refine goesL_ (some 56) rfl rfl Try.func15 (by kernel_rfl) rfl #[.int .i64 (rd y133 x40_1), .int .i64 (rd y138 x49_2)] rfl (by (try simp only [List.map_toArray, List.map_cons, List.map_nil]); first | done | rfl | (simp only [List.length_drop, List.length_take]; rfl)) ?_; (with_reducible refine (field_Add.calls (rd y133 x40_1) (rd y138 x49_2) t142 t143 _ A20.out).mono ?_); rintro e w' ⟨rfl, ⟨nd, rfl⟩⟩; refine ⟨_, rfl, ?_⟩) | ((with_reducible refine gate_callee (f := 16) rfl ?_); refine goesL_ (some 62) rfl rfl Try.func16 (by kernel_rfl) rfl #[.int .i64 (rd y133 x40_1), .int .i64 (rd y138 x49_2)] rfl (by (try simp only [List.map_toArray, List.map_cons, List.map_nil]); first | done | rfl | (simp only [List.length_drop, List.length_take]; rfl)) ?_; (with_reducible refine (storagebarterref05_Add.calls (rd y133 x40_1) (rd y138 x49_2) t144 t145 _ A21.out).mono ?_); rintro e w' ⟨rfl, ⟨nd, rfl⟩⟩; refine ⟨_, rfl, ?_⟩) | ((with_reducible refine gate_callee (f := 13) rfl ?_); refine goesL_ (some 68) rfl rfl Try.func13 (by kernel_rfl) rfl #[.int .i64 (rd y133 x40_1), .int .i64 (rd y138 x49_2)] rfl (by (try simp only [List.map_toArray, List.map_cons, List.map_nil]); first | done | rfl | (simp only [List.length_drop, List.length_take]; rfl)) ?_; (with_reducible refine (field_Mul.calls k2 (rd y133 x40_1) (rd y138 x49_2) t146 t147 _ A22.out).mono ?_); rintro e w' ⟨rfl, ⟨nd, rfl⟩⟩; refine ⟨_, rfl, ?_⟩) | ((with_reducible refine gate_callee (f := 17) rfl ?_); refine goesL_ (some 74) rfl rfl Try.func17 (by kernel_rfl) rfl #[.int .i64 (rd y133 x40_1), .int .i64 (rd y138 x49_2)] rfl (by (try simp only [List.map_toArray, List.map_cons, List.map_nil]); first | done | rfl | (simp only [List.length_drop, List.length_take]; rfl)) ?_; (with_reducible refine (storagebarterref05_Mul.calls k2 (rd y133 x40_1) (rd y138 x49_2) t148 t149 _ A23.out).mono ?_); rintro e w' ⟨rfl, ⟨nd, rfl⟩⟩; refine ⟨_, rfl, ?_⟩))
                                go_ret
                                exact ⟨by first | rfl | (simp [errW_none, errW_some] <;> rfl) | (simp [*, errW_none, errW_some] <;> rfl), by repeat (first | (with_reducible first | exact HB.out | apply below_alloc | apply pw_below_drewN | apply below_drew1) | exact HB.out)⟩
                            · rw [if_neg c26] at H
                              have c26b0 : (t146 == t148) = false := beq_eq_false_iff_ne.mpr c26
                              have c26b1 : (t146 != t148) = true := bne_iff_ne.mpr c26
                              obtain rfl := Option.some.inj H
                              have p141 : 0 ≤ (x49_2 : Int) := of_decide_eq_true (by first | (with_reducible assumption) | assumption)
                              have q141 : x49_2 < (y138.length : Int) := of_decide_eq_true (by first | (with_reducible assumption) | assumption)
                              obtain ⟨ad141, e141, hx141_0⟩ := Kd.at_int (Kd.R_reads' HO_47.out).2.2 x49_2 p141 q141
                              cases e141
                              replace p141 := eq_true p141
                              replace q141 := eq_true q141
                              go_wp2_with (first | ((with_reducible refine gate_callee (f := 15) rfl ?_); refine goesL_ (some 56) rfl rfl Try.func15 (by kernel_rfl) rfl #[.int .i64 (rd y133 x40_1), .int .i64 (rd y138 x49_2)] rfl (by (try simp only [List.map_toArray, List.map_cons, List.map_nil]); first | done | rfl | (simp only [List.length_drop, List.length_take]; rfl)) ?_; (with_reducible refine (field_Add.calls (rd y133 x40_1) (rd y138 x49_2) t142 t143 _ A20.out).mono ?_); rintro e w' ⟨rfl, ⟨nd, rfl⟩⟩; refine ⟨_, rfl, ?_⟩) | ((with_reducible refine gate_callee (f := 16) rfl ?_); refine goesL_ (some 62) rfl rfl Try.func16 (by kernel_rfl) rfl #[.int .i64 (rd y133 x40_1), .int .i64 (rd y138 x49_2)] rfl (by (try simp only [List.map_toArray, List.map_cons, List.map_nil]); first | done | rfl | (simp only [List.length_drop, List.length_take]; rfl)) ?_; (with_reducible refine (storagebarterref05_Add.calls (rd y133 x40_1) (rd y138 x49_2) t144 t145 _ A21.out).mono ?_); rintro e w' ⟨rfl, ⟨nd, rfl⟩⟩; refine ⟨_, rfl, ?_⟩) | ((with_reducible refine gate_callee (f := 13) rfl ?_); refine goesL_ (some 68) rfl rfl Try.func13 (by kernel_rfl) rfl #[.int .i64 (rd y133 x40_1), .int .i64 (rd y138 x49_2)] rfl (by (try simp only [List.map_toArray, List.map_cons, List.map_nil]); first | done | rfl | (simp only [List.length_drop, List.length_take]; rfl)) ?_; (with_reducible refine (field_Mul.calls k2 (rd y133 x40_1) (rd y138 x49_2) t146 t147 _ A22.out).mono ?_); rintro e w' ⟨rfl, ⟨nd, rfl⟩⟩; refine ⟨_, rfl, ?_⟩) | ((with_reducible refine gate_callee (f := 17) rfl ?_); refine goesL_ (some 74) rfl rfl Try.func17 (by kernel_rfl) rfl #[.int .i64 (rd y133 x40_1), .int .i64 (rd y138 x49_2)] rfl (by (try simp only [List.map_toArray, List.map_cons, List.map_nil]); first | done | rfl | (simp only [List.length_drop, List.length_take]; rfl)) ?_; (with_reducible refine (storagebarterref05_Mul.calls k2 (rd y133 x40_1) (rd y138 x49_2) t148 t149 _ A23.out).mono ?_); rintro e w' ⟨rfl, ⟨nd, rfl⟩⟩; refine ⟨_, rfl, ?_⟩))
                              go_ret
                              exact ⟨by first | rfl | (simp [errW_none, errW_some] <;> rfl) | (simp [*, errW_none, errW_some] <;> rfl), by repeat (first | (with_reducible first | exact HB.out | apply below_alloc | apply pw_below_drewN | apply below_drew1) | exact HB.out)⟩
                          · rw [if_neg c25] at H
                            have c25b0 : (t143 == t145) = false := beq_eq_false_iff_ne.mpr c25
                            have c25b1 : (t143 != t145) = true := bne_iff_ne.mpr c25
                            obtain rfl := Option.some.inj H
                            have p141 : 0 ≤ (x49_2 : Int) := of_decide_eq_true (by first | (with_reducible assumption) | assumption)
                            have q141 : x49_2 < (y138.length : Int) := of_decide_eq_true (by first | (with_reducible assumption) | assumption)
                            obtain ⟨ad141, e141, hx141_0⟩ := Kd.at_int (Kd.R_reads' HO_47.out).2.2 x49_2 p141 q141
                            cases e141
                            replace p141 := eq_true p141
                            replace q141 := eq_true q141
                            go_wp2_with (first | ((with_reducible refine gate_callee (f := 15) rfl ?_); refine goesL_ (some 56) rfl rfl Try.func15 (by kernel_rfl) rfl #[.int .i64 (rd y133 x40_1), .int .i64 (rd y138 x49_2)] rfl (by (try simp only [List.map_toArray, List.map_cons, List.map_nil]); first | done | rfl | (simp only [List.length_drop, List.length_take]; rfl)) ?_; (with_reducible refine (field_Add.calls (rd y133 x40_1) (rd y138 x49_2) t142 t143 _ A20.out).mono ?_); rintro e w' ⟨rfl, ⟨nd, rfl⟩⟩; refine ⟨_, rfl, ?_⟩) | ((with_reducible refine gate_callee (f := 16) rfl ?_); refine goesL_ (some 62) rfl rfl Try.func16 (by kernel_rfl) rfl #[.int .i64 (rd y133 x40_1), .int .i64 (rd y138 x49_2)] rfl (by (try simp only [List.map_toArray, List.map_cons, List.map_nil]); first | done | rfl | (simp only [List.length_drop, List.length_take]; rfl)) ?_; (with_reducible refine (storagebarterref05_Add.calls (rd y133 x40_1) (rd y138 x49_2) t144 t145 _ A21.out).mono ?_); rintro e w' ⟨rfl, ⟨nd, rfl⟩⟩; refine ⟨_, rfl, ?_⟩) | ((with_reducible refine gate_callee (f := 13) rfl ?_); refine goesL_ (some 68) rfl rfl Try.func13 (by kernel_rfl) rfl #[.int .i64 (rd y133 x40_1), .int .i64 (rd y138 x49_2)] rfl (by (try simp only [List.map_toArray, List.map_cons, List.map_nil]); first | done | rfl | (simp only [List.length_drop, List.length_take]; rfl)) ?_; (with_reducible refine (field_Mul.calls k2 (rd y133 x40_1) (rd y138 x49_2) t146 t147 _ A22.out).mono ?_); rintro e w' ⟨rfl, ⟨nd, rfl⟩⟩; refine ⟨_, rfl, ?_⟩) | ((with_reducible refine gate_callee (f := 17) rfl ?_); refine goesL_ (some 74) rfl rfl Try.func17 (by kernel_rfl) rfl #[.int .i64 (rd y133 x40_1), .int .i64 (rd y138 x49_2)] rfl (by (try simp only [List.map_toArray, List.map_cons, List.map_nil]); first | done | rfl | (simp only [List.length_drop, List.length_take]; rfl)) ?_; (with_reducible refine (storagebarterref05_Mul.calls k2 (rd y133 x40_1) (rd y138 x49_2) t148 t149 _ A23.out).mono ?_); rintro e w' ⟨rfl, ⟨nd, rfl⟩⟩; refine ⟨_, rfl, ?_⟩))
                            go_ret
                            exact ⟨by first | rfl | (simp [errW_none, errW_some] <;> rfl) | (simp [*, errW_none, errW_some] <;> rfl), by repeat (first | (with_reducible first | exact HB.out | apply below_alloc | apply pw_below_drewN | apply below_drew1) | exact HB.out)⟩
                        · rw [if_neg c24] at H
                          have c24b0 : (t142 == t144) = false := beq_eq_false_iff_ne.mpr c24
                          have c24b1 : (t142 != t144) = true := bne_iff_ne.mpr c24
                          obtain rfl := Option.some.inj H
                          have p141 : 0 ≤ (x49_2 : Int) := of_decide_eq_true (by first | (with_reducible assumption) | assumption)
                          have q141 : x49_2 < (y138.length : Int) := of_decide_eq_true (by first | (with_reducible assumption) | assumption)
                          obtain ⟨ad141, e141, hx141_0⟩ := Kd.at_int (Kd.R_reads' HO_47.out).2.2 x49_2 p141 q141
                          cases e141
                          replace p141 := eq_true p141
                          replace q141 := eq_true q141
                          go_wp2_with (first | ((with_reducible refine gate_callee (f := 15) rfl ?_); refine goesL_ (some 56) rfl rfl Try.func15 (by kernel_rfl) rfl #[.int .i64 (rd y133 x40_1), .int .i64 (rd y138 x49_2)] rfl (by (try simp only [List.map_toArray, List.map_cons, List.map_nil]); first | done | rfl | (simp only [List.length_drop, List.length_take]; rfl)) ?_; (with_reducible refine (field_Add.calls (rd y133 x40_1) (rd y138 x49_2) t142 t143 _ A20.out).mono ?_); rintro e w' ⟨rfl, ⟨nd, rfl⟩⟩; refine ⟨_, rfl, ?_⟩) | ((with_reducible refine gate_callee (f := 16) rfl ?_); refine goesL_ (some 62) rfl rfl Try.func16 (by kernel_rfl) rfl #[.int .i64 (rd y133 x40_1), .int .i64 (rd y138 x49_2)] rfl (by (try simp only [List.map_toArray, List.map_cons, List.map_nil]); first | done | rfl | (simp only [List.length_drop, List.length_take]; rfl)) ?_; (with_reducible refine (storagebarterref05_Add.calls (rd y133 x40_1) (rd y138 x49_2) t144 t145 _ A21.out).mono ?_); rintro e w' ⟨rfl, ⟨nd, rfl⟩⟩; refine ⟨_, rfl, ?_⟩) | ((with_reducible refine gate_callee (f := 13) rfl ?_); refine goesL_ (some 68) rfl rfl Try.func13 (by kernel_rfl) rfl #[.int .i64 (rd y133 x40_1), .int .i64 (rd y138 x49_2)] rfl (by (try simp only [List.map_toArray, List.map_cons, List.map_nil]); first | done | rfl | (simp only [List.length_drop, List.length_take]; rfl)) ?_; (with_reducible refine (field_Mul.calls k2 (rd y133 x40_1) (rd y138 x49_2) t146 t147 _ A22.out).mono ?_); rintro e w' ⟨rfl, ⟨nd, rfl⟩⟩; refine ⟨_, rfl, ?_⟩) | ((with_reducible refine gate_callee (f := 17) rfl ?_); refine goesL_ (some 74) rfl rfl Try.func17 (by kernel_rfl) rfl #[.int .i64 (rd y133 x40_1), .int .i64 (rd y138 x49_2)] rfl (by (try simp only [List.map_toArray, List.map_cons, List.map_nil]); first | done | rfl | (simp only [List.length_drop, List.length_take]; rfl)) ?_; (with_reducible refine (storagebarterref05_Mul.calls k2 (rd y133 x40_1) (rd y138 x49_2) t148 t149 _ A23.out).mono ?_); rintro e w' ⟨rfl, ⟨nd, rfl⟩⟩; refine ⟨_, rfl, ?_⟩))
                          go_ret
                          exact ⟨by first | rfl | (simp [errW_none, errW_some] <;> rfl) | (simp [*, errW_none, errW_some] <;> rfl), by repeat (first | (with_reducible first | exact HB.out | apply below_alloc | apply pw_below_drewN | apply below_drew1) | exact HB.out)⟩
                      · rw [if_neg c19] at H
                        exact absurd H (by simp)
                    · rw [if_neg c18] at H
                      exact absurd H (by simp)
                  · rw [if_neg c17] at H
                    have c17b0 : decide (x49_2 < (y138.length : Int)) = false := decide_eq_false c17
                    clear c17
                    replace H := Option.bind_eq_some_iff.mp H
                    obtain ⟨⟨t150, t151⟩, A280, H⟩ := H
                    replace H : ((storagebarterref05_Inverse.f k2 (rd y133 x40_1)).bind fun bt152 => ((field_Log.f k2 (rd y133 x40_1)).bind fun bt154 => ((storagebarterref05_Log.f k2 (rd y133 x40_1)).bind fun bt156 => (if t150 = bt152.1 then (if t151 = bt152.2 then (if bt154.1 = bt156.1 then (storagebarterlaw05_FieldDoes.j2 k2 a1 a2 (rd y133 x40_1) y133 (y133.length : Int) x40_1 (bt154.2 != bt156.2)) else (storagebarterlaw05_FieldDoes.j2 k2 a1 a2 (rd y133 x40_1) y133 (y133.length : Int) x40_1 true)) else (storagebarterlaw05_FieldDoes.j2 k2 a1 a2 (rd y133 x40_1) y133 (y133.length : Int) x40_1 true)) else (storagebarterlaw05_FieldDoes.j2 k2 a1 a2 (rd y133 x40_1) y133 (y133.length : Int) x40_1 true))))) = some r := H
                    have A28 := Aside0.mk A280
                    clear A280
                    replace H := Option.bind_eq_some_iff.mp H
                    obtain ⟨⟨t152, t153⟩, A290, H⟩ := H
                    replace H : ((field_Log.f k2 (rd y133 x40_1)).bind fun bt154 => ((storagebarterref05_Log.f k2 (rd y133 x40_1)).bind fun bt156 => (if t150 = t152 then (if t151 = t153 then (if bt154.1 = bt156.1 then (storagebarterlaw05_FieldDoes.j2 k2 a1 a2 (rd y133 x40_1) y133 (y133.length : Int) x40_1 (bt154.2 != bt156.2)) else (storagebarterlaw05_FieldDoes.j2 k2 a1 a2 (rd y133 x40_1) y133 (y133.length : Int) x40_1 true)) else (storagebarterlaw05_FieldDoes.j2 k2 a1 a2 (rd y133 x40_1) y133 (y133.length : Int) x40_1 true)) else (storagebarterlaw05_FieldDoes.j2 k2 a1 a2 (rd y133 x40_1) y133 (y133.length : Int) x40_1 true)))) = some r := H
                    have A29 := Aside0.mk A290
                    clear A290
                    replace H := Option.bind_eq_some_iff.mp H
                    obtain ⟨⟨t154, t155⟩, A300, H⟩ := H
                    replace H : ((storagebarterref05_Log.f k2 (rd y133 x40_1)).bind fun bt156 => (if t150 = t152 then (if t151 = t153 then (if t154 = bt156.1 then (storagebarterlaw05_FieldDoes.j2 k2 a1 a2 (rd y133 x40_1) y133 (y133.length : Int) x40_1 (t155 != bt156.2)) else (storagebarterlaw05_FieldDoes.j2 k2 a1 a2 (rd y133 x40_1) y133 (y133.length : Int) x40_1 true)) else (storagebarterlaw05_FieldDoes.j2 k2 a1 a2 (rd y133 x40_1) y133 (y133.length : Int) x40_1 true)) else (storagebarterlaw05_FieldDoes.j2 k2 a1 a2 (rd y133 x40_1) y133 (y133.length : Int) x40_1 true))) = some r := H
                    have A30 := Aside0.mk A300
                    clear A300
                    replace H := Option.bind_eq_some_iff.mp H
                    obtain ⟨⟨t156, t157⟩, A310, H⟩ := H
                    replace H : (if t150 = t152 then (if t151 = t153 then (if t154 = t156 then (storagebarterlaw05_FieldDoes.j2 k2 a1 a2 (rd y133 x40_1) y133 (y133.length : Int) x40_1 (t155 != t157)) else (storagebarterlaw05_FieldDoes.j2 k2 a1 a2 (rd y133 x40_1) y133 (y133.length : Int) x40_1 true)) else (storagebarterlaw05_FieldDoes.j2 k2 a1 a2 (rd y133 x40_1) y133 (y133.length : Int) x40_1 true)) else (storagebarterlaw05_FieldDoes.j2 k2 a1 a2 (rd y133 x40_1) y133 (y133.length : Int) x40_1 true)) = some r := H
                    have A31 := Aside0.mk A310
                    clear A310
                    have HC32 := Aside0.mk H
                    clear H
                    go_upto_region 20 with (first | ((with_reducible refine gate_callee (f := 12) rfl ?_); refine goesL_ (some 98) rfl rfl Try.func12 (by kernel_rfl) rfl #[.int .i64 (rd y133 x40_1)] rfl (by (try simp only [List.map_toArray, List.map_cons, List.map_nil]); first | done | rfl | (simp only [List.length_drop, List.length_take]; rfl)) ?_; (with_reducible refine (field_Inverse.calls k2 (rd y133 x40_1) t150 t151 _ A28.out).mono ?_); rintro e w' ⟨rfl, ⟨nd, rfl⟩⟩; refine ⟨_, rfl, ?_⟩) | ((with_reducible refine gate_callee (f := 18) rfl ?_); refine goesL_ (some 103) rfl rfl Try.func18 (by kernel_rfl) rfl #[.int .i64 (rd y133 x40_1)] rfl (by (try simp only [List.map_toArray, List.map_cons, List.map_nil]); first | done | rfl | (simp only [List.length_drop, List.length_take]; rfl)) ?_; (with_reducible refine (storagebarterref05_Inverse.calls k2 (rd y133 x40_1) t152 t153 _ A29.out).mono ?_); rintro e w' ⟨rfl, ⟨nd, rfl⟩⟩; refine ⟨_, rfl, ?_⟩) | ((with_reducible refine gate_callee (f := 9) rfl ?_); refine goesL_ (some 108) rfl rfl Try.func9 (by kernel_rfl) rfl #[.int .i64 (rd y133 x40_1)] rfl (by (try simp only [List.map_toArray, List.map_cons, List.map_nil]); first | done | rfl | (simp only [List.length_drop, List.length_take]; rfl)) ?_; (with_reducible refine (field_Log.calls k2 (rd y133 x40_1) t154 t155 _ A30.out).mono ?_); rintro e w' ⟨rfl, ⟨nd, rfl⟩⟩; refine ⟨_, rfl, ?_⟩) | ((with_reducible refine gate_callee (f := 19) rfl ?_); refine goesL_ (some 113) rfl rfl Try.func19 (by kernel_rfl) rfl #[.int .i64 (rd y133 x40_1)] rfl (by (try simp only [List.map_toArray, List.map_cons, List.map_nil]); first | done | rfl | (simp only [List.length_drop, List.length_take]; rfl)) ?_; (with_reducible refine (storagebarterref05_Log.calls k2 (rd y133 x40_1) t156 t157 _ A31.out).mono ?_); rintro e w' ⟨rfl, ⟨nd, rfl⟩⟩; refine ⟨_, rfl, ?_⟩))
                    (try simp only [Act.put, List.setIfInBounds_toArray, List.set_cons_zero, List.set_cons_succ])
                    go_cut [133] (fun v133 wc => ∃ (kq : Nat) (x133_31 : Bool), v133 = .bool x133_31 ∧ Aside0 (storagebarterlaw05_FieldDoes.j2 kq a1 a2 (rd y133 x40_1) y133 (y133.length : Int) x40_1 x133_31 = some r) ∧ Aside0 (kq ≤ k2) ∧ Aside0 (Kd.R (Kd.int .i64) 3 wc w.heap.size (fun _ => True) (.slice (some ad136) y133.length co9) y133) ∧ Aside0 (Below w.heap.size w wc))
                    case first =>
                      have H := HC32.out
                      clear HC32
                      by_cases c33 : t150 = t152
                      · rw [if_pos c33] at H
                        have c33b0 : (t150 == t152) = true := beq_iff_eq.mpr c33
                        have c33b1 : (t150 != t152) = false := bne_eq_false_iff_eq.mpr c33
                        clear c33
                        (first | rw [c33b0] | (simp only [i64_w, i32_w]; rw [c33b0]) | skip)
                        by_cases c34 : t151 = t153
                        · rw [if_pos c34] at H
                          have c34b0 : (t151 == t153) = true := beq_iff_eq.mpr c34
                          have c34b1 : (t151 != t153) = false := bne_eq_false_iff_eq.mpr c34
                          clear c34
                          by_cases c35 : t154 = t156
                          · rw [if_pos c35] at H
                            have c35b0 : (t154 == t156) = true := beq_iff_eq.mpr c35
                            have c35b1 : (t154 != t156) = false := bne_eq_false_iff_eq.mpr c35
                            clear c35
                            have H' := Aside0.mk H
                            clear H
                            go_wp2
                            go_meet
                            case rel => exact ⟨_, ((t155 != t157)), (by first | rfl | (simp; done) | (simp [*]; done)), H', ⟨by have := HK1.out; have := HK2.out; first | omega | exact Nat.le_refl _⟩, ⟨by (with_reducible repeat (first | apply Kd.R_alloc | apply Kd.R_drewN | apply Kd.R_drew)); exact Kd.R_mono HO_38.out (fun _ hk => trivial)⟩, ⟨by repeat (first | (with_reducible first | exact HB.out | apply below_alloc | apply pw_below_drewN | apply below_drew1) | exact HB.out)⟩⟩
                          · rw [if_neg c35] at H
                            have c35b0 : (t154 == t156) = false := beq_eq_false_iff_ne.mpr c35
                            have c35b1 : (t154 != t156) = true := bne_iff_ne.mpr c35
                            have H' := Aside0.mk H
                            clear H
                            go_wp2
                            go_meet
                            case rel => exact ⟨_, (true), (by first | rfl | (simp; done) | (simp [*]; done)), H', ⟨by have := HK1.out; have := HK2.out; first | omega | exact Nat.le_refl _⟩, ⟨by (with_reducible repeat (first | apply Kd.R_alloc | apply Kd.R_drewN | apply Kd.R_drew)); exact Kd.R_mono HO_38.out (fun _ hk => trivial)⟩, ⟨by repeat (first | (with_reducible first | exact HB.out | apply below_alloc | apply pw_below_drewN | apply below_drew1) | exact HB.out)⟩⟩
                        · rw [if_neg c34] at H
                          have c34b0 : (t151 == t153) = false := beq_eq_false_iff_ne.mpr c34
                          have c34b1 : (t151 != t153) = true := bne_iff_ne.mpr c34
                          have H' := Aside0.mk H
                          clear H
                          go_wp2
                          go_meet
                          case rel => exact ⟨_, (true), (by first | rfl | (simp; done) | (simp [*]; done)), H', ⟨by have := HK1.out; have := HK2.out; first | omega | exact Nat.le_refl _⟩, ⟨by (with_reducible repeat (first | apply Kd.R_alloc | apply Kd.R_drewN | apply Kd.R_drew)); exact Kd.R_mono HO_38.out (fun _ hk => trivial)⟩, ⟨by repeat (first | (with_reducible first | exact HB.out | apply below_alloc | apply pw_below_drewN | apply below_drew1) | exact HB.out)⟩⟩
                      · rw [if_neg c33] at H
                        have c33b0 : (t150 == t152) = false := beq_eq_false_iff_ne.mpr c33
                        have c33b1 : (t150 != t152) = true := bne_iff_ne.mpr c33
                        (first | rw [c33b0] | (simp only [i64_w, i32_w]; rw [c33b0]) | skip)
                        have H' := Aside0.mk H
                        clear H
                        go_wp2
                        go_meet
                        case rel => exact ⟨_, (true), (by first | rfl | (simp; done) | (simp [*]; done)), H', ⟨by have := HK1.out; have := HK2.out; first | omega | exact Nat.le_refl _⟩, ⟨by (with_reducible repeat (first | apply Kd.R_alloc | apply Kd.R_drewN | apply Kd.R_drew)); exact Kd.R_mono HO_38.out (fun _ hk => trivial)⟩, ⟨by repeat (first | (with_reducible first | exact HB.out | apply below_alloc | apply pw_below_drewN | apply below_drew1) | exact HB.out)⟩⟩
                    case rest =>
                      clear HC32
                      try clear c1
                      try clear p1
                      try clear q1
                      try clear hx1
                      try clear c2
                      try clear p2
                      try clear c3
                      try clear c5
                      try clear p6
                      try clear c8
                      try clear c9
                      try clear c10
                      try clear c10b0
                      try clear c11
                      try clear c11b0
                      try clear c12
                      try clear c12b0
                      try clear c13
                      try clear p13
                      try clear q13
                      try clear hx13
                      try clear c14
                      try clear p14
                      try clear q14
                      try clear hx14
                      try clear c15
                      try clear c16
                      try clear c17
                      try clear c17b0
                      try clear c18
                      try clear c18b0
                      try clear c19
                      try clear c19b0
                      try clear c24
                      try clear c24b0
                      try clear c24b1
                      try clear c25
                      try clear c25b0
                      try clear c25b1
                      try clear c26
                      try clear c26b0
                      try clear c26b1
                      try clear c27
                      try clear c27b0
                      try clear c27b1
                      try clear c33
                      try clear c33b0
                      try clear c33b1
                      try clear c34
                      try clear c34b0
                      try clear c34b1
                      try clear c35
                      try clear c35b0
                      try clear c35b1
                      try clear hx136_0
                      try clear hx141_0
                      try clear p1
                      try clear p13
                      try clear p136
                      try clear p141
                      try clear p2
                      try clear q1
                      try clear q13
                      try clear q136
                      try clear q141
                      obtain ⟨kq, x133_31, rfl, HA, HJ31, HO_38, HB⟩ := hcut
                      cases kq with
                      | zero => exact absurd HA.out (by simp [storagebarterlaw05_FieldDoes.j2])
                      | succ kj31 =>
                        have H := HA.out
                        clear HA
                        simp only [storagebarterlaw05_FieldDoes.j2] at H
                        by_cases c36 : x133_31 = true
                        · subst c36
                          have H1 : (some false) = some r := by rw [if_pos rfl] at H; exact H
                          clear H
                          have H := H1
                          clear H1
                          obtain rfl := Option.some.inj H
                          go_wp2
                          go_ret
                          exact ⟨by first | rfl | (simp [errW_none, errW_some] <;> rfl) | (simp [*, errW_none, errW_some] <;> rfl), by repeat (first | (with_reducible first | exact HB.out | apply below_alloc | apply pw_below_drewN | apply below_drew1) | exact HB.out)⟩
                        · replace c36 := Bool.eq_false_iff.mpr c36
                          subst c36
                          have H1 : ((storagebartermake_Mod.f a2 40).bind fun t158 => ((some (([a2, wrap64 (t158 - 20)] : List Int) : List Int)).bind fun y159 => (storagebarterlaw05_FieldDoes.l2 kj31 a1 a2 (rd y133 x40_1) y133 (y133.length : Int) x40_1 y159 (y159.length : Int) 0))) = some r := by rw [if_neg (show ¬ (false = true) by decide)] at H; exact H
                          clear H
                          have H := H1
                          clear H1
                          replace H := Option.bind_eq_some_iff.mp H
                          obtain ⟨t158, A370, H⟩ := H
                          replace H : ((some (([a2, wrap64 (t158 - 20)] : List Int) : List Int)).bind fun y159 => (storagebarterlaw05_FieldDoes.l2 kj31 a1 a2 (rd y133 x40_1) y133 (y133.length : Int) x40_1 y159 (y159.length : Int) 0)) = some r := H
                          have A37 := Aside0.mk A370
                          clear A370
                          obtain ⟨y159, hy159⟩ : ∃ y_ : List Int, y_ = (([a2, wrap64 (t158 - 20)] : List Int)) := ⟨_, rfl⟩
                          replace H : (storagebarterlaw05_FieldDoes.l2 kj31 a1 a2 (rd y133 x40_1) y133 (y133.length : Int) x40_1 y159 (y159.length : Int) 0) = some r := by first | (rw [hy159]; with_reducible exact H) | (have H2_ := (Option.bind_some _ _).symm.trans H; rw [hy159]; with_reducible exact H2_) | (have H2_ := (Option.bind_some _ _).symm.trans H; with_reducible exact H2_) | with_reducible exact H | (rw [hy159]; exact H) | exact H
                          have Ny159 := Aside0.mk hy159
                          clear hy159
                          have H' := Aside0.mk H
                          clear H
                          go_wp2_with (first | ((with_reducible refine gate_callee (f := 14) rfl ?_); refine goesL_ (some 136) rfl rfl Try.func14 (by kernel_rfl) rfl #[.int .i64 a2, .int .i64 40] rfl (by (try simp only [List.map_toArray, List.map_cons, List.map_nil]); first | done | rfl | (simp only [List.length_drop, List.length_take]; rfl)) ?_; (with_reducible refine (storagebartermake_Mod.calls a2 40 t158 _ A37.out).mono ?_); rintro e w' ⟨rfl, ⟨nd, rfl⟩⟩; refine ⟨_, rfl, ?_⟩) | ((with_reducible refine gate_dst (N := 138) rfl ?_); refine Kd.R_lit (Kd.int .i64) _ 3 ?hg (N := 138) ?hd (xs := ([a2, wrap64 (t158 - 20)] : List Int)) (inner := [.int .i64 a2, .int .i64 (wrap64 (t158 - 20))]) (ok := fun _ => True) (okp := fun _ => True) ?hr ?hp (fun _ hk => hk) trivial (Below.refl _ _) (Nat.le_refl _) (by simp) ?_; (case hd => rfl); (case hg => rfl); (case hr => first | (go_simp; done) | (go_simp; rfl)); (case hp => exact (Reps.one (show Kd.M (Kd.int .i64) _ _ _ a2 [.int .i64 a2] from rfl) (Reps.one (show Kd.M (Kd.int .i64) _ _ _ (wrap64 (t158 - 20)) [.int .i64 (wrap64 (t158 - 20))] from rfl) (Reps.none _ _)))); intro v160 w38 ho39 hb hg_ hnew_; clear hg_ hnew_; (first | rw [← Ny159.out] at ho39 | (simp only [Int.reduceToNat] at ho39; rw [← Ny159.out] at ho39)); have n0_ := Aside0.mk (Kd.R_elder' (by (with_reducible repeat (first | apply Kd.R_alloc | apply Kd.R_drewN | apply Kd.R_drew)); exact HO_38.out) (Kd.R_base ho39) hb); have n1_ := Aside0.mk (Kd.R_lower (Kd.R_new' ho39 (Kd.R_lt (by (with_reducible repeat (first | apply Kd.R_alloc | apply Kd.R_drewN | apply Kd.R_drew)); exact HO_38.out))) (below_size (by repeat (first | (with_reducible first | exact HB.out | apply below_alloc | apply pw_below_drewN | apply below_drew1) | exact HB.out)))); have n2_ := Aside0.mk (below_step (by repeat (first | (with_reducible first | exact HB.out | apply below_alloc | apply pw_below_drewN | apply below_drew1) | exact HB.out)) hb); clear HO_38; clear HB; have HO_38 := n0_; have HO161 := n1_; have HB := n2_; clear n0_ n1_ n2_; clear hb ho39; obtain ⟨Ao40, co40, eo40⟩ := Kd.R_slice HO161.out; subst eo40))
                          go_loopg [140] kj31 (fun kq v140 w' => ∃ (x140_4 : Int), v140 = .int .i64 x140_4 ∧ Aside0 (storagebarterlaw05_FieldDoes.l2 kq a1 a2 (rd y133 x40_1) y133 (y133.length : Int) x40_1 y159 (y159.length : Int) x140_4 = some r) ∧ Aside0 (kq ≤ kj31) ∧ Aside0 (Kd.R (Kd.int .i64) 3 w' w.heap.size (fun k_ => some k_ ≠ ((.slice Ao40 y159.length co40) : Value).ownBlock) (.slice (some ad136) y133.length co9) y133) ∧ Aside0 (Kd.R (Kd.int .i64) 3 w' w.heap.size (fun k_ => some k_ ≠ ((.slice (some ad136) y133.length co9) : Value).ownBlock) (.slice Ao40 y159.length co40) y159) ∧ Aside0 (Below w.heap.size w w'))
                          case atStart => exact ⟨(0), (by first | rfl | (simp; done) | (simp [*]; done)), H', ⟨Nat.le_refl _⟩, ⟨by (with_reducible repeat (first | apply Kd.R_alloc | apply Kd.R_drewN | apply Kd.R_drew)); exact Kd.R_mono HO_38.out (fun _ hk => hk.2)⟩, ⟨by (with_reducible repeat (first | apply Kd.R_alloc | apply Kd.R_drewN | apply Kd.R_drew)); exact Kd.R_mono HO161.out (fun _ hk => hk.2)⟩, ⟨by repeat (first | (with_reducible first | exact HB.out | apply below_alloc | apply pw_below_drewN | apply below_drew1) | exact HB.out)⟩⟩
                          case round =>
                            clear H'
                            try clear c1
                            try clear p1
                            try clear q1
                            try clear hx1
                            try clear c2
                            try clear p2
                            try clear c3
                            try clear c5
                            try clear p6
                            try clear c8
                            try clear c9
                            try clear c10
                            try clear c10b0
                            try clear c11
                            try clear c11b0
                            try clear c12
                            try clear c12b0
                            try clear c13
                            try clear p13
                            try clear q13
                            try clear hx13
                            try clear c14
                            try clear p14
                            try clear q14
                            try clear hx14
                            try clear c15
                            try clear c16
                            try clear c17
                            try clear c17b0
                            try clear c18
                            try clear c18b0
                            try clear c19
                            try clear c19b0
                            try clear c24
                            try clear c24b0
                            try clear c24b1
                            try clear c25
                            try clear c25b0
                            try clear c25b1
                            try clear c26
                            try clear c26b0
                            try clear c26b1
                            try clear c27
                            try clear c27b0
                            try clear c27b1
                            try clear c33
                            try clear c33b0
                            try clear c33b1
                            try clear c34
                            try clear c34b0
                            try clear c34b1
                            try clear c35
                            try clear c35b0
                            try clear c35b1
                            try clear c36
                            try clear hx136_0
                            try clear hx141_0
                            try clear p1
                            try clear p13
                            try clear p136
                            try clear p14
                            try clear p141
                            try clear p2
                            try clear p6
                            try clear q1
                            try clear q13
                            try clear q136
                            try clear q14
                            try clear q141
                            obtain ⟨x140_4, rfl, HA, HK4, HO_38, HO_138, HB⟩ := hrel
                            cases gk with
                            | zero => exact absurd HA.out (by simp [storagebarterlaw05_FieldDoes.l2])
                            | succ k4 =>
                              have H := HA.out
                              clear HA
                              simp only [storagebarterlaw05_FieldDoes.l2] at H
                              by_cases c41 : x140_4 < (y159.length : Int)
                              · rw [if_pos c41] at H
                                have c41b0 : decide (x140_4 < (y159.length : Int)) = true := decide_eq_true c41
                                clear c41
                                by_cases c42 : 0 ≤ x140_4
                                · rw [if_pos c42] at H
                                  have c42b0 : decide (0 ≤ x140_4) = true := decide_eq_true c42
                                  clear c42
                                  by_cases c43 : x140_4 < (y159.length : Int)
                                  · rw [if_pos c43] at H
                                    have c43b0 : decide (x140_4 < (y159.length : Int)) = true := decide_eq_true c43
                                    clear c43
                                    replace H := Option.bind_eq_some_iff.mp H
                                    obtain ⟨⟨t163, t164⟩, A440, H⟩ := H
                                    replace H : ((storagebarterref05_Power.f k4 (rd y133 x40_1) (rd y159 x140_4)).bind fun bt165 => (if t163 = bt165.1 then (if t164 = bt165.2 then (storagebarterlaw05_FieldDoes.l2 k4 a1 a2 (rd y133 x40_1) y133 (y133.length : Int) x40_1 y159 (y159.length : Int) (wrap64 (x140_4 + 1))) else (some false)) else (some false))) = some r := H
                                    have A44 := Aside0.mk A440
                                    clear A440
                                    replace H := Option.bind_eq_some_iff.mp H
                                    obtain ⟨⟨t165, t166⟩, A450, H⟩ := H
                                    replace H : (if t163 = t165 then (if t164 = t166 then (storagebarterlaw05_FieldDoes.l2 k4 a1 a2 (rd y133 x40_1) y133 (y133.length : Int) x40_1 y159 (y159.length : Int) (wrap64 (x140_4 + 1))) else (some false)) else (some false)) = some r := H
                                    have A45 := Aside0.mk A450
                                    clear A450
                                    by_cases c46 : t163 = t165
                                    · rw [if_pos c46] at H
                                      have c46b0 : (t163 == t165) = true := beq_iff_eq.mpr c46
                                      have c46b1 : (t163 != t165) = false := bne_eq_false_iff_eq.mpr c46
                                      clear c46
                                      by_cases c47 : t164 = t166
                                      · rw [if_pos c47] at H
                                        have c47b0 : (t164 == t166) = true := beq_iff_eq.mpr c47
                                        have c47b1 : (t164 != t166) = false := bne_eq_false_iff_eq.mpr c47
                                        clear c47
                                        have H' := Aside0.mk H
                                        clear H
                                        have p162 : 0 ≤ (x140_4 : Int) := of_decide_eq_true (by first | (with_reducible assumption) | assumption)
                                        have q162 : x140_4 < (y159.length : Int) := of_decide_eq_true (by first | (with_reducible assumption) | assumption)
                                        obtain ⟨ad162, e162, hx162_0⟩ := Kd.at_int (Kd.R_reads' HO_138.out).2.2 x140_4 p162 q162
                                        cases e162
                                        replace p162 := eq_true p162
                                        replace q162 := eq_true q162
                                        go_wp2_with (first | ((with_reducible refine gate_callee (f := 10) rfl ?_); refine goesL_ (some 147) rfl rfl Try.func10 (by kernel_rfl) rfl #[.int .i64 (rd y133 x40_1), .int .i64 (rd y159 x140_4)] rfl (by (try simp only [List.map_toArray, List.map_cons, List.map_nil]); first | done | rfl | (simp only [List.length_drop, List.length_take]; rfl)) ?_; (with_reducible refine (field_Power.calls k4 (rd y133 x40_1) (rd y159 x140_4) t163 t164 _ A44.out).mono ?_); rintro e w' ⟨rfl, ⟨nd, rfl⟩⟩; refine ⟨_, rfl, ?_⟩) | ((with_reducible refine gate_callee (f := 20) rfl ?_); refine goesL_ (some 153) rfl rfl Try.func20 (by kernel_rfl) rfl #[.int .i64 (rd y133 x40_1), .int .i64 (rd y159 x140_4)] rfl (by (try simp only [List.map_toArray, List.map_cons, List.map_nil]); first | done | rfl | (simp only [List.length_drop, List.length_take]; rfl)) ?_; (with_reducible refine (storagebarterref05_Power.calls k4 (rd y133 x40_1) (rd y159 x140_4) t165 t166 _ A45.out).mono ?_); rintro e w' ⟨rfl, ⟨nd, rfl⟩⟩; refine ⟨_, rfl, ?_⟩))
                                        go_roundg k4
                                        case measure => have := HK1.out; have := HK2.out; have := HJ31.out; have := HK4.out; omega
                                        case rel => exact ⟨(wrap64 (x140_4 + 1)), (by first | rfl | (simp; done) | (simp [*]; done)), H', ⟨by have := HK1.out; have := HK2.out; have := HJ31.out; have := HK4.out; omega⟩, ⟨by (with_reducible repeat (first | apply Kd.R_alloc | apply Kd.R_drewN | apply Kd.R_drew)); exact HO_38.out⟩, ⟨by (with_reducible repeat (first | apply Kd.R_alloc | apply Kd.R_drewN | apply Kd.R_drew)); exact HO_138.out⟩, ⟨by repeat (first | (with_reducible first | exact HB.out | apply below_alloc | apply pw_below_drewN | apply below_drew1) | exact HB.out)⟩⟩
                                      · rw [if_neg c47] at H
                                        have c47b0 : (t164 == t166) = false := beq_eq_false_iff_ne.mpr c47
                                        have c47b1 : (t164 != t166) = true := bne_iff_ne.mpr c47
                                        obtain rfl := Option.some.inj H
                                        have p162 : 0 ≤ (x140_4 : Int) := of_decide_eq_true (by first | (with_reducible assumption) | assumption)
                                        have q162 : x140_4 < (y159.length : Int) := of_decide_eq_true (by first | (with_reducible assumption) | assumption)
                                        obtain ⟨ad162, e162, hx162_0⟩ := Kd.at_int (Kd.R_reads' HO_138.out).2.2 x140_4 p162 q162
                                        cases e162
                                        replace p162 := eq_true p162
                                        replace q162 := eq_true q162
                                        go_wp2_with (first | ((with_reducible refine gate_callee (f := 10) rfl ?_); refine goesL_ (some 147) rfl rfl Try.func10 (by kernel_rfl) rfl #[.int .i64 (rd y133 x40_1), .int .i64 (rd y159 x140_4)] rfl (by (try simp only [List.map_toArray, List.map_cons, List.map_nil]); first | done | rfl | (simp only [List.length_drop, List.length_take]; rfl)) ?_; (with_reducible refine (field_Power.calls k4 (rd y133 x40_1) (rd y159 x140_4) t163 t164 _ A44.out).mono ?_); rintro e w' ⟨rfl, ⟨nd, rfl⟩⟩; refine ⟨_, rfl, ?_⟩) | ((with_reducible refine gate_callee (f := 20) rfl ?_); refine goesL_ (some 153) rfl rfl Try.func20 (by kernel_rfl) rfl #[.int .i64 (rd y133 x40_1), .int .i64 (rd y159 x140_4)] rfl (by (try simp only [List.map_toArray, List.map_cons, List.map_nil]); first | done | rfl | (simp only [List.length_drop, List.length_take]; rfl)) ?_; (with_reducible refine (storagebarterref05_Power.calls k4 (rd y133 x40_1) (rd y159 x140_4) t165 t166 _ A45.out).mono ?_); rintro e w' ⟨rfl, ⟨nd, rfl⟩⟩; refine ⟨_, rfl, ?_⟩))
                                        go_ret
                                        exact ⟨by first | rfl | (simp [errW_none, errW_some] <;> rfl) | (simp [*, errW_none, errW_some] <;> rfl), by repeat (first | (with_reducible first | exact HB.out | apply below_alloc | apply pw_below_drewN | apply below_drew1) | exact HB.out)⟩
                                    · rw [if_neg c46] at H
                                      have c46b0 : (t163 == t165) = false := beq_eq_false_iff_ne.mpr c46
                                      have c46b1 : (t163 != t165) = true := bne_iff_ne.mpr c46
                                      obtain rfl := Option.some.inj H
                                      have p162 : 0 ≤ (x140_4 : Int) := of_decide_eq_true (by first | (with_reducible assumption) | assumption)
                                      have q162 : x140_4 < (y159.length : Int) := of_decide_eq_true (by first | (with_reducible assumption) | assumption)
                                      obtain ⟨ad162, e162, hx162_0⟩ := Kd.at_int (Kd.R_reads' HO_138.out).2.2 x140_4 p162 q162
                                      cases e162
                                      replace p162 := eq_true p162
                                      replace q162 := eq_true q162
                                      go_wp2_with (first | ((with_reducible refine gate_callee (f := 10) rfl ?_); refine goesL_ (some 147) rfl rfl Try.func10 (by kernel_rfl) rfl #[.int .i64 (rd y133 x40_1), .int .i64 (rd y159 x140_4)] rfl (by (try simp only [List.map_toArray, List.map_cons, List.map_nil]); first | done | rfl | (simp only [List.length_drop, List.length_take]; rfl)) ?_; (with_reducible refine (field_Power.calls k4 (rd y133 x40_1) (rd y159 x140_4) t163 t164 _ A44.out).mono ?_); rintro e w' ⟨rfl, ⟨nd, rfl⟩⟩; refine ⟨_, rfl, ?_⟩) | ((with_reducible refine gate_callee (f := 20) rfl ?_); refine goesL_ (some 153) rfl rfl Try.func20 (by kernel_rfl) rfl #[.int .i64 (rd y133 x40_1), .int .i64 (rd y159 x140_4)] rfl (by (try simp only [List.map_toArray, List.map_cons, List.map_nil]); first | done | rfl | (simp only [List.length_drop, List.length_take]; rfl)) ?_; (with_reducible refine (storagebarterref05_Power.calls k4 (rd y133 x40_1) (rd y159 x140_4) t165 t166 _ A45.out).mono ?_); rintro e w' ⟨rfl, ⟨nd, rfl⟩⟩; refine ⟨_, rfl, ?_⟩))
                                      go_ret
                                      exact ⟨by first | rfl | (simp [errW_none, errW_some] <;> rfl) | (simp [*, errW_none, errW_some] <;> rfl), by repeat (first | (with_reducible first | exact HB.out | apply below_alloc | apply pw_below_drewN | apply below_drew1) | exact HB.out)⟩
                                  · rw [if_neg c43] at H
                                    exact absurd H (by simp)
                                · rw [if_neg c42] at H
                                  exact absurd H (by simp)
                              · rw [if_neg c41] at H
                                have c41b0 : decide (x140_4 < (y159.length : Int)) = false := decide_eq_false c41
                                clear c41
                                have H' := Aside0.mk H
                                clear H
                                go_wp2
                                go_roundg k4
                                case measure => have := HK1.out; have := HK2.out; have := HJ31.out; have := HK4.out; omega
                                case rel => exact ⟨(wrap64 (x40_1 + 1)), (by first | rfl | (simp; done) | (simp [*]; done)), H', ⟨by have := HK1.out; have := HK2.out; have := HJ31.out; have := HK4.out; omega⟩, ⟨by (with_reducible repeat (first | apply Kd.R_alloc | apply Kd.R_drewN | apply Kd.R_drew)); exact Kd.R_mono HO_38.out (fun _ hk => trivial)⟩, ⟨by repeat (first | (with_reducible first | exact HB.out | apply below_alloc | apply pw_below_drewN | apply below_drew1) | exact HB.out)⟩⟩
            · rw [if_neg c12] at H
              exact absurd H (by simp)
          · rw [if_neg c11] at H
            exact absurd H (by simp)
        · rw [if_neg c10] at H
          have c10b0 : decide (x40_1 < (y133.length : Int)) = false := decide_eq_false c10
          clear c10
          obtain rfl := Option.some.inj H
          go_wp2
          go_ret
          exact ⟨by first | rfl | (simp [errW_none, errW_some] <;> rfl) | (simp [*, errW_none, errW_some] <;> rfl), by repeat (first | (with_reducible first | exact HB.out | apply below_alloc | apply pw_below_drewN | apply below_drew1) | exact HB.out)⟩
  · replace c5 := Bool.eq_false_iff.mpr c5
    subst c5
    have H1 : (some false) = some r := by rw [if_neg (show ¬ (false = true) by decide)] at H; exact H
    clear H
    have H := H1
    clear H1
    obtain rfl := Option.some.inj H
    go_enter Try.func5, Try.ntmps5
    go_wp2_with (first | ((with_reducible refine gate_callee (f := 8) rfl ?_); refine goesL_ (some 33) rfl rfl Try.func8 (by kernel_rfl) rfl #[] rfl (by (try simp only [List.map_toArray, List.map_cons, List.map_nil]); first | done | rfl | (simp only [List.length_drop, List.length_take]; rfl)) ?_; (with_reducible refine (storagebarterlaw05_sane.calls k  false _ A4.out).mono ?_); rintro e w' ⟨rfl, ⟨nd, rfl⟩⟩; refine ⟨_, rfl, ?_⟩))
    go_ret
    exact ⟨by first | rfl | (simp [errW_none, errW_some] <;> rfl) | (simp [*, errW_none, errW_some] <;> rfl), by repeat (first | (with_reducible first | exact HB.out | apply below_alloc | apply pw_below_drewN | apply below_drew1) | exact HB.out)⟩

/-- THE ONE PURE STATEMENT of storagebarterlaw05_FieldDoes: yours. -/
def storagebarterlaw05_FieldDoes.Pure : Prop := ∀ (a0 : Int) (a1 : Int) (a2 : Int), (Lit.int .i64 a0).wf = true → (Lit.int .i64 a1).wf = true → (Lit.int .i64 a2).wf = true → ∃ k, storagebarterlaw05_FieldDoes.f k a0 a1 a2 = some true
theorem storagebarterlaw05_FieldDoes.walk (P : storagebarterlaw05_FieldDoes.Pure) (a0 : Int) (a1 : Int) (a2 : Int) (w : World) (w0 : (Lit.int .i64 a0).wf = true) (w1 : (Lit.int .i64 a1).wf = true) (w2 : (Lit.int .i64 a2).wf = true) :
    Calls Try.prog 5 #[.int .i64 a0, .int .i64 a1, .int .i64 a2] w fun e w' => e = .returned (.bool true) ∧ Below w.heap.size w w' := by
  obtain ⟨k, h⟩ := P a0 a1 a2 w0 w1 w2
  refine (storagebarterlaw05_FieldDoes.calls k a0 a1 a2 true w h).mono ?_
  rintro e w' ⟨rfl, hd⟩
  exact ⟨rfl, hd⟩

end Go.Proofs.Ytdigfgkbcpfjmaa.PFieldDoes
