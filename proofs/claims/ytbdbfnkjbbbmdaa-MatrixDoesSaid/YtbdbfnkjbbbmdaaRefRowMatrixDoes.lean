/- The walks of ref06.scale and ref06.take at rows of elements, and of ref06.mul and ref05.Inverse at elements. -/
import Derived.Test.YtbdbfnkjbbbmdaaMatCloneMatrixDoes
import Derived.Test.YtbdbfnkjbbbmdaaEMatrixDoes0
namespace Go.Proofs.Ytbdbfnkjbbbmdaa.MatMatrixDoes
set_option linter.unusedSimpArgs false
set_option linter.unusedVariables false
open Go.RowKit Go.Proofs.Ytbdbfnkjbbbmdaa.PMatrixDoes Go.Proofs.YtbdbfnkjbbbmdaaW.PrintWords Go.Proofs.YtbdbfnkjbbbmdaaW.PrintLast Go.Proofs.Ytbdbfnkjbbbmdaa.Gf Go.Proofs.Ytbdbfnkjbbbmdaa.Lin Go.Proofs.Ytbdbfnkjbbbmdaa.MatMem
theorem mulR_any (x y : F) (w : World) : Calls Try.prog 46 #[.int .i64 (x.val : Int), .int .i64 (y.val : Int)] w fun e w' => e = .returned (.int .i64 ((mul x y).val : Int)) ∧ Drawn0 w w' :=
  storagebarterref06_mul.calls 24 _ _ _ w ((by decide +kernel : ∀ x y : F, storagebarterref06_mul.f 24 x.val y.val = some ((mul x y).val : Int)) x y)
theorem invR_any (x : F) (h : x ≠ 0) (w : World) : Calls Try.prog 37 #[.int .i64 (x.val : Int)] w fun e w' => e = .returned (.tuple #[.int .i64 ((inv x).val : Int), .int .i64 0]) ∧ Drawn0 w w' :=
  storagebarterref05_Inverse.calls 40 _ _ _ w ((by decide +kernel : ∀ x : F, x ≠ 0 → storagebarterref05_Inverse.f 40 x.val = some (((inv x).val : Int), 0)) x h)
/-- w' is w but for blocks that P holds of. -/
structure But (P : Nat → Prop) (w w' : World) : Prop where
  below : Below 0 w w'
  block : ∀ k, k < w.heap.size → ¬ P k → w'.heap[k]? = w.heap[k]?
namespace But
variable {P Q : Nat → Prop} {w w1 w2 : World}
theorem refl (P : Nat → Prop) (w : World) : But P w w := ⟨Below.refl _ _, fun _ _ _ => rfl⟩
theorem trans (h : But P w w1) (k : But P w1 w2) : But P w w2 := ⟨h.below.trans k.below, fun q hq hP => (k.block q (Nat.lt_of_lt_of_le hq h.below.size) hP).trans (h.block q hq hP)⟩
theorem mono (h : But P w w1) (e : ∀ k, P k → Q k) : But Q w w1 := ⟨h.below, fun q hq hP => h.block q hq fun k => hP (e _ k)⟩
theorem drewN (h : But P w w1) (n : Nat) : But P w (w1.drewN n) := ⟨belowN h.below n, h.block⟩
theorem drew (h : But P w w1) : But P w w1.drew := ⟨h.below.drew, h.block⟩
theorem set (h : But P w w1) {a : Addr} (hP : P a.block) (v : Value) : But P w (w1.setCell a v) :=
  ⟨h.below.setCell (Nat.zero_le _) v, fun q hq hn => (Below.heap_setCell w1 a v q (fun e => hn (e ▸ hP))).trans (h.block q hq hn)⟩
theorem toBelow {B : Nat} (h : But P w w1) (hB : B ≤ w.heap.size) (hP : ∀ k, P k → B ≤ k) : Below B w w1 :=
  ⟨h.below.os, h.below.tape, h.below.output, h.below.size, fun k hk => h.block k (by omega) fun hp => by have := hP k hp; omega⟩
end But
theorem mrow.but {w w1 : World} {b : Nat} {t : TypeId} {cap n : Nat} {f : Nat → Value} {P : Nat → Prop} (h : mrow w b t cap n f) (hb : But P w w1) (hn : ¬ P b) : mrow w1 b t cap n f := h.of_block (hb.block b h.lt hn)
/-- What scale leaves. -/
def ScaleEnd (b cap W : Nat) (f : Nat → F) (y : F) (w : World) (e : Ending) (w' : World) : Prop :=
  e = .returned (.tuple #[]) ∧ mrow w' b 3 cap W (fun j => .int .i64 ((mul (f j) y).val : Int)) ∧ But (· = b) w w'
set_option maxHeartbeats 1000000 in
theorem scale_any (b cap W : Nat) (f : Nat → F) (y : F) (w : World) (hm : mrow w b 3 cap W (fun j => .int .i64 ((f j).val : Int))) (hW : W ≤ 32) :
    Calls Try.prog 50 #[.slice (some ⟨b, 0, none⟩) W cap, .int .i64 (y.val : Int)] w (ScaleEnd b cap W f y w) := by
  have HM := Aside0.mk hm
  clear hm
  go_enter Try.func50, Try.ntmps50
  go_wp2
  go_loopg [7] W (fun gj v7 wj => ∃ j : Nat, j ≤ W ∧ gj = W - j ∧ v7 = .int .i64 j ∧ Aside0 (mrow wj b 3 cap W (fun t => .int .i64 ((if t < j then mul (f t) y else f t).val : Int))) ∧ Aside0 (But (· = b) w wj))
  case atStart =>
    go_light
    exact ⟨0, Nat.zero_le _, rfl, rfl, ⟨HM.out.congr fun t _ => by simp⟩, ⟨But.refl _ _⟩⟩
  case round =>
    clear HM
    obtain ⟨j, hj, rfl, rfl, HM, HB⟩ := hrel
    by_cases hjW : j < W
    · have hjW' : (j : Int) < (W : Int) := by omega
      have c1 : wr.cell? ⟨b, j, none⟩ = some (.int .i64 ((f j).val : Int)) := by simpa using HM.out.cell hjW
      have f1 := HM.out.frozen j
      go_wp2_with (go_at_call 46; (with_reducible refine (mulR_any _ _ _).mono ?_); rintro e w' ⟨rfl, ⟨nd, rfl⟩⟩)
      go_roundg (W - (j + 1))
      case measure => go_light; omega
      case rel =>
        go_light
        refine ⟨j + 1, by omega, rfl, by go_num, ⟨((HM.out.drewN _).set j _).congr fun t ht => ?_⟩, ⟨(HB.out.drewN _).set rfl _⟩⟩
        by_cases e : t = j
        · subst e; simp
        · by_cases lt : t < j
          · simp [e, lt, show t < j + 1 by omega]
          · simp [e, lt, show ¬ t < j + 1 by omega]
    · have hjW' : ¬ (j : Int) < (W : Int) := by omega
      go_wp2
      go_end0
      go_light
      exact ⟨rfl, HM.out.congr fun t ht => by simp [show t < j by omega], HB.out⟩
set_option maxHeartbeats 1000000 in
theorem scale_nil (y : F) (w : World) : Calls Try.prog 50 #[.slice none 0 0, .int .i64 (y.val : Int)] w fun e w' => e = .returned (.tuple #[]) ∧ But (fun _ => False) w w' := by
  go_enter Try.func50, Try.ntmps50
  go_wp2
  go_loopg [7] 1 (fun gj v7 wj => gj = 1 ∧ v7 = .int .i64 0 ∧ Aside0 (But (fun _ => False) w wj))
  case atStart =>
    go_light
    exact ⟨rfl, rfl, ⟨But.refl _ _⟩⟩
  case round =>
    obtain ⟨rfl, rfl, HB⟩ := hrel
    go_wp2
    go_end0
    go_light
    exact ⟨rfl, HB.out⟩
/-- What take leaves. -/
def TakeEnd (b cap W : Nat) (f g : Nat → F) (y : F) (w : World) (e : Ending) (w' : World) : Prop :=
  e = .returned (.tuple #[]) ∧ mrow w' b 3 cap W (fun j => .int .i64 ((add (f j) (mul (g j) y)).val : Int)) ∧ But (· = b) w w'
set_option maxHeartbeats 1000000 in
theorem take_any (b cap b2 cap2 W : Nat) (f g : Nat → F) (y : F) (w : World) (hm : mrow w b 3 cap W (fun j => .int .i64 ((f j).val : Int))) (hg : mrow w b2 3 cap2 W (fun j => .int .i64 ((g j).val : Int))) (hne : b2 ≠ b) (hW : W ≤ 32) :
    Calls Try.prog 51 #[.slice (some ⟨b, 0, none⟩) W cap, .slice (some ⟨b2, 0, none⟩) W cap2, .int .i64 (y.val : Int)] w (TakeEnd b cap W f g y w) := by
  have HM := Aside0.mk hm
  have HG := Aside0.mk hg
  have HNE := Aside0.mk hne
  clear hm hg hne
  go_enter Try.func51, Try.ntmps51
  go_wp2
  go_loopg [9] W (fun gj v9 wj => ∃ j : Nat, j ≤ W ∧ gj = W - j ∧ v9 = .int .i64 j ∧ Aside0 (mrow wj b 3 cap W (fun t => .int .i64 ((if t < j then add (f t) (mul (g t) y) else f t).val : Int))) ∧ Aside0 (But (· = b) w wj))
  case atStart =>
    go_light
    exact ⟨0, Nat.zero_le _, rfl, rfl, ⟨HM.out.congr fun t _ => by simp⟩, ⟨But.refl _ _⟩⟩
  case round =>
    clear HM
    obtain ⟨j, hj, rfl, rfl, HM, HB⟩ := hrel
    by_cases hjW : j < W
    · have hjW' : (j : Int) < (W : Int) := by omega
      have c1 : wr.cell? ⟨b, j, none⟩ = some (.int .i64 ((f j).val : Int)) := by simpa using HM.out.cell hjW
      have c2 : wr.cell? ⟨b2, j, none⟩ = some (.int .i64 ((g j).val : Int)) := (mrow.but HG.out HB.out HNE.out).cell hjW
      have f1 := HM.out.frozen j
      have hx := xor_any (f j) (mul (g j) y)
      go_upto_region 3 with fail
      go_region_with (go_at_call 46; (with_reducible refine (mulR_any _ _ _).mono ?_); rintro e w' ⟨rfl, ⟨nd, rfl⟩⟩)
      all_goals
        go_wp2
        go_roundg (W - (j + 1))
        case measure => go_light; omega
        case rel =>
          go_light
          refine ⟨j + 1, by omega, rfl, by go_num, ⟨((HM.out.drewN _).set j _).congr fun t ht => ?_⟩, ⟨(HB.out.drewN _).set rfl _⟩⟩
          by_cases e : t = j
          · subst e; simp
          · by_cases lt : t < j
            · simp [e, lt, show t < j + 1 by omega]
            · simp [e, lt, show ¬ t < j + 1 by omega]
    · have hjW' : ¬ (j : Int) < (W : Int) := by omega
      go_wp2
      go_end0
      go_light
      exact ⟨rfl, HM.out.congr fun t ht => by simp [show t < j by omega], HB.out⟩
set_option maxHeartbeats 1000000 in
theorem take_nil (y : F) (w : World) : Calls Try.prog 51 #[.slice none 0 0, .slice none 0 0, .int .i64 (y.val : Int)] w fun e w' => e = .returned (.tuple #[]) ∧ But (fun _ => False) w w' := by
  go_enter Try.func51, Try.ntmps51
  go_wp2
  go_loopg [9] 1 (fun gj v9 wj => gj = 1 ∧ v9 = .int .i64 0 ∧ Aside0 (But (fun _ => False) w wj))
  case atStart =>
    go_light
    exact ⟨rfl, rfl, ⟨But.refl _ _⟩⟩
  case round =>
    obtain ⟨rfl, rfl, HB⟩ := hrel
    go_wp2
    go_end0
    go_light
    exact ⟨rfl, HB.out⟩
end Go.Proofs.Ytbdbfnkjbbbmdaa.MatMatrixDoes
