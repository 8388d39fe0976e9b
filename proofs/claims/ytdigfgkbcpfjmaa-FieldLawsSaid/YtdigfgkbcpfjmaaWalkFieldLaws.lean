/- The walk of FieldLaws: at any three bytes it returns true. No condition. -/
import Derived.Test.YtdigfgkbcpfjmaaAnyFieldLaws
namespace Go.Proofs.Ytdigfgkbcpfjmaa.WFieldLaws
set_option linter.unusedSimpArgs false
set_option linter.unusedVariables false
open Go.RowKit Go.Proofs.Ytdigfgkbcpfjmaa.PFieldLaws Go.Proofs.YtdigfgkbcpfjmaaW.PrintWords Go.Proofs.YtdigfgkbcpfjmaaW.PrintLast Go.Proofs.Ytdigfgkbcpfjmaa.Gf Go.Proofs.Ytdigfgkbcpfjmaa.AnyFieldLaws
theorem facts (x y z : F) : gmul x.val y.val = gmul y.val x.val ∧ gadd x.val y.val = gadd y.val x.val ∧ gmul (gmul x.val y.val) z.val = gmul x.val (gmul y.val z.val) ∧ gadd (gadd x.val y.val) z.val = gadd x.val (gadd y.val z.val) ∧
    gmul x.val (gadd y.val z.val) = gadd (gmul x.val y.val) (gmul x.val z.val) ∧ gmul x.val 1 = x.val ∧ gadd x.val 0 = x.val ∧ gadd x.val x.val = 0 ∧ gmul x.val 0 = 0 := by
  unfold gmul gadd
  simp only [toF_val]
  rw [mul_comm y x, add_comm y x, mul_assoc, add_assoc, mul_add]
  exact ⟨rfl, rfl, rfl, rfl, rfl, congrArg (fun u : F => ((u.val : Nat) : Int)) (mul_one x), congrArg (fun u : F => ((u.val : Nat) : Int)) (add_zero x), congrArg (fun u : F => ((u.val : Nat) : Int)) (add_self x), congrArg (fun u : F => ((u.val : Nat) : Int)) (mul_zero x)⟩
theorem more : ∀ x y : F, ((x.val : Int) ≠ 0 → gmul x.val (ginv x.val) = 1) ∧ ((x.val : Int) ≠ 0 → (y.val : Int) ≠ 0 → gmul x.val y.val ≠ 0) := by decide +kernel
theorem ginv_lt (p : Int) : 0 ≤ ginv p ∧ ginv p < 16 := ⟨by unfold ginv; omega, by unfold ginv; omega⟩
theorem inv_any (p : Int) (hp : 0 ≤ p ∧ p < 16) (h0 : p ≠ 0) (w : World) : Calls Try.prog 11 #[.int .i64 p, .int .i64 (ginv p)] w fun e w' => e = .returned (.int .i64 1) ∧ Drawn0 w w' := by
  have h := mul_any p (ginv p) hp (ginv_lt p) w
  obtain ⟨x, rfl⟩ := as_element hp
  rw [(more x 0).1 h0] at h
  exact h
set_option maxHeartbeats 4000000 in
theorem walk (a0 a1 a2 : Int) (w : World) (w0 : (Lit.int .u8 a0).wf = true) (w1 : (Lit.int .u8 a1).wf = true) (w2 : (Lit.int .u8 a2).wf = true) :
    Calls Try.prog 6 #[.int .u8 a0, .int .u8 a1, .int .u8 a2] w fun e w' => e = .returned (.bool true) ∧ Drawn0 w w' := by
  have g0 : 0 ≤ a0 ∧ a0 ≤ 255 := by simpa [Lit.wf, IntKind.min, IntKind.max, IntKind.signed, IntKind.bits] using w0
  have g1 : 0 ≤ a1 ∧ a1 ≤ 255 := by simpa [Lit.wf, IntKind.min, IntKind.max, IntKind.signed, IntKind.bits] using w1
  have g2 : 0 ≤ a2 ∧ a2 ≤ 255 := by simpa [Lit.wf, IntKind.min, IntKind.max, IntKind.signed, IntKind.bits] using w2
  have b0 := arg_ok g0
  have b1 := arg_ok g1
  have b2 := arg_ok g2
  clear g0 g1 g2 w0 w1 w2
  obtain ⟨p, hp⟩ : ∃ p, p = wrap64 (Int.tmod a0 16) := ⟨_, rfl⟩
  obtain ⟨q, hq⟩ : ∃ q, q = wrap64 (Int.tmod a1 16) := ⟨_, rfl⟩
  obtain ⟨s, hs⟩ : ∃ s, s = wrap64 (Int.tmod a2 16) := ⟨_, rfl⟩
  have ep : wrap64 (Int.tmod a0 16) = p := hp.symm
  have eq : wrap64 (Int.tmod a1 16) = q := hq.symm
  have es : wrap64 (Int.tmod a2 16) = s := hs.symm
  clear hp hq hs
  rw [ep] at b0
  rw [eq] at b1
  rw [es] at b2
  obtain ⟨x, hx⟩ := as_element b0
  obtain ⟨y, hy⟩ := as_element b1
  obtain ⟨z, hz⟩ := as_element b2
  have f := facts x y z
  have m := more x y
  rw [← hx, ← hy, ← hz] at f
  rw [← hx, ← hy] at m
  obtain ⟨f1, f2, f3, f4, f5, f6, f7, f8, f9⟩ := f
  obtain ⟨m1, m2⟩ := m
  clear hx hy hz x y z
  have P := Aside0.mk b0
  have Q := Aside0.mk b1
  have S := Aside0.mk b2
  have c1 : (gmul p q != gmul q p) = false := bne_eq_false_iff_eq.2 f1
  have c2 : (gadd p q != gadd q p) = false := bne_eq_false_iff_eq.2 f2
  have c3 : (gmul (gmul p q) s != gmul p (gmul q s)) = false := bne_eq_false_iff_eq.2 f3
  have c4 : (gadd (gadd p q) s != gadd p (gadd q s)) = false := bne_eq_false_iff_eq.2 f4
  have c5 : (gmul p (gadd q s) != gadd (gmul p q) (gmul p s)) = false := bne_eq_false_iff_eq.2 f5
  have c6 : (gmul p 1 != p) = false := bne_eq_false_iff_eq.2 f6
  have c7 : (gadd p 0 != p) = false := bne_eq_false_iff_eq.2 f7
  have c8 : (gadd p p != 0) = false := bne_eq_false_iff_eq.2 f8
  have c9 : (gmul p 0 != 0) = false := bne_eq_false_iff_eq.2 f9
  clear b0 b1 b2 f1 f2 f3 f4 f5 f6 f7 f8 f9
  by_cases hp0 : p = 0
  · have d1 : (p == 0) = true := beq_iff_eq.2 hp0
    clear m1 m2 hp0
    go_enter Try.func6, Try.ntmps6
    go_wp2_with (first | (go_at_call 8; (with_reducible refine (sane_any _).mono ?_); rintro e w' ⟨rfl, ⟨nd, rfl⟩⟩) | (go_at_call 21; (with_reducible refine (add_any _ _ (by first | exact P.out | exact Q.out | exact S.out | exact gmul_lt _ _ | exact gadd_lt _ _ | decide) (by first | exact P.out | exact Q.out | exact S.out | exact gmul_lt _ _ | exact gadd_lt _ _ | decide) _).mono ?_); rintro e w' ⟨rfl, ⟨nd, rfl⟩⟩) | (go_at_call 11; (with_reducible refine (mul_any _ _ (by first | exact P.out | exact Q.out | exact S.out | exact gmul_lt _ _ | exact gadd_lt _ _ | decide) (by first | exact P.out | exact Q.out | exact S.out | exact gmul_lt _ _ | exact gadd_lt _ _ | decide) _).mono ?_); rintro e w' ⟨rfl, ⟨nd, rfl⟩⟩))
    go_ret
    exact ⟨by first | rfl | (simp; done) | (simp [*]; done), by repeat (first | exact Drawn0.refl _ | apply Drawn0.step)⟩
  · have d1 : (p == 0) = false := beq_eq_false_iff_ne.2 hp0
    have N := Aside0.mk hp0
    by_cases hq0 : q = 0
    · have d2 : (q == 0) = true := beq_iff_eq.2 hq0
      clear m1 m2 hp0 hq0
      go_enter Try.func6, Try.ntmps6
      go_wp2_with (first | (go_at_call 8; (with_reducible refine (sane_any _).mono ?_); rintro e w' ⟨rfl, ⟨nd, rfl⟩⟩) | (go_at_call 21; (with_reducible refine (add_any _ _ (by first | exact P.out | exact Q.out | exact S.out | exact gmul_lt _ _ | exact gadd_lt _ _ | decide) (by first | exact P.out | exact Q.out | exact S.out | exact gmul_lt _ _ | exact gadd_lt _ _ | decide) _).mono ?_); rintro e w' ⟨rfl, ⟨nd, rfl⟩⟩) | (go_at_call 11; (with_reducible refine (inv_any _ P.out N.out _).mono ?_); rintro e w' ⟨rfl, ⟨nd, rfl⟩⟩) | (go_at_call 11; (with_reducible refine (mul_any _ _ (by first | exact P.out | exact Q.out | exact S.out | exact gmul_lt _ _ | exact gadd_lt _ _ | decide) (by first | exact P.out | exact Q.out | exact S.out | exact gmul_lt _ _ | exact gadd_lt _ _ | decide) _).mono ?_); rintro e w' ⟨rfl, ⟨nd, rfl⟩⟩) | (go_at_call 12; (with_reducible refine (inverse_any _ P.out N.out _).mono ?_); rintro e w' ⟨rfl, ⟨nd, rfl⟩⟩))
      go_ret
      exact ⟨by first | rfl | (simp; done) | (simp [*]; done), by repeat (first | exact Drawn0.refl _ | apply Drawn0.step)⟩
    · have d2 : (q == 0) = false := beq_eq_false_iff_ne.2 hq0
      have d3 : (gmul p q != 0) = true := bne_iff_ne.2 (m2 hp0 hq0)
      clear m1 m2 hp0 hq0
      go_enter Try.func6, Try.ntmps6
      go_wp2_with (first | (go_at_call 8; (with_reducible refine (sane_any _).mono ?_); rintro e w' ⟨rfl, ⟨nd, rfl⟩⟩) | (go_at_call 21; (with_reducible refine (add_any _ _ (by first | exact P.out | exact Q.out | exact S.out | exact gmul_lt _ _ | exact gadd_lt _ _ | decide) (by first | exact P.out | exact Q.out | exact S.out | exact gmul_lt _ _ | exact gadd_lt _ _ | decide) _).mono ?_); rintro e w' ⟨rfl, ⟨nd, rfl⟩⟩) | (go_at_call 11; (with_reducible refine (inv_any _ P.out N.out _).mono ?_); rintro e w' ⟨rfl, ⟨nd, rfl⟩⟩) | (go_at_call 11; (with_reducible refine (mul_any _ _ (by first | exact P.out | exact Q.out | exact S.out | exact gmul_lt _ _ | exact gadd_lt _ _ | decide) (by first | exact P.out | exact Q.out | exact S.out | exact gmul_lt _ _ | exact gadd_lt _ _ | decide) _).mono ?_); rintro e w' ⟨rfl, ⟨nd, rfl⟩⟩) | (go_at_call 12; (with_reducible refine (inverse_any _ P.out N.out _).mono ?_); rintro e w' ⟨rfl, ⟨nd, rfl⟩⟩))
      go_ret
      exact ⟨by first | rfl | (simp; done) | (simp [*]; done), by repeat (first | exact Drawn0.refl _ | apply Drawn0.step)⟩
theorem walkB (a0 a1 a2 : Int) (w : World) (w0 : (Lit.int .u8 a0).wf = true) (w1 : (Lit.int .u8 a1).wf = true) (w2 : (Lit.int .u8 a2).wf = true) :
    Calls Try.prog 6 #[.int .u8 a0, .int .u8 a1, .int .u8 a2] w fun e w' => e = .returned (.bool true) ∧ Below w.heap.size w w' :=
  (walk a0 a1 a2 w w0 w1 w2).mono fun _ _ ⟨h, d⟩ => ⟨h, d.below⟩
end Go.Proofs.Ytdigfgkbcpfjmaa.WFieldLaws
