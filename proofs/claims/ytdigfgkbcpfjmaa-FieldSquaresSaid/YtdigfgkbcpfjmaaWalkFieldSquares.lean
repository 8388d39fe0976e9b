/- The walk of FieldSquares: at any two bytes it returns true. No condition. -/
import Derived.Test.YtdigfgkbcpfjmaaAnyFieldSquares
namespace Go.Proofs.Ytdigfgkbcpfjmaa.WFieldSquares
set_option linter.unusedSimpArgs false
set_option linter.unusedVariables false
open Go.RowKit Go.Proofs.Ytdigfgkbcpfjmaa.PFieldSquares Go.Proofs.YtdigfgkbcpfjmaaW.PrintWords Go.Proofs.YtdigfgkbcpfjmaaW.PrintLast Go.Proofs.Ytdigfgkbcpfjmaa.Gf Go.Proofs.Ytdigfgkbcpfjmaa.AnyFieldSquares
theorem facts : ∀ x y : F, gmul (gadd x.val y.val) (gadd x.val y.val) = gadd (gmul x.val x.val) (gmul y.val y.val) ∧ field_Power.f 25 x.val 16 = some ((x.val : Int), 0) ∧ (∃ r : F, field_Power.f 25 x.val 8 = some ((r.val : Int), 0) ∧ gmul r.val r.val = x.val) ∧
    ((gmul x.val x.val == gmul y.val y.val) == ((x.val : Int) == (y.val : Int))) = true := by decide +kernel
set_option maxHeartbeats 1000000 in
theorem walk (a0 a1 : Int) (w : World) (w0 : (Lit.int .u8 a0).wf = true) (w1 : (Lit.int .u8 a1).wf = true) :
    Calls Try.prog 7 #[.int .u8 a0, .int .u8 a1] w fun e w' => e = .returned (.bool true) ∧ Drawn0 w w' := by
  have g0 : 0 ≤ a0 ∧ a0 ≤ 255 := by simpa [Lit.wf, IntKind.min, IntKind.max, IntKind.signed, IntKind.bits] using w0
  have g1 : 0 ≤ a1 ∧ a1 ≤ 255 := by simpa [Lit.wf, IntKind.min, IntKind.max, IntKind.signed, IntKind.bits] using w1
  have b0 := arg_ok g0
  have b1 := arg_ok g1
  clear g0 g1 w0 w1
  obtain ⟨p, hp⟩ : ∃ p, p = wrap64 (Int.tmod a0 16) := ⟨_, rfl⟩
  obtain ⟨q, hq⟩ : ∃ q, q = wrap64 (Int.tmod a1 16) := ⟨_, rfl⟩
  have ep : wrap64 (Int.tmod a0 16) = p := hp.symm
  have eq : wrap64 (Int.tmod a1 16) = q := hq.symm
  clear hp hq
  rw [ep] at b0
  rw [eq] at b1
  obtain ⟨x, hx⟩ := as_element b0
  obtain ⟨y, hy⟩ := as_element b1
  have f := facts x y
  rw [← hx, ← hy] at f
  obtain ⟨f1, f2, ⟨r, f3, f4⟩, f5⟩ := f
  obtain ⟨s, hs⟩ : ∃ s : Int, s = (r.val : Int) := ⟨_, rfl⟩
  have bs : 0 ≤ s ∧ s < 16 := by omega
  rw [← hs] at f3 f4
  clear hx hy hs x y r
  have ADD := Aside0.mk (gadd_lt p q)
  have P := Aside0.mk b0
  have Q := Aside0.mk b1
  have S := Aside0.mk bs
  have F2 := Aside0.mk f2
  have F3 := Aside0.mk f3
  have c1 : (gmul (gadd p q) (gadd p q) == gadd (gmul p p) (gmul q q)) = true := beq_iff_eq.2 f1
  have c4 : (gmul s s == p) = true := beq_iff_eq.2 f4
  clear b0 b1 bs f1 f2 f3 f4
  go_enter Try.func7, Try.ntmps7
  go_wp2_with (first | (go_at_call 8; (with_reducible refine (sane_any _).mono ?_); rintro e w' ⟨rfl, ⟨nd, rfl⟩⟩) | (go_at_call 10; (with_reducible refine (power_any _ _ _ F2.out _).mono ?_); rintro e w' ⟨rfl, ⟨nd, rfl⟩⟩) | (go_at_call 10; (with_reducible refine (power_any _ _ _ F3.out _).mono ?_); rintro e w' ⟨rfl, ⟨nd, rfl⟩⟩) | (go_at_call 21; (with_reducible refine (add_any _ _ P.out Q.out _).mono ?_); rintro e w' ⟨rfl, ⟨nd, rfl⟩⟩) | (go_at_call 21; (with_reducible refine (add_any _ _ (gmul_lt _ _) (gmul_lt _ _) _).mono ?_); rintro e w' ⟨rfl, ⟨nd, rfl⟩⟩) | (go_at_call 11; (with_reducible refine (mul_any _ _ ADD.out ADD.out _).mono ?_); rintro e w' ⟨rfl, ⟨nd, rfl⟩⟩) | (go_at_call 11; (with_reducible refine (mul_any _ _ P.out P.out _).mono ?_); rintro e w' ⟨rfl, ⟨nd, rfl⟩⟩) | (go_at_call 11; (with_reducible refine (mul_any _ _ Q.out Q.out _).mono ?_); rintro e w' ⟨rfl, ⟨nd, rfl⟩⟩) | (go_at_call 11; (with_reducible refine (mul_any _ _ S.out S.out _).mono ?_); rintro e w' ⟨rfl, ⟨nd, rfl⟩⟩))
  go_ret
  exact ⟨by first | rfl | (simp; done) | (simp [*]; done), by repeat (first | exact Drawn0.refl _ | apply Drawn0.step)⟩
theorem walkB (a0 a1 : Int) (w : World) (w0 : (Lit.int .u8 a0).wf = true) (w1 : (Lit.int .u8 a1).wf = true) :
    Calls Try.prog 7 #[.int .u8 a0, .int .u8 a1] w fun e w' => e = .returned (.bool true) ∧ Below w.heap.size w w' :=
  (walk a0 a1 w w0 w1).mono fun _ _ ⟨h, d⟩ => ⟨h, d.below⟩
end Go.Proofs.Ytdigfgkbcpfjmaa.WFieldSquares
