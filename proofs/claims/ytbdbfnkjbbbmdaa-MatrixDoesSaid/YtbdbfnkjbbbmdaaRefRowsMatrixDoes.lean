/- The walk of ref06.rows at a valid matrix of elements: the rows, each in memory of its own. -/
import Derived.Test.YtbdbfnkjbbbmdaaMatRowsMatrixDoes
import Derived.Test.YtbdbfnkjbbbmdaaRefRowMatrixDoes
namespace Go.Proofs.Ytbdbfnkjbbbmdaa.MatMatrixDoes
set_option linter.unusedSimpArgs false
set_option linter.unusedVariables false
open Go.RowKit Go.Proofs.Ytbdbfnkjbbbmdaa.PMatrixDoes Go.Proofs.YtbdbfnkjbbbmdaaW.PrintWords Go.Proofs.YtbdbfnkjbbbmdaaW.PrintLast Go.Proofs.Ytbdbfnkjbbbmdaa.Gf Go.Proofs.Ytbdbfnkjbbbmdaa.Lin Go.Proofs.Ytbdbfnkjbbbmdaa.MatMem
theorem own_slice {w : World} {base m : Nat} {v : Value} {xs : List Value} (h : w.ownsRow base 3 1 v m xs) (hm : 0 < m) : ∃ g cap, v = .slice (some ⟨g, 0, none⟩) m cap ∧ base ≤ g ∧ mrow w g 3 cap m (fun i => xs.getD i default) := by
  rcases h.2 with ⟨_, h0⟩ | ⟨g, cap, cur, rfl, r1, r2, r3, r4, r5, r6⟩
  · omega
  · exact ⟨g, cap, rfl, mrow.of_owns h⟩
set_option maxHeartbeats 1000000 in
theorem rowsR_any (ad : Addr) (R C c n : Nat) (f : Nat → F) (w : World) (hn : n = R * C) (hR : 0 < R) (hR2 : R ≤ 16) (hC : 0 < C) (hC2 : C ≤ 16) (hc1 : R * C ≤ c) (hc : ∀ j, j < R * C → w.cell? (ad.add j) = some (.int .i64 ((f j).val : Int))) :
    Calls Try.prog 45 #[.agg #[.int .i64 (R : Int), .int .i64 (C : Int), .slice (some ad) n c]] w (RowsEnd R C f w) := by
  subst hn
  have HC := Aside0.mk hc
  have HR := Aside0.mk (And.intro hR (And.intro hC hc1))
  clear hc hR hC hc1
  obtain ⟨i3, hi, hz0, hz1, hz2⟩ := info_parts info24'
  have HI := Aside0.mk (And.intro hi (And.intro hz0 (And.intro hz1 hz2)))
  clear hi hz0 hz1 hz2
  obtain ⟨j3, hi, hz0, hz1, hz2⟩ := info_parts info3'
  have HJ := Aside0.mk (And.intro hi (And.intro hz0 (And.intro hz1 hz2)))
  clear hi hz0 hz1 hz2
  go_enter Try.func45, Try.ntmps45
  go_wp2
  obtain ⟨W1, hW1⟩ : ∃ W1, W1 = w.alloc (.cells #[.int .i64 (R : Int), .int .i64 (C : Int), .slice (some ad) (R * C) c] 26) := ⟨_, rfl⟩
  rw [← hW1]
  have HW1 := Aside0.mk hW1
  clear hW1
  go_loopg [3, 4] R (fun gk v3 v4 wr => ∃ (i : Nat) (hb cp : Nat → Nat), i ≤ R ∧ gk = R - i ∧ v4 = .int .i64 i ∧ Aside0 (Part wr (w.heap.size + 1) v3 i C hb cp (fun i j => f (i * C + j))) ∧ Aside0 (Below (w.heap.size + 1) W1 wr))
  case atStart =>
    go_light
    exact ⟨0, fun _ => 0, fun _ => 0, Nat.zero_le _, rfl, rfl, ⟨⟨own_nil _ _ _ _, fun t ht => absurd ht (by omega), fun t ht => absurd ht (by omega), fun t ht => absurd ht (by omega)⟩⟩, ⟨Below.refl _ _⟩⟩
  case round =>
    obtain ⟨i, hb, cp, hi, rfl, rfl, HP, HB⟩ := hrel
    have box : ∀ j v, (#[Value.int .i64 (R : Int), .int .i64 (C : Int), .slice (some ad) (R * C) c] : Array Value)[j]? = some v → wr.cell? ⟨w.heap.size, j, none⟩ = some v := by
      intro j v hv
      rw [HB.out.cell (by simp), HW1.out]
      simp [World.cell?_alloc_new, hv]
    have b0 := box 0 _ rfl
    have b1 := box 1 _ rfl
    have b2 := box 2 _ rfl
    clear box
    by_cases hiR : i < R
    · have hiR' : (i : Int) < (R : Int) := by omega
      have p0 : 0 ≤ (i : Int) * (C : Int) := by exact_mod_cast Nat.zero_le (i * C)
      have hle : i * C + C ≤ R * C := by
        have := Nat.mul_le_mul_right C (show i + 1 ≤ R by omega)
        rwa [Nat.add_mul, Nat.one_mul] at this
      have hb16 : R * C ≤ 256 := Nat.mul_le_mul hR2 hC2
      obtain ⟨p, hp⟩ : ∃ p, p = i * C := ⟨_, rfl⟩
      obtain ⟨q, hq⟩ : ∃ q, q = p + C := ⟨_, rfl⟩
      have HPQ := Aside0.mk (And.intro hp (And.intro hq (And.intro hle hb16)))
      have e1 : wrap64 ((i : Int) * (C : Int)) = (p : Int) := by
        have : (i : Int) * (C : Int) = (p : Int) := by rw [hp]; simp
        rw [this]; unfold wrap64; omega
      have e2 : wrap64 (((i : Int) + 1) * (C : Int)) = (q : Int) := by
        have : ((i : Int) + 1) * (C : Int) = (q : Int) := by rw [hq, hp, Int.add_mul, Int.one_mul]; simp
        rw [this]; unfold wrap64; omega
      obtain ⟨h1, h2, h3⟩ := HR.out
      have l1 : p ≤ q := by omega
      have l2 : q ≤ c := by omega
      have l3 : ¬ c = p := by omega
      have l4 : q - p = C := by omega
      clear hp hq hle hb16 p0 h1 h2 h3
      have HC' := Aside0.mk (show ∀ j, j < C → wr.cell? ((ad.add p).add j) = some (.int .i64 ((f (i * C + j)).val : Int)) by
        intro j hj
        obtain ⟨g1, g2, g3, g4⟩ := HPQ.out
        have hcj := HC.out (p + j) (by omega)
        have hlt := World.block_lt_of_cell? _ _ hcj
        rw [Addr.add_add, HB.out.cell (p := ad.add (p + j)) (by omega), HW1.out, World.cell?_alloc_old _ _ _ (by omega), hcj, g1])
      have hsz := HB.out.size
      rw [HW1.out] at hsz
      have HSZ := Aside0.mk hsz
      clear hsz
      go_wp2_with (at_builtin; refine wpList_append_own _ rfl (.const (.slice none 0 0)) (.tmp 23) 24 rfl wr.heap.size 3 j3 (.int .i64 0) 1 8 Try.underlying24 HJ.out.1 HJ.out.2.1 HJ.out.2.2.1 HJ.out.2.2.2 rfl Nat.one_pos (.slice none 0 0) 0 [] rfl (own_nil _ _ _ _) (ad.add p) C (c - p) ((List.range C).map fun j => Value.int .i64 ((f (i * C + j)).val : Int)) ?a0 (by simp) ?a1 (elems_one C _) ?a2 ?a3 ?a4 ?_)
      case a0 => simp [Act.eval, Act.put, l4]
      case a1 =>
        intro j u hu
        exact elems_news HC'.out j u hu
      case a2 => simp [maxLen]; omega
      case a3 => omega
      case a4 => simp
      intro v1 w1 hown1 hg1 hnil1
      (try simp only [Nat.zero_add, List.nil_append] at hown1)
      obtain ⟨g2, cap2, rfl, hg2, hr2⟩ := own_slice hown1 HR.out.2.1
      have hb2 : Below wr.heap.size wr w1 := (Below.refl _ _).grown hg1 (Nat.le_refl _) (fun k hk => by simp [Value.ownBlock] at hk)
      have HG2 := Aside0.mk (And.intro hg2 (And.intro (hr2.congr (g := fun j => .int .i64 ((f (i * C + j)).val : Int)) fun j hj => by simp [hj, List.getD_eq_getElem?_getD]) hb2))
      clear hg2 hr2 hb2 hown1 hg1 hnil1
      go_wp2_with (at_builtin; refine wpList_append_own _ rfl (.tmp 11) (.tmp 25) 51 rfl (w.heap.size + 1) 24 i3 (.slice none 0 0) 1 24 Try.underlying51 HI.out.1 HI.out.2.1 HI.out.2.2.1 HI.out.2.2.2 rfl Nat.one_pos u3 i ((List.range i).map fun t => Value.slice (some ⟨hb t, 0, none⟩) C (cp t)) rfl ?c0 ⟨w1.heap.size, 0, none⟩ 1 1 [.slice (some ⟨g2, 0, none⟩) C cap2] rfl rfl ?c1 ?c2 ?c3 ?c4 ?c5 ?_)
      case c0 => exact ((HP.out.below HG2.out.2.2).own).alloc _
      case c1 =>
        intro j u hu
        rw [Addr.add_lit]
        obtain ⟨rfl, rfl⟩ : j = 0 ∧ u = .slice (some ⟨g2, 0, none⟩) C cap2 := by
          rcases j with _ | j
          · exact ⟨rfl, by simpa using hu.symm⟩
          · simp at hu
        simp [World.cell?_alloc_new]
      case c2 =>
        intro u hu
        rw [List.mem_singleton.1 hu]
        rfl
      case c3 => simp [maxLen]; omega
      case c4 => omega
      case c5 =>
        have h1 := HSZ.out
        have h2 := HG2.out.2.2.size
        simp at h1 ⊢
        omega
      intro v' w2 hown hg hnil
      have HO := Aside0.mk (And.intro hown hg)
      clear hown hg hnil
      go_wp2
      go_roundg (R - (i + 1))
      case measure => go_light; omega
      case rel =>
        go_light
        obtain ⟨h1, h2, h3⟩ := HG2.out
        obtain ⟨h4, h5⟩ := HO.out
        have h6 := HSZ.out
        simp at h6
        refine ⟨i + 1, _, _, by omega, rfl, by go_num, ⟨((HP.out.below h3).below ((Below.refl _ _).alloc (Nat.le_refl _) _)).snoc (B := wr.heap.size) (fun t ht => (HP.out.row t ht).lt) h1 (by omega) (h2.alloc _) h4 h5⟩, ⟨(HB.out.trans ((h3.mono (by omega)).alloc (by have := h3.size; omega) _)).grown h5 ?_ ?_⟩⟩
        · have := h3.size
          simp; omega
        · intro k hk
          exact own_base (HP.out.own) k hk
    · have hiR' : ¬ (i : Int) < (R : Int) := by omega
      go_wp2
      go_ret
      go_light
      obtain rfl : i = R := by omega
      obtain ⟨g, cap, rfl, hm⟩ := HP.out.mat HR.out.1
      refine ⟨g, cap, hb, cp, rfl, hm.lower (Nat.le_succ _), Below.trans ?_ (HB.out.mono (Nat.le_succ _))⟩
      rw [HW1.out]
      exact (Below.refl _ _).alloc (Nat.le_refl _) _
end Go.Proofs.Ytbdbfnkjbbbmdaa.MatMatrixDoes
