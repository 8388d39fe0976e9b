/- Products are associative, the identity changes nothing, no product has a greater rank than its factors: what the printed law answers is true. No condition. -/
import Derived.Test.YtbdbfnkjbbbmdaaMatOpsMatrixProducts
import Derived.Test.YtbdbfnkjbbbmdaaMatSaneMatrixProducts
import Derived.Test.YtbdbfnkjbbbmdaaRMatrixProducts1
import Derived.Test.YtbdbfnkjbbbmdaaRanks
namespace Go.Proofs.Ytbdbfnkjbbbmdaa.Pure
set_option linter.unusedSimpArgs false
set_option linter.unusedVariables false
open Go.RowKit Go.Proofs.Ytbdbfnkjbbbmdaa.PMatrixProducts Go.Proofs.YtbdbfnkjbbbmdaaW.PrintWords Go.Proofs.YtbdbfnkjbbbmdaaW.PrintLast Go.Proofs.YtbdbfnkjbbbmdaaW.PrintMore Go.Proofs.Ytbdbfnkjbbbmdaa.Gf Go.Proofs.Ytbdbfnkjbbbmdaa.Lin Go.Proofs.Ytbdbfnkjbbbmdaa.MatData Go.Proofs.Ytbdbfnkjbbbmdaa.MatMatrixProducts
theorem dim_ok {s : List Int} (hs : s.length ≤ 500) {p : Int} (hp : 0 ≤ p) : ∃ (t p' : Int) (m : Nat), storagebartermake_Deck_Next.f s p 4 = some (t, p') ∧ wrap64 (1 + t) = (m : Int) ∧ 0 < m ∧ m ≤ 4 ∧ 0 ≤ p' := by
  obtain ⟨t, p', h, t0, t1, hp'⟩ := next_ok (a := 4) hs hp (by decide) (by decide)
  exact ⟨t, p', (1 + t).toNat, h, by unfold wrap64; omega, by omega, by omega, hp'⟩
theorem assoc_lists {m n o p : Nat} (a b c : List Int) (hm : 0 < m) (hn : 0 < n) (ho : 0 < o) (hp : 0 < p) : prod m o p (prod m n o a b) c = prod m n p a (prod n o p b c) := by
  refine cells_congr fun i hi j hj => ?_
  have e1 : mm o (ent o (prod m n o a b)) (ent p c) i j = mm o (mm n (ent n a) (ent o b)) (ent p c) i j := mm_congr (fun k hk => ent_prod a b hi hk) fun _ _ => rfl
  have e2 : mm n (ent n a) (ent p (prod n o p b c)) i j = mm n (ent n a) (mm o (ent o b) (ent p c)) i j := mm_congr (fun _ _ => rfl) fun k hk => ent_prod b c hk hj
  rw [e1, e2, mm_assoc]
theorem one_list {m n : Nat} {a : List Int} (ha : Valid m n a) : prod m n n a (cells n n idm) = a := by
  refine valid_ext (cells_valid _ ha.r0 ha.r1 ha.c0 ha.c1) ha fun i hi j hj => ?_
  refine (ent_prod a (cells n n idm) hi hj).trans ?_
  have e : mm n (ent n a) (ent n (cells n n idm)) i j = mm n (ent n a) idm i j := mm_congr (fun _ _ => rfl) fun k hk => ent_cells idm hk hj
  rw [e]
  exact mm_id' _ hj
theorem MatrixProducts : storagebarterlaw06_MatrixProducts.Pure := by
  intro l0 _ _ _
  refine Ev.rounds ?_
  unfold storagebarterlaw06_MatrixProducts.f
  refine Ev.bind sane_ok ?_
  simp only [if_true]
  unfold storagebartermake_Few.f
  simp only [Option.bind_some]
  by_cases hf : (l0.length : Int) ≤ 500
  · simp only [decide_eq_true hf, if_true]
    unfold storagebartermake_New.f
    simp only [Option.bind_some]
    have hs : l0.length ≤ 500 := by omega
    clear hf
    obtain ⟨t1, p1, m, e1, w1, m0, m4, hp1⟩ := dim_ok hs (p := 0) (by decide)
    obtain ⟨t2, p2, n, e2, w2, n0, n4, hp2⟩ := dim_ok hs hp1
    obtain ⟨t3, p3, o, e3, w3, o0, o4, hp3⟩ := dim_ok hs hp2
    obtain ⟨t4, p4, p, e4, w4, p0, p44, hp4⟩ := dim_ok hs hp3
    simp only [e1, e2, e3, e4, Option.bind_some, w1, w2, w3, w4]
    have up : ∀ {x : Nat}, x ≤ 4 → x ≤ 16 := fun h => Nat.le_trans h (by decide)
    obtain ⟨a, p5, ha, hp5, ea⟩ := made_ev hs hp4 m0 (up m4) n0 (up n4)
    obtain ⟨b, p6, hb, hp6, eb⟩ := made_ev hs hp5 n0 (up n4) o0 (up o4)
    obtain ⟨c, p7, hc, hp7, ec⟩ := made_ev hs hp6 o0 (up o4) p0 (up p44)
    refine Ev.bind ea ?_
    refine Ev.bind eb ?_
    refine Ev.bind ec ?_
    have hx := prod_valid ha hb
    have hy := prod_valid hb hc
    have hone := cells_valid (R := n) (C := n) idm n0 (up n4) n0 (up n4)
    refine Ev.bind (product_ev ha hb) ?_
    refine Ev.bind (product_ev hb hc) ?_
    refine Ev.bind (product_ev hx hc) ?_
    refine Ev.bind (product_ev ha hy) ?_
    have ei := identity_ev (n : Int)
    rw [identOf_ok n0 (up n4)] at ei
    refine Ev.bind ei ?_
    refine Ev.bind (product_ev ha hone) ?_
    obtain ⟨r, hr⟩ := exists_rank m n (ent n a)
    obtain ⟨s, hs'⟩ := exists_rank n o (ent o b)
    obtain ⟨q, hq⟩ := exists_rank m o (ent o (prod m n o a b))
    refine Ev.bind (rank_ev ha hr) ?_
    refine Ev.bind (rank_ev hb hs') ?_
    refine Ev.bind (rank_ev hx hq) ?_
    simp only [if_true]
    have i1 : q ≤ r := piv_le hq.2 ((hr.1.mulRight (ent o b)).congr fun i hi j hj => ent_prod a b hi hj)
    have i2 : q ≤ s := piv_le hq.2 ((hs'.1.mulLeft (ent n a)).congr fun i hi j hj => ent_prod a b hi hj)
    have s1 := same_ev (m : Int) (p : Int) (prod m o p (prod m n o a b) c) (valid_len (prod_valid hx hc))
    have s2 := same_ev (m : Int) (n : Int) a (valid_len ha)
    rw [← assoc_lists a b c m0 n0 o0 p0, one_list ha]
    refine Ev.bind s1 ?_
    simp only [if_true]
    refine Ev.bind s2 ?_
    simp only [if_true]
    have hd : decide ((q : Int) ≤ mn (r : Int) (s : Int)) = true := by
      refine decide_eq_true ?_
      unfold mn
      split <;> omega
    rw [hd]
    exact Ev.now _
  · simp only [decide_eq_false hf, Bool.false_eq_true, if_false]
    exact Ev.now _
end Go.Proofs.Ytbdbfnkjbbbmdaa.Pure
