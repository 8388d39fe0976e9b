/- The walk of ref06.Inverse at a valid square matrix: the inverse, or the error. -/
import Derived.Test.YtbdbfnkjbbbmdaaRefRankMatrixDoes
import Derived.Test.YtbdbfnkjbbbmdaaMatInvMatrixDoes
import Derived.Test.YtbdbfnkjbbbmdaaMatMakeMatrixDoes
namespace Go.Proofs.Ytbdbfnkjbbbmdaa.MatMatrixDoes
set_option linter.unusedSimpArgs false
set_option linter.unusedVariables false
open Go.RowKit Go.Proofs.Ytbdbfnkjbbbmdaa.PMatrixDoes Go.Proofs.YtbdbfnkjbbbmdaaW.PrintWords Go.Proofs.YtbdbfnkjbbbmdaaW.PrintLast Go.Proofs.Ytbdbfnkjbbbmdaa.Gf Go.Proofs.Ytbdbfnkjbbbmdaa.Lin Go.Proofs.Ytbdbfnkjbbbmdaa.MatMem Go.Proofs.Ytbdbfnkjbbbmdaa.MatData
theorem identR_any (n : Nat) (n0 : 0 < n) (n16 : n ≤ 16) (w : World) : Calls Try.prog 14 #[.int .i64 (n : Int)] w fun e w' => ∃ A c, e = .returned (.tuple #[.agg #[.int .i64 (n : Int), .int .i64 (n : Int), .slice A (cells n n idm).length c], .int .i64 0]) ∧ (cells n n idm).length ≤ c ∧ Kd.C (Kd.int .i64) w' A (cells n n idm).length (cells n n idm) ∧ Below w.heap.size w w' := by
  have e : storagebarterref06_Identity.f 30 (n : Int) = some ((n : Int), (n : Int), cells n n idm, 0) := by
    have := (by decide +kernel : ∀ m : Fin 17, m.val ≠ 0 → storagebarterref06_Identity.f 30 (m.val : Int) = some (identOf (m.val : Int))) ⟨n, by omega⟩ (by show n ≠ 0; omega)
    rw [show identOf (n : Int) = _ from identOf_ok n0 n16] at this
    exact this
  refine (storagebarterref06_Identity.calls 30 (n : Int) _ _ _ _ w e).mono ?_
  rintro e w' ⟨v, rfl, hr, hb⟩
  obtain ⟨A, c, rfl⟩ := Kd.R_slice hr
  exact ⟨A, c, rfl, (Kd.R_reads' hr).2.1, (Kd.R_reads' hr).2.2, hb⟩
theorem ret31 (tmps : Array Value) (w : World) (g : Nat) (cs : Array Value) (u : Value) (hp : tmps.getD 2 undef = .pointer (some ⟨g, 0, none⟩)) (hu : tmps.getD 3 undef = u) (hg : w.heap[g]? = some (.cells cs 26 (0, 0))) (hs : cs.size = 3) :
    (results Try.f31 tmps).run Try.prog w = .ok (.tuple #[.agg cs, u]) w := by
  rw [results_cell_tmp (p := 2) (u := 3) (ty := 26) (by kernel_rfl), hp, hu]
  have hi : (Try.prog.info? 26).map (·.size) = some cs.size := by rw [hs]; kernel_rfl
  simp [asAddr, Result.andThen, run_loadVar_row w g 26 26 cs (0, 0) _ hg Try.underlying26 rfl hi]
/-- A matrix of full rows beside another one. -/
def RowSide (Q : Nat → Prop) (base g2 cap2 n W2 : Nat) (w : World) (A : Nat → Option Addr) (cp : Nat → Nat) (U : Nat → Nat → F) : Prop := ∃ hb : Nat → Nat, Mat w base g2 cap2 n W2 hb cp U ∧ (∀ i, i < n → Q (hb i)) ∧ ∀ i, A i = some ⟨hb i, 0, none⟩
theorem row_side (Q : Nat → Prop) (base g2 cap2 n W2 : Nat) (hQ : Q g2) (hW2 : W2 ≤ 32) : Side Q g2 n W2 (RowSide Q base g2 cap2 n W2) := by
  refine ⟨hQ, fun {w A cp U i} ⟨hb, hm, hq, ha⟩ hi => ?_, fun i ⟨hb, hm, hq, ha⟩ => hm.top.frozen i, fun ⟨hb, hm, hq, ha⟩ hbut hd => ⟨hb, Mat.but hm hbut hQ hq hd, hq, ha⟩, fun {w A cp U p q} ⟨hb, hm, hq, ha⟩ hp hq' => ⟨fun i => hb (swp p q i), ?_, fun i hi => hq _ (swp_lt hp hq' hi), fun i => ha _⟩, fun {w A cp U i} y ⟨hb, hm, hq, ha⟩ hi => ?_, fun {w A cp U i r} y ⟨hb, hm, hq, ha⟩ hi hr hne => ?_⟩
  · rw [ha]
    exact hm.head hi
  · rw [ha, ha]
    exact hm.swap hp hq'
  · rw [ha]
    refine (scale_any (hb i) (cp i) W2 (U i) y w (hm.row i hi) hW2).mono ?_
    rintro e w' ⟨rfl, hr, hbut⟩
    refine ⟨rfl, ⟨hb, (Mat.newRow hm hi hbut hr).congr fun a _ b _ => ?_, hq, ha⟩, hbut.mono fun k e => by rw [e]; exact hq i hi⟩
    by_cases e : a = i
    · subst e; rfl
    · simp [e]
  · rw [ha, ha]
    refine (take_any (hb i) (cp i) (hb r) (cp r) W2 (U i) (U r) y w (hm.row i hi) (hm.row r hr) (fun e => hne (hm.inj _ hr _ hi e)) hW2).mono ?_
    rintro e w' ⟨rfl, hr', hbut⟩
    refine ⟨rfl, ⟨hb, (Mat.newRow hm hi hbut hr').congr fun a _ b _ => ?_, hq, ha⟩, hbut.mono fun k e => by rw [e]; exact hq i hi⟩
    by_cases e : a = i
    · subst e; rfl
    · simp [e]
/-- What reduce leaves at a matrix with an identity beside it. -/
def RedEnd (n : Nat) (l : List Int) (base g2 cap2 : Nat) (w : World) (e : Ending) (w' : World) : Prop :=
  ∃ r : Nat, e = .returned (.int .i64 (r : Int)) ∧ Below base w w' ∧ ((r < n ∧ IsRank n n (ent n l) r) ∨ (r = n ∧ IsRank n n (ent n l) n ∧ ∃ (hb cp : Nat → Nat) (U : Nat → Nat → F), Mat w' base g2 cap2 n n hb cp U ∧ IsInv n l (cells n n U)))
theorem red_end {P Q : Nat → Prop} {n bm g cap bu g2 cap2 base : Nat} {l : List Int} {w : World} (hv : Valid n n l) (hs : base ≤ w.heap.size) (hP : ∀ k, P k → base ≤ k) (hQ : ∀ k, Q k → base ≤ k) (hbu : bu = base) :
    ∀ e w', ReduceREnd P Q bm g cap n n n (RowSide Q bu g2 cap2 n n) (fun i j => el l (i * n + j)) idm w e w' → RedEnd n l base g2 cap2 w e w' := by
  subst hbu
  rintro e w' ⟨r, k, hb', cp', A', cp2', M', U', rfl, hm', ⟨hbu, hmu, _, _⟩, hi', hrn, hkn, hor, hbut⟩
  refine ⟨r, rfl, hbut.toBelow hs fun q hq => hq.elim (hP q) (hQ q), ?_⟩
  have hj : ∀ i, i < n → ∀ j, j < n → ent n l i j = joined n (fun i j => el l (i * n + j)) idm i j := fun i _ j hj => (if_pos hj).symm
  by_cases hr : r < n
  · have hk : k = n := by omega
    subst hk
    exact .inl ⟨hr, (hi'.rank (by omega)).congr hj⟩
  · have hr' : r = n := by omega
    have hrank := (hi'.rank_full (C := n) (by omega) hkn hr').congr hj
    subst hr'
    have hsq := hi'.square hkn
    have hinv := inverse_of rfl hi'.eq (fun a ha b hb => by unfold joined; rw [if_neg (by omega), show r + b - r = b by omega]) hsq
    have hjr : ∀ a b, joined r M' U' a (r + b) = U' a b := fun a b => by unfold joined; rw [if_neg (by omega), show r + b - r = b by omega]
    refine .inr ⟨rfl, hrank, hbu, cp2', U', hmu, cells_valid _ hv.r0 hv.r1 hv.c0 hv.c1, fun a ha b hb => ?_, fun a ha b hb => ?_⟩
    · rw [← hinv.1 a ha b hb]
      exact mm_congr (fun k hk => hj a ha k hk) fun k hk => (ent_cells U' hk hb).trans (hjr k b).symm
    · rw [← hinv.2 a ha b hb]
      exact mm_congr (fun k hk => (ent_cells U' ha hk).trans (hjr a k).symm) fun k hk => hj k hk b hb
set_option maxHeartbeats 4000000 in
theorem inverseR_valid (n c : Nat) (A : Option Addr) (l : List Int) (w : World) (h : Kd.C (Kd.int .i64) w A l.length l) (hc : l.length ≤ c) (hv : Valid n n l) :
    Calls Try.prog 31 #[.agg #[.int .i64 (n : Int), .int .i64 (n : Int), .slice A l.length c]] w (InvEnd n l w) := by
  have hlen := hv.len
  have hl : l.length ≤ 140737488355328 := by
    have := Nat.mul_le_mul hv.r1 hv.c1
    omega
  have chkC := fun (o o' : Obj) => Aside0.mk (storagebarterref06_Check_any (n : Int) (n : Int) A c l ((w.alloc o).alloc o') (Kd.C_below h (((Below.refl _ _).alloc (Nat.le_refl _) o).alloc (by simp) o')) hc hl)
  obtain ⟨ad, rfl, hcells⟩ := cells_C h (by rw [hlen]; exact Nat.mul_pos hv.r0 hv.c0) hv.els
  have hk := chk_valid hv
  have HV := Aside0.mk hv
  have c0 : (chk (n : Int) (n : Int) l != 0) = false := by rw [hk]; rfl
  have HK := Aside0.mk hk
  have HC := Aside0.mk hcells
  have HCC := Aside0.mk hc
  clear hk hcells h hc hlen hv hl
  go_enter Try.func31, Try.ntmps31
  go_upto_region 2 with (go_at_call 33; (with_reducible refine ((chkC _ _).out).mono ?_); rintro e w' ⟨rfl, hb⟩; have HB := Aside0.mk hb; clear hb)
  have hb := HB.out
  have box : ∀ j v, (#[Value.int .i64 (n : Int), .int .i64 (n : Int), .slice (some ad) l.length c] : Array Value)[j]? = some v → w'.cell? ⟨w.heap.size, j, none⟩ = some v := by
    intro j v hv
    rw [hb.cell (p := ⟨w.heap.size, j, none⟩) (by simp; omega), World.cell?_alloc_old _ _ _ (by simp)]
    simp [World.cell?_alloc_new, hv]
  have b0 := box 0 _ rfl
  have b1 := box 1 _ rfl
  have b2 := box 2 _ rfl
  have hout : w'.heap[w.heap.size + 1]? = some (.cells #[.int .i64 0, .int .i64 0, .slice none 0 0] 26 (0, 0)) := block_new hb (by simp)
  have HOUT := Aside0.mk hout
  have hsz : w.heap.size + 2 ≤ w'.heap.size := by have := hb.size; simpa using this
  have HSZ := Aside0.mk hsz
  have HC2 := Aside0.mk (show ∀ j, j < n * n → w'.cell? (ad.add j) = some (.int .i64 ((el l j).val : Int)) by
    intro j hj
    have hcj := HC.out j (by rw [HV.out.len]; exact hj)
    have hbl := World.block_lt_of_cell? _ _ hcj
    show w'.cell? (ad.add j) = _
    rw [hb.cell (p := ad.add j) (by simp; omega), World.cell?_alloc_old _ _ _ (by simp; omega), World.cell?_alloc_old _ _ _ (by omega), hcj])
  clear box hb hsz hout
  obtain ⟨i3, hi, hz0, hz1, hz2⟩ := info_parts info3'
  have HI := Aside0.mk (And.intro hi (And.intro hz0 (And.intro hz1 hz2)))
  clear hi hz0 hz1 hz2
  have hn16 : n ≤ 16 := HV.out.c1
  go_upto_region 7 with (go_at_call 14; (with_reducible refine (identR_any n HV.out.r0 HV.out.r1 _).mono ?_); rintro e w5 ⟨A5, c5, rfl, hc5, hk5, hb5⟩; have HI5 := Aside0.mk (And.intro hc5 (And.intro hk5 hb5)); clear hc5 hk5 hb5)
  have hv5 := cells_valid (R := n) (C := n) idm HV.out.r0 HV.out.r1 HV.out.c0 HV.out.c1
  obtain ⟨ad5, rfl, hcells5⟩ := cells_C HI5.out.2.1 (by rw [hv5.len]; exact Nat.mul_pos HV.out.r0 HV.out.c0) hv5.els
  have HV5 := Aside0.mk hv5
  obtain ⟨W6, hW6⟩ : ∃ W6, W6 = w5.alloc (.cells #[.int .i64 (n : Int), .int .i64 (n : Int), .slice (some ad5) (cells n n idm).length c5] 26) := ⟨_, rfl⟩
  rw [← hW6]
  have hb6 : Below w5.heap.size w5 W6 := by rw [hW6]; exact (Below.refl _ _).alloc (Nat.le_refl _) _
  have hs6 : W6.heap.size = w5.heap.size + 1 := by rw [hW6]; simp
  have q0 : W6.cell? ⟨w5.heap.size, 0, none⟩ = some (.int .i64 (n : Int)) := by rw [hW6]; simp [World.cell?_alloc_new]
  have q1 : W6.cell? ⟨w5.heap.size, 1, none⟩ = some (.int .i64 (n : Int)) := by rw [hW6]; simp [World.cell?_alloc_new]
  have q2 : W6.cell? ⟨w5.heap.size, 2, none⟩ = some (.slice (some ad5) (cells n n idm).length c5) := by rw [hW6]; simp [World.cell?_alloc_new]
  have HC5 := Aside0.mk (show ∀ j, j < n * n → W6.cell? (ad5.add j) = some (.int .i64 ((el (cells n n idm) j).val : Int)) by
    intro j hj
    have hcj := hcells5 j (by rw [HV5.out.len]; exact hj)
    rw [hb6.cell (p := ad5.add j) (World.block_lt_of_cell? _ _ hcj), hcj])
  have HB6 := Aside0.mk (And.intro (HI5.out.2.2.trans (hb6.mono HI5.out.2.2.size)) hs6)
  have HCC5 := Aside0.mk HI5.out.1
  clear hv5 hcells5 hb6 hs6 hW6 HI5
  go_upto_region 8 with (go_at_call 45; (with_reducible refine (rowsR_any ad5 n n c5 (cells n n idm).length (el (cells n n idm)) W6 HV5.out.len HV.out.r0 HV.out.r1 HV.out.c0 HV.out.c1 (by have := HCC5.out; have := HV5.out.len; omega) HC5.out).mono ?_); rintro e w7 ⟨g2, cap2, hb0, cp0, rfl, hm, hbel⟩; have HM7 := Aside0.mk (And.intro hm hbel); clear hm hbel)
  have HW7 := Aside0.mk (show Below w'.heap.size w' w7 from HB6.out.1.trans (HM7.out.2.mono HB6.out.1.size))
  clear q0 q1 q2
  have s7 : w.heap.size + 2 ≤ w'.heap.size := HSZ.out
  have d0 := (HW7.out.cell (p := ⟨w.heap.size, 0, none⟩) (by show w.heap.size < _; omega)).trans b0
  have d1 := (HW7.out.cell (p := ⟨w.heap.size, 1, none⟩) (by show w.heap.size < _; omega)).trans b1
  have d2 := (HW7.out.cell (p := ⟨w.heap.size, 2, none⟩) (by show w.heap.size < _; omega)).trans b2
  clear b0 b1 b2 s7
  have HC7 := Aside0.mk (show ∀ j, j < n * n → w7.drew.cell? (ad.add j) = some (.int .i64 ((el l j).val : Int)) from fun j hj => by
    have hcj := HC2.out j hj
    show w7.cell? _ = _
    rw [HW7.out.cell (p := ad.add j) (World.block_lt_of_cell? _ _ hcj), hcj])
  have HUU : Aside0 (RowSide (fun q => W6.heap.size ≤ q ∧ q < w7.heap.size) W6.heap.size g2 cap2 n n w7 (fun i => some ⟨hb0 i, 0, none⟩) cp0 idm) := ⟨hb0, HM7.out.1.congr fun i hi j hj => (ent_cells idm hi hj).symm, fun i hi => ⟨HM7.out.1.base_h i hi, (HM7.out.1.row i hi).lt⟩, fun i => rfl⟩
  have HQ := Aside0.mk (row_side (fun q => W6.heap.size ≤ q ∧ q < w7.heap.size) W6.heap.size g2 cap2 n n ⟨HM7.out.1.base_g, HM7.out.1.top.lt⟩ (by omega))
  have hcap2 : n ≤ cap2 := by
    obtain ⟨_, _, _, h3, _⟩ := HM7.out.1.top
    exact h3
  have HCAP := Aside0.mk hcap2
  clear hcap2
  have redC := Aside0.mk (fun (w8 : World) (g cap : Nat) (hb cp : Nat → Nat) (hm : Mat w8 w7.drew.heap.size g cap n n hb cp (fun i j => el l (i * n + j))) (hbel : Below w7.drew.heap.size w7.drew w8) =>
    (reduceR_any (fun q => w7.heap.size ≤ q) (fun q => W6.heap.size ≤ q ∧ q < w7.heap.size) w7.drew.heap.size g cap n n g2 cap2 n _ HQ.out (fun k h1 h2 => Nat.not_lt.2 h1 h2.2) hm.base_g hb cp _ _ _ _ w8 hm (fun i hi => hm.base_h i hi) (HQ.out.but (w := w7) (P := fun q => w7.heap.size ≤ q) HUU.out ⟨⟨hbel.os, hbel.tape, hbel.output, hbel.size, fun k hk => absurd hk (Nat.not_lt_zero k)⟩, fun k hk hn => hbel.block k hk⟩ (fun k h1 h2 => Nat.not_lt.2 h1 h2.2)) HV.out.r0 hn16 (by omega) HCAP.out).mono
      (red_end (base := W6.heap.size) HV.out (Nat.le_trans HM7.out.2.size hbel.size) (fun k h => Nat.le_trans HM7.out.2.size h) (fun k h => h.1) rfl))
  by_cases hrk : ∃ r, r < n ∧ IsRank n n (ent n l) r
  · have HRK := Aside0.mk hrk
    clear hrk
    go_region_held3 (fun X => X.cell? ⟨w.heap.size, 0, none⟩ = some (.int .i64 (n : Int)) ∧ X.cell? ⟨w.heap.size, 1, none⟩ = some (.int .i64 (n : Int)) ∧ X.cell? ⟨w.heap.size, 2, none⟩ = some (.slice (some ad) l.length c)) (first | exact ⟨f0, f1, f2⟩ | exact ⟨e0, e1, e2⟩ | go_keep) (first | (go_at_call 45; (with_reducible refine (rowsR_any ad n n c l.length (el l) w7.drew HV.out.len HV.out.r0 HV.out.r1 HV.out.c0 HV.out.c1 (by have := HCC.out; have := HV.out.len; omega) HC7.out).mono ?_); rintro e w8 ⟨g, cap, hb1, cp1, rfl, hm, hbel⟩; have hl0 : w.heap.size < w7.heap.size := Nat.lt_of_lt_of_le (Nat.lt_of_lt_of_le (by omega) HSZ.out) HW7.out.size; have e0 := (hbel.cell (p := ⟨w.heap.size, 0, none⟩) hl0).trans d0; have e1 := (hbel.cell (p := ⟨w.heap.size, 1, none⟩) hl0).trans d1; have e2 := (hbel.cell (p := ⟨w.heap.size, 2, none⟩) hl0).trans d2; clear hl0; have HM8 := Aside0.mk (And.intro hm hbel); clear hm hbel) | (go_at_call 44; (refine (redC.out w8 g cap hb1 cp1 HM8.out.1 HM8.out.2).mono ?_); rintro e w9 ⟨r, rfl, hb9, hor⟩; have hlt : r < n := (by obtain ⟨r', h1, h2⟩ := HRK.out; rcases hor with h | h; exact h.1; exact absurd (h.2.1.unique h2) (by omega)); have hlt' : (r : Int) < (n : Int) := (by omega); clear hor; have hl6 : w.heap.size < W6.heap.size := Nat.lt_of_lt_of_le (Nat.lt_of_lt_of_le (by omega) HSZ.out) HB6.out.1.size; have f0 := (hb9.cell (p := ⟨w.heap.size, 0, none⟩) hl6).trans e0; have f1 := (hb9.cell (p := ⟨w.heap.size, 1, none⟩) hl6).trans e1; have f2 := (hb9.cell (p := ⟨w.heap.size, 2, none⟩) hl6).trans e2; clear hl6; have HB9 := Aside0.mk hb9; clear hb9))
    have HW9 := Aside0.mk (((HW7.out.trans ((Below.refl _ _).drew)).trans (HM8.out.2.mono HW7.out.size)).trans (HB9.out.mono HB6.out.1.size))
    have hw9 : w9.heap[w.heap.size + 1]? = some (.cells #[.int .i64 0, .int .i64 0, .slice none 0 0] 26 (0, 0)) := by
      have h2 := HSZ.out
      rw [HW9.out.block _ (by omega)]
      exact HOUT.out
    have k0 : w9.cell? ⟨w.heap.size + 1, 0, none⟩ = some (.int .i64 0) := by simp [World.cell?, hw9]
    have k1 : w9.cell? ⟨w.heap.size + 1, 1, none⟩ = some (.int .i64 0) := by simp [World.cell?, hw9]
    have k2 : w9.cell? ⟨w.heap.size + 1, 2, none⟩ = some (.slice none 0 0) := by simp [World.cell?, hw9]
    have z0 : ∀ i, w9.frozen? ⟨w.heap.size + 1, i, none⟩ = false := fun i => by simp [World.frozen?, hw9]
    have Z0 := z0 0
    have Z1 := z0 1
    have Z2 := z0 2
    have HX9 := Aside0.mk hw9
    clear z0 hw9
    go_wp2
    (try simp only [Exit.inBlock, Exit.then])
    refine bodyPost_ret (ret31 _ _ (w.heap.size + 1) #[.int .i64 0, .int .i64 0, .slice none 0 0] (.int .i64 14) rfl rfl (blk_put (blk_put (blk_put HX9.out 0 _ rfl) 1 _ rfl) 2 _ rfl) rfl) rfl ?_
    have h2 := HSZ.out
    have e1 : Below w.heap.size w w' := (((Below.refl _ _).alloc (Nat.le_refl _) _).alloc (by simp) _).trans (HB.out.mono (by simp; omega))
    have e2 : Below w.heap.size w w9 := e1.trans (HW9.out.mono (by omega))
    exact ⟨((e2.setCell (by simp) _).setCell (by simp) _).setCell (by simp) _, .inr ⟨HRK.out, rfl⟩⟩
  · have HRK := Aside0.mk hrk
    clear hrk
    go_region_held3 (fun X => X.cell? ⟨w.heap.size, 0, none⟩ = some (.int .i64 (n : Int)) ∧ X.cell? ⟨w.heap.size, 1, none⟩ = some (.int .i64 (n : Int)) ∧ X.cell? ⟨w.heap.size, 2, none⟩ = some (.slice (some ad) l.length c)) (first | exact ⟨f0, f1, f2⟩ | exact ⟨e0, e1, e2⟩ | go_keep) (first | (go_at_call 45; (with_reducible refine (rowsR_any ad n n c l.length (el l) w7.drew HV.out.len HV.out.r0 HV.out.r1 HV.out.c0 HV.out.c1 (by have := HCC.out; have := HV.out.len; omega) HC7.out).mono ?_); rintro e w8 ⟨g, cap, hb1, cp1, rfl, hm, hbel⟩; have hl0 : w.heap.size < w7.heap.size := Nat.lt_of_lt_of_le (Nat.lt_of_lt_of_le (by omega) HSZ.out) HW7.out.size; have e0 := (hbel.cell (p := ⟨w.heap.size, 0, none⟩) hl0).trans d0; have e1 := (hbel.cell (p := ⟨w.heap.size, 1, none⟩) hl0).trans d1; have e2 := (hbel.cell (p := ⟨w.heap.size, 2, none⟩) hl0).trans d2; clear hl0; have HM8 := Aside0.mk (And.intro hm hbel); clear hm hbel) | (go_at_call 44; (refine (redC.out w8 g cap hb1 cp1 HM8.out.1 HM8.out.2).mono ?_); rintro e w9 ⟨r, rfl, hb9, hor⟩; have hX := (show r = n ∧ IsRank n n (ent n l) n ∧ ∃ (hb cp : Nat → Nat) (U : Nat → Nat → F), Mat w9 W6.heap.size g2 cap2 n n hb cp U ∧ IsInv n l (cells n n U) from hor.elim (fun h => absurd ⟨r, h⟩ HRK.out) id); have hre := hX.1; subst hre; have HX := Aside0.mk hX.2; clear hor hX; have hlt' : ¬ (r : Int) < (r : Int) := (by omega); have hl6 : w.heap.size < W6.heap.size := Nat.lt_of_lt_of_le (Nat.lt_of_lt_of_le (by omega) HSZ.out) HB6.out.1.size; have f0 := (hb9.cell (p := ⟨w.heap.size, 0, none⟩) hl6).trans e0; have f1 := (hb9.cell (p := ⟨w.heap.size, 1, none⟩) hl6).trans e1; have f2 := (hb9.cell (p := ⟨w.heap.size, 2, none⟩) hl6).trans e2; clear hl6; have HB9 := Aside0.mk hb9; clear hb9))
    obtain ⟨hrank, hbu, cpu, U, hmu, hinv⟩ := HX.out
    have HMU := Aside0.mk hmu
    have HINV := Aside0.mk (And.intro hrank hinv)
    clear HX hmu hrank hinv
    have HW9 := Aside0.mk (((HW7.out.trans ((Below.refl _ _).drew)).trans (HM8.out.2.mono HW7.out.size)).trans (HB9.out.mono HB6.out.1.size))
    have hw9 : w9.heap[w.heap.size + 1]? = some (.cells #[.int .i64 0, .int .i64 0, .slice none 0 0] 26 (0, 0)) := by
      have h2 := HSZ.out
      rw [HW9.out.block _ (by omega)]
      exact HOUT.out
    have HX9 := Aside0.mk hw9
    clear hw9
    go_upto_region 11 with fail
    obtain ⟨w4, hw4⟩ : ∃ w4 : World, w4.heap[w9.heap.size]? = some (.cells #[.int .i64 (r : Int), .int .i64 (r : Int), .slice none 0 0] 26 (0, 0)) ∧ Below w9.heap.size w9 w4 ∧ w4 = w9.alloc (.cells #[.int .i64 (r : Int), .int .i64 (r : Int), .slice none 0 0] 26) :=
      ⟨_, blk_new _ _, (Below.refl _ _).alloc (Nat.le_refl _) _, rfl⟩
    rw [← hw4.2.2]
    have H4 := Aside0.mk (And.intro hw4.1 hw4.2.1)
    clear hw4
    obtain ⟨B1, hB1⟩ : ∃ B1, B1 = w9.heap.size := ⟨_, rfl⟩
    rw [← hB1] at H4
    try rw [← hB1]
    have HB1E := Aside0.mk hB1
    clear hB1 f0 f1 f2 e0 e1 e2 d0 d1 d2
    obtain ⟨J, hJ⟩ : ∃ J : Nat → Nat → F, J = fun a b => U a (b - r) := ⟨_, rfl⟩
    have hJU : ∀ a b, J a (r + b) = U a b := fun a b => by rw [hJ]; show U a (r + b - r) = _; rw [show r + b - r = b by omega]
    have HJ := Aside0.mk hJU
    clear hJ hJU
    go_wp2
    go_loopg [46] r (fun gk v46 wr => ∃ (t p : Nat) (A : Option Addr) (c2 : Nat), t ≤ r ∧ gk = r - t ∧ v46 = .int .i64 t ∧ Aside0 (p = t * r) ∧ Aside0 (wr.heap[B1]? = some (.cells #[.int .i64 (r : Int), .int .i64 (r : Int), .slice A p c2] 26 (0, 0))) ∧ Aside0 (wr.ownsRow (B1 + 1) 3 1 (.slice A p c2) p (nums .i64 (outs r J t))) ∧ Aside0 (Below B1 w9 wr))
    case atStart =>
      go_light
      exact ⟨0, 0, none, 0, Nat.zero_le _, rfl, rfl, ⟨by simp⟩, ⟨H4.out.1⟩, ⟨by simpa [outs, nums] using own_nil _ _ _ _⟩, ⟨H4.out.2⟩⟩
    case round =>
      clear H4
      obtain ⟨t, p, A, c2, htr, rfl, rfl, HP, HK5, HO5, HB5⟩ := hrel
      have hm5 : Mat wr W6.heap.size g2 cap2 r r hbu cpu U := by
        refine HMU.out.of_same fun k _ hk => HB5.out.block k (by rw [HB1E.out]; exact hk)
      by_cases ht : t < r
      · have ht' : (t : Int) < (r : Int) := by omega
        have c3 := hm5.head ht
        have hrow := hm5.row t ht
        have hr0 : 0 < r := by omega
        have k2 : wr.cell? ⟨B1, 2, none⟩ = some (.slice A p c2) := by simp [World.cell?, HK5.out]
        have HNW := Aside0.mk (elems_news (ad := ⟨hbu t, 0, none⟩) (m := r) (f := fun j => J t (r + j)) (w := wr) (by
          intro j hj
          rw [Addr.add_lit, Nat.zero_add, HJ.out]
          exact hrow.cell hj))
        have hp16 : p ≤ 256 := by rw [HP.out]; exact Nat.mul_le_mul (by omega : t ≤ 16) hn16
        have HBS := Aside0.mk (show B1 + 1 ≤ wr.heap.size by have := blk_lt HK5.out; omega)
        clear hrow
        go_wp2_with (at_builtin; refine wpList_append_own _ rfl (.tmp 51) (.tmp 52) 24 rfl (B1 + 1) 3 i3 (.int .i64 0) 1 8 Try.underlying24 HI.out.1 HI.out.2.1 HI.out.2.2.1 HI.out.2.2.2 rfl Nat.one_pos (.slice A p c2) p (nums .i64 (outs r J t)) rfl HO5.out ⟨hbu t, 0, none⟩ r (cpu t) ((List.range r).map fun j => Value.int .i64 ((J t (r + j)).val : Int)) rfl (by simp) ?c1 (elems_one r _) ?c3 ?c4 ?c5 ?_)
        case c1 => exact HNW.out
        case c3 => simp [maxLen]; omega
        case c4 => omega
        case c5 => exact HBS.out
        intro v1 w1 hown hgr hnil1
        obtain ⟨g1, cap1, rfl, hg1, hrr1⟩ := own_slice hown (by omega)
        clear hg1 hrr1
        have e5 : w1.heap[B1]? = some (.cells #[.int .i64 (r : Int), .int .i64 (r : Int), .slice A p c2] 26 (0, 0)) := by
          rw [hgr.block B1 (by have := HBS.out; omega) (fun e => by have := own_base HO5.out B1 e.symm; omega)]
          exact HK5.out
        have c5 : w1.cell? ⟨B1, 2, none⟩ = some (.slice A p c2) := by simp [World.cell?, e5]
        have f5 : w1.frozen? ⟨B1, 2, none⟩ = false := by simp [World.frozen?, e5]
        have HX := Aside0.mk (And.intro hown (And.intro hgr e5))
        clear hown hgr hnil1 e5
        go_wp2
        go_roundg (r - (t + 1))
        case measure => go_light; omega
        case rel =>
          go_light
          refine ⟨t + 1, p + r, some ⟨g1, 0, none⟩, cap1, by omega, rfl, by go_num, ⟨by rw [HP.out, Nat.succ_mul]⟩, ⟨?_⟩, ⟨?_⟩, ⟨?_⟩⟩
          · exact blk_put HX.out.2.2 2 _ rfl
          · rw [outs_succ r J t hr0]
            exact ownsRow_setCell_below HX.out.1 (by simp) _
          · have h1 := HBS.out
            exact ((HB5.out).grown HX.out.2.1 (by omega) (fun k hk => by have := own_base HO5.out k hk; omega)).setCell (by simp) _
      · have hge2 : ¬ (t : Int) < (r : Int) := by omega
        obtain rfl : t = r := by omega
        have q0 : wr.cell? ⟨B1, 0, none⟩ = some (.int .i64 (t : Int)) := by simp [World.cell?, HK5.out]
        have q1 : wr.cell? ⟨B1, 1, none⟩ = some (.int .i64 (t : Int)) := by simp [World.cell?, HK5.out]
        have q2 : wr.cell? ⟨B1, 2, none⟩ = some (.slice A p c2) := by simp [World.cell?, HK5.out]
        have h2 := HSZ.out
        have h5 := HB1E.out
        have h6 := HW9.out.size
        have hw5 : wr.heap[w.heap.size + 1]? = some (.cells #[.int .i64 0, .int .i64 0, .slice none 0 0] 26 (0, 0)) := by
          rw [HB5.out.block _ (by omega)]
          exact HX9.out
        have k0 : wr.cell? ⟨w.heap.size + 1, 0, none⟩ = some (.int .i64 0) := by simp [World.cell?, hw5]
        have k1 : wr.cell? ⟨w.heap.size + 1, 1, none⟩ = some (.int .i64 0) := by simp [World.cell?, hw5]
        have k2 : wr.cell? ⟨w.heap.size + 1, 2, none⟩ = some (.slice none 0 0) := by simp [World.cell?, hw5]
        have z0 : ∀ i, wr.frozen? ⟨w.heap.size + 1, i, none⟩ = false := fun i => by simp [World.frozen?, hw5]
        have Z0 := z0 0
        have Z1 := z0 1
        have Z2 := z0 2
        have HW5 := Aside0.mk hw5
        have HH := Aside0.mk (And.intro h2 (And.intro h5 h6))
        clear z0 hw5 h2 h5 h6
        go_wp2
        (try simp only [Exit.inBlock, Exit.then])
        refine bodyPost_ret (ret31 _ _ (w.heap.size + 1) #[.int .i64 (t : Int), .int .i64 (t : Int), .slice A p c2] (.int .i64 0) rfl rfl (blk_put (blk_put (blk_put HW5.out 0 _ rfl) 1 _ rfl) 2 _ rfl) rfl) rfl ?_
        obtain ⟨h2, h5, h6⟩ := HH.out
        have e1 : Below w.heap.size w w' := (((Below.refl _ _).alloc (Nat.le_refl _) _).alloc (by simp) _).trans (HB.out.mono (by simp; omega))
        have e2 : Below w.heap.size w w9 := e1.trans (HW9.out.mono (by omega))
        have e4 := e2.trans (HB5.out.mono (show w.heap.size ≤ B1 by omega))
        have ho : outs t J t = cells t t U := by
          unfold outs cells
          refine List.map_congr_left fun k _ => ?_
          rw [HJ.out]
        refine ⟨((e4.setCell (by simp) _).setCell (by simp) _).setCell (by simp) _, .inl ⟨cells t t U, _, HINV.out.2, HINV.out.1, ?_, rfl⟩⟩
        have hp : (cells t t U).length = p := by rw [← ho, outs_len, HP.out]
        rw [hp, ← ho]
        refine own_weaken (base := B1 + 1) ?_ (by omega)
        exact ownsRow_setCell_below (ownsRow_setCell_below (ownsRow_setCell_below HO5.out (by simp; omega) _) (by simp; omega) _) (by simp; omega) _
set_option maxHeartbeats 2000000 in
theorem inverseR_any (R C : Int) (A : Option Addr) (c : Nat) (l : List Int) (w : World) (h : Kd.C (Kd.int .i64) w A l.length l) (hc : l.length ≤ c) (hl : l.length ≤ 140737488355328) :
    Calls Try.prog 31 #[.agg #[.int .i64 R, .int .i64 C, .slice A l.length c]] w (InvAny R C l w) := by
  by_cases hx : chk R C l = 0 ∧ R = C
  · obtain ⟨hk, rfl⟩ := hx
    obtain ⟨n, n', e1, e2, hv⟩ := valid_chk hk
    obtain rfl : n = n' := by omega
    subst e1
    exact (inverseR_valid n c A l w h hc hv).mono fun e w' hi => .inl ⟨n, rfl, rfl, hv, hi⟩
  · have HX := Aside0.mk hx
    clear hx
    have chkC := fun (o o' : Obj) => Aside0.mk (storagebarterref06_Check_any R C A c l ((w.alloc o).alloc o') (Kd.C_below h (((Below.refl _ _).alloc (Nat.le_refl _) o).alloc (by simp) o')) hc hl)
    clear h hc hl
    have fin : ∀ (w' : World) (k : Int), Below ((w.alloc (.cells #[.int .i64 R, .int .i64 C, .slice A l.length c] 26)).alloc (.cells #[.int .i64 0, .int .i64 0, .slice none 0 0] 26)).heap.size ((w.alloc (.cells #[.int .i64 R, .int .i64 C, .slice A l.length c] 26)).alloc (.cells #[.int .i64 0, .int .i64 0, .slice none 0 0] 26)) w' → w'.heap[w.heap.size + 1]? = some (.cells #[.int .i64 0, .int .i64 0, .slice none 0 0] 26 (0, 0)) ∧ Below w.heap.size w w' := by
      intro w' k hb
      exact ⟨block_new hb (by simp), (((Below.refl _ _).alloc (Nat.le_refl _) _).alloc (by simp) _).trans (hb.mono (by simp; omega))⟩
    have FIN := Aside0.mk fin
    clear fin
    go_enter Try.func31, Try.ntmps31
    go_upto_region 2 with (go_at_call 33; (with_reducible refine ((chkC _ _).out).mono ?_); rintro e w' ⟨rfl, hb⟩; have HB := Aside0.mk hb; clear hb)
    have HF := Aside0.mk (FIN.out w' 0 HB.out)
    have b0 : w'.cell? ⟨w.heap.size, 0, none⟩ = some (.int .i64 R) := by
      rw [HB.out.cell (p := ⟨w.heap.size, 0, none⟩) (by simp; omega), World.cell?_alloc_old _ _ _ (by simp)]
      simp [World.cell?_alloc_new]
    have b1 : w'.cell? ⟨w.heap.size, 1, none⟩ = some (.int .i64 C) := by
      rw [HB.out.cell (p := ⟨w.heap.size, 1, none⟩) (by simp; omega), World.cell?_alloc_old _ _ _ (by simp)]
      simp [World.cell?_alloc_new]
    have k0 : w'.cell? ⟨w.heap.size + 1, 0, none⟩ = some (.int .i64 0) := by simp [World.cell?, HF.out.1]
    have k1 : w'.cell? ⟨w.heap.size + 1, 1, none⟩ = some (.int .i64 0) := by simp [World.cell?, HF.out.1]
    have k2 : w'.cell? ⟨w.heap.size + 1, 2, none⟩ = some (.slice none 0 0) := by simp [World.cell?, HF.out.1]
    have z0 : ∀ i, w'.frozen? ⟨w.heap.size + 1, i, none⟩ = false := fun i => by simp [World.frozen?, HF.out.1]
    have Z0 := z0 0
    have Z1 := z0 1
    have Z2 := z0 2
    clear z0 HB FIN chkC
    by_cases hk : chk R C l = 0
    · have c0 : (chk R C l != 0) = false := by rw [hk]; rfl
      have hne : R ≠ C := fun e => HX.out ⟨hk, e⟩
      have c1 : (R != C) = true := by rw [bne_iff_ne]; exact hne
      have HK := Aside0.mk (And.intro hk hne)
      clear hk hne
      go_wp2
      (try simp only [Exit.inBlock, Exit.then])
      refine bodyPost_ret (ret31 _ _ (w.heap.size + 1) #[.int .i64 0, .int .i64 0, .slice none 0 0] (.int .i64 2) rfl rfl (blk_put (blk_put (blk_put HF.out.1 0 _ rfl) 1 _ rfl) 2 _ rfl) rfl) rfl ?_
      exact .inr ⟨((HF.out.2.setCell (by simp) _).setCell (by simp) _).setCell (by simp) _, 2, .inl ⟨HK.out.1, HK.out.2, rfl⟩, rfl⟩
    · have c0 : (chk R C l != 0) = true := by rw [bne_iff_ne]; exact hk
      have HK := Aside0.mk hk
      clear hk
      go_wp2
      (try simp only [Exit.inBlock, Exit.then])
      refine bodyPost_ret (ret31 _ _ (w.heap.size + 1) #[.int .i64 0, .int .i64 0, .slice none 0 0] (.int .i64 (chk R C l)) rfl rfl (blk_put (blk_put (blk_put HF.out.1 0 _ rfl) 1 _ rfl) 2 _ rfl) rfl) rfl ?_
      exact .inr ⟨((HF.out.2.setCell (by simp) _).setCell (by simp) _).setCell (by simp) _, _, .inr ⟨HK.out, rfl⟩, rfl⟩
/-- The reference's Rank and Inverse answer as the program's. -/
theorem rankR_calls (k : Nat) (a0_0 : Int) (a0_1 : Int) (A0_2 : Option Addr) (c0_2 : Nat) (l0_2 : List Int) (r1 : Int) (r2 : Int) (w : World) (hr0_2 : Kd.C (Kd.int .i64) w A0_2 l0_2.length l0_2) (hc0_2 : l0_2.length ≤ c0_2) (h : matrix_Rank.f k a0_0 a0_1 l0_2 = some (r1, r2)) :
    Calls Try.prog 30 #[.agg #[.int .i64 a0_0, .int .i64 a0_1, .slice A0_2 l0_2.length c0_2]] w fun e w' => e = .returned (.tuple #[.int .i64 r1, .int .i64 r2]) ∧ Below w.heap.size w w' := by
  unfold matrix_Rank.f at h
  by_cases hl : l0_2.length ≤ 140737488355328
  · rw [if_pos hl] at h
    refine (rankR_any a0_0 a0_1 A0_2 c0_2 l0_2 w hr0_2 hc0_2 hl).mono ?_
    rintro e w' ⟨hb, hx⟩
    refine ⟨?_, hb⟩
    rcases hx with ⟨R, C, r, rfl, rfl, hv, hr, rfl⟩ | ⟨hk, rfl⟩
    · rw [if_pos (chk_valid hv)] at h
      simp only [Int.toNat_natCast, rankOf_eq hr, Option.some.injEq, Prod.mk.injEq] at h
      obtain ⟨rfl, rfl⟩ := h
      rfl
    · rw [if_neg hk] at h
      simp only [Option.some.injEq, Prod.mk.injEq] at h
      obtain ⟨rfl, rfl⟩ := h
      rfl
  · rw [if_neg hl] at h
    cases h
theorem inverseR_calls (k : Nat) (a0_0 : Int) (a0_1 : Int) (A0_2 : Option Addr) (c0_2 : Nat) (l0_2 : List Int) (r1 : Int) (r2 : Int) (r3 : List Int) (r4 : Int) (w : World) (hr0_2 : Kd.C (Kd.int .i64) w A0_2 l0_2.length l0_2) (hc0_2 : l0_2.length ≤ c0_2) (h : matrix_Inverse.f k a0_0 a0_1 l0_2 = some (r1, r2, r3, r4)) :
    Calls Try.prog 31 #[.agg #[.int .i64 a0_0, .int .i64 a0_1, .slice A0_2 l0_2.length c0_2]] w fun e w' => ∃ v2_, e = .returned (.tuple #[.agg #[.int .i64 r1, .int .i64 r2, v2_], .int .i64 r4]) ∧ Kd.R (Kd.int .i64) 3 w' w.heap.size (fun _ => True) v2_ r3 ∧ Below w.heap.size w w' := by
  unfold matrix_Inverse.f at h
  by_cases hl : l0_2.length ≤ 140737488355328
  · rw [if_pos hl] at h
    refine (inverseR_any a0_0 a0_1 A0_2 c0_2 l0_2 w hr0_2 hc0_2 hl).mono ?_
    rintro e w' (⟨n, rfl, rfl, hv, hb, hx⟩ | ⟨hb, k', hx, rfl⟩)
    · rw [if_pos (chk_valid hv), if_pos rfl] at h
      simp only [Int.toNat_natCast] at h
      rcases hx with ⟨l', v2, hi, hr, hown, rfl⟩ | ⟨⟨r, hr1, hr2⟩, rfl⟩
      · rw [if_pos (rankOf_eq hr), invOf_eq hi] at h
        simp only [Option.some.injEq, Prod.mk.injEq] at h
        obtain ⟨rfl, rfl, rfl, rfl⟩ := h
        exact ⟨v2, rfl, R_of_own hown, hb⟩
      · rw [if_neg (by rw [rankOf_eq hr2]; omega)] at h
        simp only [Option.some.injEq, Prod.mk.injEq] at h
        obtain ⟨rfl, rfl, rfl, rfl⟩ := h
        exact ⟨_, rfl, R_of_own (own_nil _ _ _ _), hb⟩
    · have he : some (0, 0, ([] : List Int), k') = some (r1, r2, r3, r4) := by
        rcases hx with ⟨h1, h2, rfl⟩ | ⟨h1, rfl⟩
        · rw [if_pos h1, if_neg h2] at h
          exact h
        · rw [if_neg h1] at h
          exact h
      simp only [Option.some.injEq, Prod.mk.injEq] at he
      obtain ⟨rfl, rfl, rfl, rfl⟩ := he
      exact ⟨_, rfl, R_of_own (own_nil _ _ _ _), hb⟩
  · rw [if_neg hl] at h
    cases h
end Go.Proofs.Ytbdbfnkjbbbmdaa.MatMatrixDoes
