/- The walk of ref06.Product: the product of two matrices, or the first error. -/
import Derived.Test.YtbdbfnkjbbbmdaaMatProdMatrixDoes
import Derived.Deep.CutRange
namespace Go.Proofs.Ytbdbfnkjbbbmdaa.MatMatrixDoes
set_option linter.unusedSimpArgs false
set_option linter.unusedVariables false
open Go.RowKit Go.Proofs.Ytbdbfnkjbbbmdaa.PMatrixDoes Go.Proofs.YtbdbfnkjbbbmdaaW.PrintWords Go.Proofs.YtbdbfnkjbbbmdaaW.PrintLast Go.Proofs.Ytbdbfnkjbbbmdaa.Gf Go.Proofs.Ytbdbfnkjbbbmdaa.Lin Go.Proofs.Ytbdbfnkjbbbmdaa.MatMem Go.Proofs.Ytbdbfnkjbbbmdaa.MatData
set_option maxHeartbeats 4000000 in
theorem productR_bad (R M R2 C : Int) (ca cb : Nat) (A B : Option Addr) (a b : List Int) (w : World) (ha : Kd.C (Kd.int .i64) w A a.length a) (hca : a.length ≤ ca) (la : a.length ≤ 140737488355328) (hb : Kd.C (Kd.int .i64) w B b.length b) (hcb : b.length ≤ cb) (lb : b.length ≤ 140737488355328) (hbad : prodErr R M R2 C a b ≠ 0) :
    Calls Try.prog 34 #[.agg #[.int .i64 R, .int .i64 M, .slice A a.length ca], .agg #[.int .i64 R2, .int .i64 C, .slice B b.length cb]] w (ProdBad R M R2 C a b w) := by
  have chkA := Aside0.mk (fun (X : World) (hX : Below w.heap.size w X) => storagebarterref06_Check_any R M A ca a X (Kd.C_below ha hX) hca la)
  have chkB := Aside0.mk (fun (X : World) (hX : Below w.heap.size w X) => storagebarterref06_Check_any R2 C B cb b X (Kd.C_below hb hX) hcb lb)
  have HBAD := Aside0.mk hbad
  clear ha hb hca hcb la lb hbad
  go_enter Try.func34, Try.ntmps34
  go_upto_region 2 with (go_at_call 33; (with_reducible refine (chkA.out _ (by first | exact (((Below.refl _ _).alloc (Nat.le_refl _) _).alloc (by simp) _).alloc (by simp; omega) _)).mono ?_); rintro e w1 ⟨rfl, hb⟩; have HB1 := Aside0.mk hb; clear hb)
  have HX1 := Aside0.mk ((Boxes.start w _ _ _).grow HB1.out (by simp))
  clear HB1
  have hle : w.heap.size ≤ w.heap.size + 2 := by omega
  have HLE := Aside0.mk hle
  clear hle
  by_cases h1 : chk R M a = 0
  · have k1 : (chk R M a != 0) = false := by rw [h1]; rfl
    have H1 := Aside0.mk h1
    clear h1
    obtain ⟨b0, b1, b2, _, _, _⟩ := blk_cell3 HX1.out.hb
    go_upto_region 5 with (go_at_call 33; (with_reducible refine (chkB.out _ HX1.out.below).mono ?_); rintro e w2 ⟨rfl, hb⟩; have HB1 := Aside0.mk hb; clear hb)
    have HX2 := Aside0.mk (HX1.out.grow HB1.out HX1.out.sz)
    clear HX1 HB1 b0 b1 b2
    obtain ⟨c0, c1, c2, Z0, Z1, Z2⟩ := blk_cell3 HX2.out.ho
    by_cases h2 : chk R2 C b = 0
    · have k2 : (chk R2 C b != 0) = false := by rw [h2]; rfl
      have H2 := Aside0.mk h2
      clear h2
      obtain ⟨a0, a1, a2, _, _, _⟩ := blk_cell3 HX2.out.ha
      obtain ⟨b0, b1, b2, _, _, _⟩ := blk_cell3 HX2.out.hb
      have hne : M ≠ R2 := by
        intro e
        exact HBAD.out (by unfold prodErr; rw [if_neg (by simp [H1.out]), if_neg (by simp [H2.out]), if_neg (by simp [e])])
      have e0 : (M != R2) = true := by rw [bne_iff_ne]; exact hne
      have HNE := Aside0.mk hne
      clear hne
      go_wp2
      (try simp only [Exit.inBlock, Exit.then])
      refine bodyPost_ret (ret_cell4 Try.f34 (by kernel_rfl) _ _ (w.heap.size + 2) #[.int .i64 0, .int .i64 0, .slice none 0 0] (.int .i64 2) rfl rfl (blk_put (blk_put (blk_put HX2.out.ho 0 _ rfl) 1 _ rfl) 2 _ rfl) rfl) rfl ?_
      refine ⟨((HX2.out.below.setCell HLE.out _).setCell HLE.out _).setCell HLE.out _, ?_⟩
      have : prodErr R M R2 C a b = 2 := by unfold prodErr; rw [if_neg (by simp [H1.out]), if_neg (by simp [H2.out]), if_pos HNE.out]
      rw [this]
    · have k2 : (chk R2 C b != 0) = true := by rw [bne_iff_ne]; exact h2
      have H2 := Aside0.mk h2
      clear h2
      go_wp2
      (try simp only [Exit.inBlock, Exit.then])
      refine bodyPost_ret (ret_cell4 Try.f34 (by kernel_rfl) _ _ (w.heap.size + 2) #[.int .i64 0, .int .i64 0, .slice none 0 0] (.int .i64 (chk R2 C b)) rfl rfl (blk_put (blk_put (blk_put HX2.out.ho 0 _ rfl) 1 _ rfl) 2 _ rfl) rfl) rfl ?_
      refine ⟨((HX2.out.below.setCell HLE.out _).setCell HLE.out _).setCell HLE.out _, ?_⟩
      have : prodErr R M R2 C a b = chk R2 C b := by unfold prodErr; rw [if_neg (by simp [H1.out]), if_pos H2.out]
      rw [this]
  · have k1 : (chk R M a != 0) = true := by rw [bne_iff_ne]; exact h1
    have H1 := Aside0.mk h1
    clear h1
    obtain ⟨c0, c1, c2, Z0, Z1, Z2⟩ := blk_cell3 HX1.out.ho
    go_wp2
    (try simp only [Exit.inBlock, Exit.then])
    refine bodyPost_ret (ret_cell4 Try.f34 (by kernel_rfl) _ _ (w.heap.size + 2) #[.int .i64 0, .int .i64 0, .slice none 0 0] (.int .i64 (chk R M a)) rfl rfl (blk_put (blk_put (blk_put HX1.out.ho 0 _ rfl) 1 _ rfl) 2 _ rfl) rfl) rfl ?_
    refine ⟨((HX1.out.below.setCell HLE.out _).setCell HLE.out _).setCell HLE.out _, ?_⟩
    have : prodErr R M R2 C a b = chk R M a := by unfold prodErr; rw [if_pos H1.out]
    rw [this]
/-- The product that is made in place. -/
structure RAcc (R C : Nat) (B1 gc : Nat) (f : Nat → F) (w2 w : World) : Prop where
  head : w.heap[B1]? = some (.cells #[.int .i64 (R : Int), .int .i64 (C : Int), .slice (some ⟨gc, 0, none⟩) (R * C) (R * C)] 26 (0, 0))
  row : mrow w gc 3 (R * C) (R * C) (fun t => .int .i64 ((f t).val : Int))
  ne : gc ≠ B1
  below : Below w2.heap.size w2 w
theorem RAcc.congr {R C B1 gc : Nat} {f f' : Nat → F} {w2 w : World} (h : RAcc R C B1 gc f w2 w) (e : ∀ t, t < R * C → f' t = f t) : RAcc R C B1 gc f' w2 w :=
  ⟨h.head, h.row.congr fun t ht => by rw [e t ht], h.ne, h.below⟩
theorem RAcc.put {R C B1 gc : Nat} {f : Nat → F} {w2 w : World} (h : RAcc R C B1 gc f w2 w) (hg : w2.heap.size ≤ gc) (k p : Nat) (v : F) : RAcc R C B1 gc (fun t => if t = p then v else f t) w2 ((w.drewN k).setCell ⟨gc, p, none⟩ (.int .i64 (v.val : Int))) := by
  refine ⟨?_, (((h.row.drewN k).set p _).congr fun t ht => ?_), h.ne, (belowN h.below k).setCell hg _⟩
  · rw [Below.heap_setCell _ _ _ _ (by exact Ne.symm h.ne)]
    exact h.head
  · by_cases e : t = p
    · simp [e]
    · simp [e]
theorem mrow_made256 (w : World) (n : Nat) (hn : n ≤ 256) : mrow (w.alloc (.cells (madeCells #[.int .i64 0] n) 3)) w.heap.size 3 n n (fun _ => .int .i64 0) := by
  refine ⟨_, heap_alloc_new w _, size_madeCells _ _, Nat.le_refl _, by simp [maxLen]; omega, fun i hi => ?_⟩
  simp [madeCells, hi, Nat.mod_one]
theorem RAcc.start1 (R C : Nat) (w : World) (h : R * C ≤ 256) : RAcc R C (w.heap.size + 1) w.heap.size (fun _ => 0) w (((w.alloc (.cells (madeCells #[.int .i64 0] (R * C)) 3)).alloc (.cells #[.int .i64 (R : Int), .int .i64 (C : Int), .slice (some ⟨w.heap.size, 0, none⟩) (R * C) (R * C)] 26)).drew) := by
  refine ⟨?_, ?_, by omega, (((Below.refl _ _).alloc (Nat.le_refl _) _).alloc (by simp) _).drew⟩
  · have h := heap_alloc_new (w.alloc (.cells (madeCells #[.int .i64 0] (R * C)) 3)) (.cells #[.int .i64 (R : Int), .int .i64 (C : Int), .slice (some ⟨w.heap.size, 0, none⟩) (R * C) (R * C)] 26)
    have e : (w.alloc (.cells (madeCells #[.int .i64 0] (R * C)) 3)).heap.size = w.heap.size + 1 := by simp
    rw [e] at h
    exact h
  · exact ((mrow_made256 w _ h).alloc _).of_block rfl
theorem RAcc.start2 (R C : Nat) (w : World) (h : R * C ≤ 256) : RAcc R C w.heap.size (w.heap.size + 1) (fun _ => 0) w (((w.alloc (.cells #[.int .i64 (R : Int), .int .i64 (C : Int), .slice (some ⟨w.heap.size + 1, 0, none⟩) (R * C) (R * C)] 26)).alloc (.cells (madeCells #[.int .i64 0] (R * C)) 3)).drew) := by
  refine ⟨?_, ?_, by omega, (((Below.refl _ _).alloc (Nat.le_refl _) _).alloc (by simp) _).drew⟩
  · show ((w.alloc _).alloc _).heap[_]? = _
    rw [Below.heap_alloc _ _ _ (by simp)]
    exact heap_alloc_new w _
  · have := mrow_made256 (w.alloc (.cells #[.int .i64 (R : Int), .int .i64 (C : Int), .slice (some ⟨w.heap.size + 1, 0, none⟩) (R * C) (R * C)] 26)) (R * C) h
    have e : (w.alloc (.cells #[.int .i64 (R : Int), .int .i64 (C : Int), .slice (some ⟨w.heap.size + 1, 0, none⟩) (R * C) (R * C)] 26)).heap.size = w.heap.size + 1 := by simp
    rw [e] at this
    exact this.of_block rfl
/-- The elements of a product, of which the first p are made. -/
def part (R M C : Nat) (a b : List Int) (p : Nat) (x : F) (t : Nat) : F := if t < p then mm M (ent M a) (ent C b) (t / C) (t % C) else if t = p then x else 0
theorem part_zero (R M C : Nat) (a b : List Int) : part R M C a b 0 0 = fun _ => 0 := by
  funext t
  unfold part
  simp
theorem part_put (R M C : Nat) (a b : List Int) (p : Nat) (x y : F) (t : Nat) : (if t = p then y else part R M C a b p x t) = part R M C a b p y t := by
  unfold part
  by_cases e : t = p
  · simp [e]
  · simp [e]
theorem part_next (R M C : Nat) {i k : Nat} (a b : List Int) (hk : k < C) : part R M C a b (i * C + k) (mm M (ent M a) (ent C b) i k) = part R M C a b (i * C + k + 1) 0 := by
  have e1 : (i * C + k) / C = i := by rw [Nat.mul_comm, Nat.mul_add_div (by omega), Nat.div_eq_of_lt hk]; rfl
  have e2 : (i * C + k) % C = k := by rw [Nat.mul_comm, Nat.mul_add_mod, Nat.mod_eq_of_lt hk]
  funext t
  unfold part
  by_cases e : t = i * C + k
  · subst e
    simp [e1, e2]
  · by_cases lt : t < i * C + k
    · simp [lt, show t < i * C + k + 1 by omega]
    · simp [lt, e, show ¬ t < i * C + k + 1 by omega]
def bl (n : Nat) (l : List Nat) : Array Bool := ((List.range n).map fun i => l.contains i).toArray
def rprod_T19 : Bool × List (List Nat × List Nat) := (true, [([], []), ([0], [0]), ([], []), ([], []), ([3], [3]), ([2, 4], [2, 4]), ([], []), ([5, 6], [5, 6]), ([1, 7], [1, 7]), ([8], [8]), ([], []), ([10], [10]), ([], []), ([], []), ([13], [13]), ([12, 14], [12, 14]), ([], []), ([15, 16], [15, 16]), ([11, 17], [11, 17]), ([18], [18]), ([], []), ([20], [20]), ([], []), ([], []), ([23], [23]), ([22, 24], [22, 24]), ([], []), ([25, 26], [25, 26]), ([21, 27], [21, 27]), ([28], [28]), ([19, 29], [19, 29]), ([9, 30], [9, 30]), ([1, 7, 0, 1, 2, 3, 4, 5, 6, 7, 8, 9, 10, 11, 12, 13, 14, 15, 16, 17, 18, 19, 20, 21, 22, 23, 24, 25, 26, 27, 28, 29, 30, 31], [1, 7]), ([32, 31, 30, 0, 1, 2, 3, 4, 5, 6, 7, 8, 9, 10, 11, 12, 13, 14, 15, 16, 17, 18, 19, 20, 21, 22, 23, 24, 25, 26, 27, 28, 29, 30, 31], [31, 32])])
def rprod_B19 : List Nat := [0, 1, 0, 0, 8, 28, 0, 124, 255, 511, 0, 1024, 0, 0, 8192, 28672, 0, 126976, 261120, 523264, 0, 1048576, 0, 0, 8388608, 29360128, 0, 130023424, 267386880, 535822336, 1073740800, 2147483647, 4294967295, 8589934591]
theorem rprod_tab19 : rtab .any (opsOf Try.f34 19) = rprod_T19 := by kernel_rfl
theorem rprod_bits19 : waitsOk rprod_T19.2 rprod_B19 = true := by kernel_rfl
set_option maxHeartbeats 4000000 in
set_option maxRecDepth 100000 in
theorem productR_valid (R M C ca cb : Nat) (A B : Option Addr) (a b : List Int) (w : World) (ha : Kd.C (Kd.int .i64) w A a.length a) (hca : a.length ≤ ca) (va : Valid R M a) (hb : Kd.C (Kd.int .i64) w B b.length b) (hcb : b.length ≤ cb) (vb : Valid M C b) :
    Calls Try.prog 34 #[.agg #[.int .i64 (R : Int), .int .i64 (M : Int), .slice A a.length ca], .agg #[.int .i64 (M : Int), .int .i64 (C : Int), .slice B b.length cb]] w (ProdEnd R M C a b w) := by
  have la : a.length ≤ 140737488355328 := by have := Nat.mul_le_mul va.r1 va.c1; have := va.len; omega
  have lb : b.length ≤ 140737488355328 := by have := Nat.mul_le_mul vb.r1 vb.c1; have := vb.len; omega
  have chkA := Aside0.mk (fun (X : World) (hX : Below w.heap.size w X) => storagebarterref06_Check_any (R : Int) (M : Int) A ca a X (Kd.C_below ha hX) hca la)
  have chkB := Aside0.mk (fun (X : World) (hX : Below w.heap.size w X) => storagebarterref06_Check_any (M : Int) (C : Int) B cb b X (Kd.C_below hb hX) hcb lb)
  obtain ⟨ada, rfl, hcA⟩ := cells_C ha (by rw [va.len]; exact Nat.mul_pos va.r0 va.c0) va.els
  obtain ⟨adb, rfl, hcB⟩ := cells_C hb (by rw [vb.len]; exact Nat.mul_pos vb.r0 vb.c0) vb.els
  have k1 : (chk (R : Int) (M : Int) a != 0) = false := by rw [chk_valid va]; rfl
  have k2 : (chk (M : Int) (C : Int) b != 0) = false := by rw [chk_valid vb]; rfl
  have VA := Aside0.mk va
  have VB := Aside0.mk vb
  have HCA := Aside0.mk (And.intro hcA hca)
  have HCB := Aside0.mk (And.intro hcB hcb)
  clear ha hb va vb hcA hcB hca hcb la lb
  obtain ⟨i3, hi, hz0, hz1, hz2⟩ := info_parts info3'
  have HI := Aside0.mk (And.intro hi (And.intro hz0 (And.intro hz1 hz2)))
  clear hi hz0 hz1 hz2
  go_enter Try.func34, Try.ntmps34
  go_upto_region 2 with (go_at_call 33; (with_reducible refine (chkA.out _ (by first | exact (((Below.refl _ _).alloc (Nat.le_refl _) _).alloc (by simp) _).alloc (by simp; omega) _)).mono ?_); rintro e w1 ⟨rfl, hb⟩; have HB1 := Aside0.mk hb; clear hb)
  have HX1 := Aside0.mk ((Boxes.start w _ _ _).grow HB1.out (by simp))
  clear HB1
  obtain ⟨b0, b1, b2, _, _, _⟩ := blk_cell3 HX1.out.hb
  go_upto_region 5 with (go_at_call 33; (with_reducible refine (chkB.out _ HX1.out.below).mono ?_); rintro e w2 ⟨rfl, hb⟩; have HB1 := Aside0.mk hb; clear hb)
  have HX2 := Aside0.mk (HX1.out.grow HB1.out HX1.out.sz)
  clear HX1 HB1 b0 b1 b2
  obtain ⟨a0, a1, a2, _, _, _⟩ := blk_cell3 HX2.out.ha
  obtain ⟨b0, b1, b2, _, _, _⟩ := blk_cell3 HX2.out.hb
  have e0 : ((M : Int) != (M : Int)) = false := by rw [bne_eq_false_iff_eq]
  obtain ⟨N, hN⟩ : ∃ N, N = R * C := ⟨_, rfl⟩
  have hN256 : N ≤ 256 := by rw [hN]; exact Nat.mul_le_mul VA.out.r1 VB.out.c1
  have eN := wmul (a := R) (b := C) (by rw [← hN]; omega)
  rw [← hN] at eN
  have eN' := (i64_w _).trans eN
  have hmk := fun w : World => run_make_row' (P := Try.prog) 24 3 (.int .i64 0) 8 Try.underlying24 info3' rfl .i64 .i64 N (by omega) (by omega) w
  have HN := Aside0.mk hN
  clear hN
  go_upto_region 9 with fail
  go_cut [8] (fun v8 wc => ∃ B1 gc : Nat, v8 = .pointer (some ⟨B1, 0, none⟩) ∧ Aside0 (RAcc R C B1 gc (fun _ => 0) w2 wc) ∧ w2.heap.size ≤ gc ∧ w2.heap.size ≤ B1)
  case first =>
    have n0 := World.new_ne w2 _ a0
    have n1 := World.new_ne w2 _ b1
    go_region_held3 (fun X => X.cell? ⟨w.heap.size, 0, none⟩ = some (.int .i64 (R : Int)) ∧ X.cell? ⟨w.heap.size + 1, 1, none⟩ = some (.int .i64 (C : Int))) (go_keep) (fail)
    all_goals
      clear eN eN' hmk n0 n1
      go_wp2
      go_meet
      case rel =>
        go_light
        have e := HN.out
        subst e
        first
          | exact ⟨_, _, rfl, ⟨RAcc.start1 R C w2 hN256⟩, by omega, by omega⟩
          | exact ⟨_, _, rfl, ⟨RAcc.start2 R C w2 hN256⟩, by omega, by omega⟩
  case rest =>
    obtain ⟨B1, gc, rfl, HR, hgc, hB1⟩ := hcut
    clear eN eN' hmk hN256 HN N a0 a1 a2 b0 b1 b2 e0
    have HG := Aside0.mk (And.intro hgc hB1)
    clear hgc hB1
    have HSZ := Aside0.mk HX2.out.sz
    have hR16 := VA.out.r1
    have hM16 := VA.out.c1
    have hC16 := VB.out.c1
    go_wp2
    go_loopg [9] R (fun gi v9 wr => ∃ i : Nat, i ≤ R ∧ gi = R - i ∧ v9 = .int .i64 i ∧ Aside0 (RAcc R C B1 gc (part R M C a b (i * C) 0) w2 wr))
    case atStart =>
      go_light
      exact ⟨0, Nat.zero_le _, rfl, rfl, ⟨by rw [Nat.zero_mul, part_zero]; exact HR.out⟩⟩
    case round =>
      clear HR
      obtain ⟨i, hi, rfl, rfl, HR⟩ := hrel
      have hXi := HX2.out.grow HR.out.below HSZ.out
      obtain ⟨a0, a1, a2, _, _, _⟩ := blk_cell3 hXi.ha
      obtain ⟨b0, b1, b2, _, _, _⟩ := blk_cell3 hXi.hb
      have HXi := Aside0.mk hXi
      clear hXi
      by_cases hiR : i < R
      · have hiR' : (i : Int) < (R : Int) := by omega
        go_wp2
        clear a0 a1 a2 b0 b1 b2
        go_loopg [10] C (fun gk v10 wk => ∃ k : Nat, k ≤ C ∧ gk = C - k ∧ v10 = .int .i64 k ∧ Aside0 (RAcc R C B1 gc (part R M C a b (i * C + k) 0) w2 wk))
        case atStart =>
          go_light
          exact ⟨0, Nat.zero_le _, rfl, rfl, HR⟩
        case round =>
          clear HR HXi
          obtain ⟨k, hk, rfl, rfl, HR⟩ := hrel
          have hXi := HX2.out.grow HR.out.below HSZ.out
          obtain ⟨a0, a1, a2, _, _, _⟩ := blk_cell3 hXi.ha
          obtain ⟨b0, b1, b2, _, _, _⟩ := blk_cell3 hXi.hb
          clear hXi
          by_cases hkC : k < C
          · have hkC' : (k : Int) < (C : Int) := by omega
            go_wp2
            clear a0 a1 a2 b0 b1 b2
            go_loopg [11] M (fun gj v11 wj => ∃ j : Nat, j ≤ M ∧ gj = M - j ∧ v11 = .int .i64 j ∧ Aside0 (RAcc R C B1 gc (part R M C a b (i * C + k) (sum j (fun t => mul (ent M a i t) (ent C b t k)))) w2 wj))
            case atStart =>
              go_light
              exact ⟨0, Nat.zero_le _, rfl, rfl, HR⟩
            case round =>
              clear HR
              obtain ⟨j, hj, rfl, rfl, HR⟩ := hrel
              have hXi := HX2.out.grow HR.out.below HSZ.out
              obtain ⟨a0, a1, a2, _, _, _⟩ := blk_cell3 hXi.ha
              obtain ⟨b0, b1, b2, _, _, _⟩ := blk_cell3 hXi.hb
              clear hXi
              by_cases hjM : j < M
              · have hjM' : (j : Int) < (M : Int) := by omega
                obtain ⟨m0, m1, m2, _, _, _⟩ := blk_cell3 HR.out.head
                have i1 := index_lt (R := R) (C := M) hiR hjM
                have i2 := index_lt (R := M) (C := C) hjM hkC
                have i3 := index_lt (R := R) (C := C) hiR hkC
                have hRM := Nat.mul_le_mul hR16 hM16
                have hMC := Nat.mul_le_mul hM16 hC16
                have hRC := Nat.mul_le_mul hR16 hC16
                have hb1 : i * M + j ≤ 1000000 := Nat.le_trans (Nat.le_of_lt i1) (Nat.le_trans hRM (by decide))
                have hb2 : j * C + k ≤ 1000000 := Nat.le_trans (Nat.le_of_lt i2) (Nat.le_trans hMC (by decide))
                have hb3 : i * C + k ≤ 1000000 := Nat.le_trans (Nat.le_of_lt i3) (Nat.le_trans hRC (by decide))
                have e1 := wmul (Nat.le_trans (Nat.le_add_right (i * M) j) hb1)
                have e2 := wadd hb1
                have e3 := wmul (Nat.le_trans (Nat.le_add_right (j * C) k) hb2)
                have e4 := wadd hb2
                have e5 := wmul (Nat.le_trans (Nat.le_add_right (i * C) k) hb3)
                have e6 := wadd hb3
                have e1' := (i64_w _).trans e1
                have e2' := (i64_w _).trans e2
                have e3' := (i64_w _).trans e3
                have e4' := (i64_w _).trans e4
                have e5' := (i64_w _).trans e5
                have e6' := (i64_w _).trans e6
                have x3 : i * M + j < a.length := by rw [VA.out.len]; exact i1
                have x4 : j * C + k < b.length := by rw [VB.out.len]; exact i2
                have x1 : ((i * M + j : Nat) : Int) < (a.length : Int) := Int.ofNat_lt.2 x3
                have x2 : ((j * C + k : Nat) : Int) < (b.length : Int) := Int.ofNat_lt.2 x4
                have x5 : ((i * C + k : Nat) : Int) < ((R * C : Nat) : Int) := Int.ofNat_lt.2 i3
                have c1 : wr.cell? (ada.add (i * M + j)) = some (.int .i64 ((ent M a i j).val : Int)) := by
                  rw [(HX2.out.grow HR.out.below HSZ.out).below.cell (p := ada.add (i * M + j)) (World.block_lt_of_cell? _ _ (HCA.out.1 _ x3)), HCA.out.1 _ x3]
                  rfl
                have c2 : wr.cell? (adb.add (j * C + k)) = some (.int .i64 ((ent C b j k).val : Int)) := by
                  rw [(HX2.out.grow HR.out.below HSZ.out).below.cell (p := adb.add (j * C + k)) (World.block_lt_of_cell? _ _ (HCB.out.1 _ x4)), HCB.out.1 _ x4]
                  rfl
                have c3 : wr.cell? ⟨gc, i * C + k, none⟩ = some (.int .i64 ((sum j (fun t => mul (ent M a i t) (ent C b t k))).val : Int)) := by
                  have := HR.out.row.cell i3
                  unfold part at this
                  simpa using this
                have f3 := HR.out.row.frozen (i * C + k)
                have hx := xor_any (sum j (fun t => mul (ent M a i t) (ent C b t k))) (mul (ent M a i j) (ent C b j k))
                have hs : add (sum j (fun t => mul (ent M a i t) (ent C b t k))) (mul (ent M a i j) (ent C b j k)) = sum (j + 1) (fun t => mul (ent M a i t) (ent C b t k)) := rfl
                rw [hs] at hx
                have HI3 := Aside0.mk i3
                clear hs i1 i2 hRM hMC hb1 hb2 hRC hb3
                obtain ⟨p0, hp0⟩ : ∃ p0, p0 = i * C + k := ⟨_, rfl⟩
                have HP0 := Aside0.mk hp0
                rw [← hp0] at c3 f3 e6 e6' x5 i3
                clear hp0
                obtain ⟨N, hN⟩ : ∃ N, N = R * C := ⟨_, rfl⟩
                have HN := Aside0.mk hN
                rw [← hN] at x5 i3 m2
                clear hN
                generalize i * M + j = p1 at e2 e2' x3 x1 c1
                generalize i * M = p at e1 e1' e2 e2'
                generalize j * C + k = q1 at e4 e4' x4 x2 c2
                generalize j * C = q at e3 e3' e4 e4'
                generalize i * C = s at e5 e5' e6 e6'
                go_upto_region 19 with fail
                refine start_ (n := 34) (S := fun X => X.cell? ⟨B1, 1, none⟩ = some (.int .i64 (C : Int)) ∧ X.cell? ⟨B1, 2, none⟩ = some (.slice (some ⟨gc, 0, none⟩) N N) ∧ X.cell? ⟨w.heap.size, 1, none⟩ = some (.int .i64 (M : Int)) ∧ X.cell? ⟨w.heap.size, 2, none⟩ = some (.slice (some ada) a.length ca) ∧ X.cell? ⟨w.heap.size + 1, 1, none⟩ = some (.int .i64 (C : Int)) ∧ X.cell? ⟨w.heap.size + 1, 2, none⟩ = some (.slice (some adb) b.length cb) ∧ X.cell? ⟨gc, p0, none⟩ = some (.int .i64 ((sum j (fun t => mul (ent M a i t) (ent C b t k))).val : Int)) ∧ X.cell? (ada.add p1) = some (.int .i64 ((ent M a i j).val : Int)) ∧ X.cell? (adb.add q1) = some (.int .i64 ((ent C b j k).val : Int))) (ds := [33]) (bl 34 []) (by kernel_rfl) rfl rfl ⟨m1, m2, a1, a2, b1, b2, c3, c1, c2⟩ (fun hHeld => ?_)
                refine with_tabW rprod_tab19 rprod_bits19 (fun HT_ HW_ => ?_)
                refine pure_ (i := 0) (N := some 59) (v := ?_) (a' := ?_) (bl 34 [0]) rfl rfl (any_of HT_.out (by kernel_rfl)) (fun _ _ _ h => h) (Or.inl ⟨by rfl, ?_⟩) ?_ ?_
                rotate_left
                · intro w'; go_simp; with_reducible rfl
                rotate_left
                · simp only [Act.put, List.setIfInBounds_toArray, List.set_cons_zero, List.set_cons_succ, i64_w, i32_w]; rfl
                refine pure_ (i := 2) (N := some 61) (v := ?_) (a' := ?_) (bl 34 [0, 2]) rfl rfl (any_of HT_.out (by kernel_rfl)) (fun _ _ _ h => h) (Or.inl ⟨by rfl, ?_⟩) ?_ ?_
                rotate_left
                · intro w'; go_simp; with_reducible rfl
                rotate_left
                · simp only [Act.put, List.setIfInBounds_toArray, List.set_cons_zero, List.set_cons_succ, i64_w, i32_w]; rfl
                refine pure_ (i := 3) (N := some 62) (v := ?_) (a' := ?_) (bl 34 [0, 2, 3]) rfl rfl (any_of HT_.out (by kernel_rfl)) (fun _ _ _ h => h) (Or.inl ⟨by rfl, ?_⟩) ?_ ?_
                rotate_left
                · intro w'; go_simp; with_reducible rfl
                rotate_left
                · simp only [Act.put, List.setIfInBounds_toArray, List.set_cons_zero, List.set_cons_succ, i64_w, i32_w]; rfl
                refine pure_ (i := 6) (N := some 65) (v := ?_) (a' := ?_) (bl 34 [0, 2, 3, 6]) rfl rfl (any_of HT_.out (by kernel_rfl)) (fun _ _ _ h => h) (Or.inl ⟨by rfl, ?_⟩) ?_ ?_
                rotate_left
                · intro w'; go_simp; with_reducible rfl
                rotate_left
                · simp only [Act.put, List.setIfInBounds_toArray, List.set_cons_zero, List.set_cons_succ, i64_w, i32_w]; rfl
                refine pure_ (i := 10) (N := some 69) (v := ?_) (a' := ?_) (bl 34 [0, 2, 3, 6, 10]) rfl rfl (any_of HT_.out (by kernel_rfl)) (fun _ _ _ h => h) (Or.inl ⟨by rfl, ?_⟩) ?_ ?_
                rotate_left
                · intro w'; go_simp; with_reducible rfl
                rotate_left
                · simp only [Act.put, List.setIfInBounds_toArray, List.set_cons_zero, List.set_cons_succ, i64_w, i32_w]; rfl
                refine pure_ (i := 12) (N := some 71) (v := ?_) (a' := ?_) (bl 34 [0, 2, 3, 6, 10, 12]) rfl rfl (any_of HT_.out (by kernel_rfl)) (fun _ _ _ h => h) (Or.inl ⟨by rfl, ?_⟩) ?_ ?_
                rotate_left
                · intro w'; go_simp; with_reducible rfl
                rotate_left
                · simp only [Act.put, List.setIfInBounds_toArray, List.set_cons_zero, List.set_cons_succ, i64_w, i32_w]; rfl
                refine pure_ (i := 13) (N := some 72) (v := ?_) (a' := ?_) (bl 34 [0, 2, 3, 6, 10, 12, 13]) rfl rfl (any_of HT_.out (by kernel_rfl)) (fun _ _ _ h => h) (Or.inl ⟨by rfl, ?_⟩) ?_ ?_
                rotate_left
                · intro w'; go_simp; with_reducible rfl
                rotate_left
                · simp only [Act.put, List.setIfInBounds_toArray, List.set_cons_zero, List.set_cons_succ, i64_w, i32_w]; rfl
                refine pure_ (i := 16) (N := some 75) (v := ?_) (a' := ?_) (bl 34 [0, 2, 3, 6, 10, 12, 13, 16]) rfl rfl (any_of HT_.out (by kernel_rfl)) (fun _ _ _ h => h) (Or.inl ⟨by rfl, ?_⟩) ?_ ?_
                rotate_left
                · intro w'; go_simp; with_reducible rfl
                rotate_left
                · simp only [Act.put, List.setIfInBounds_toArray, List.set_cons_zero, List.set_cons_succ, i64_w, i32_w]; rfl
                refine pure_ (i := 20) (N := some 79) (v := ?_) (a' := ?_) (bl 34 [0, 2, 3, 6, 10, 12, 13, 16, 20]) rfl rfl (any_of HT_.out (by kernel_rfl)) (fun _ _ _ h => h) (Or.inl ⟨by rfl, ?_⟩) ?_ ?_
                rotate_left
                · intro w'; go_simp; with_reducible rfl
                rotate_left
                · simp only [Act.put, List.setIfInBounds_toArray, List.set_cons_zero, List.set_cons_succ, i64_w, i32_w]; rfl
                refine pure_ (i := 22) (N := some 81) (v := ?_) (a' := ?_) (bl 34 [0, 2, 3, 6, 10, 12, 13, 16, 20, 22]) rfl rfl (any_of HT_.out (by kernel_rfl)) (fun _ _ _ h => h) (Or.inl ⟨by rfl, ?_⟩) ?_ ?_
                rotate_left
                · intro w'; go_simp; with_reducible rfl
                rotate_left
                · simp only [Act.put, List.setIfInBounds_toArray, List.set_cons_zero, List.set_cons_succ, i64_w, i32_w]; rfl
                refine pure_ (i := 23) (N := some 82) (v := ?_) (a' := ?_) (bl 34 [0, 2, 3, 6, 10, 12, 13, 16, 20, 22, 23]) rfl rfl (any_of HT_.out (by kernel_rfl)) (fun _ _ _ h => h) (Or.inl ⟨by rfl, ?_⟩) ?_ ?_
                rotate_left
                · intro w'; go_simp; with_reducible rfl
                rotate_left
                · simp only [Act.put, List.setIfInBounds_toArray, List.set_cons_zero, List.set_cons_succ, i64_w, i32_w]; rfl
                refine pure_ (i := 26) (N := some 85) (v := ?_) (a' := ?_) (bl 34 [0, 2, 3, 6, 10, 12, 13, 16, 20, 22, 23, 26]) rfl rfl (any_of HT_.out (by kernel_rfl)) (fun _ _ _ h => h) (Or.inl ⟨by rfl, ?_⟩) ?_ ?_
                rotate_left
                · intro w'; go_simp; with_reducible rfl
                rotate_left
                · simp only [Act.put, List.setIfInBounds_toArray, List.set_cons_zero, List.set_cons_succ, i64_w, i32_w]; rfl
                refine take_ (i := 1) (N := some 60) (v := ?_) (a' := ?_) (bl 34 [0, 1, 2, 3, 6, 10, 12, 13, 16, 20, 22, 23, 26]) rfl rfl (take_ofW HT_.out HW_.out (by kernel_rfl)) (fun _ _ _ h => h) (Or.inl ⟨by rfl, ?_⟩) hHeld ?_ ?_
                rotate_left
                · rintro w' ⟨s0, s1, s2, s3, s4, s5, s6, s7, s8⟩; go_simp; with_reducible rfl
                rotate_left
                · simp only [Act.put, List.setIfInBounds_toArray, List.set_cons_zero, List.set_cons_succ, i64_w, i32_w]; rfl
                refine take_ (i := 4) (N := some 63) (v := ?_) (a' := ?_) (bl 34 [0, 1, 2, 3, 4, 6, 10, 12, 13, 16, 20, 22, 23, 26]) rfl rfl (take_ofW HT_.out HW_.out (by kernel_rfl)) (fun _ _ _ h => h) (Or.inl ⟨by rfl, ?_⟩) hHeld ?_ ?_
                rotate_left
                · rintro w' ⟨s0, s1, s2, s3, s4, s5, s6, s7, s8⟩; go_simp; with_reducible rfl
                rotate_left
                · simp only [Act.put, List.setIfInBounds_toArray, List.set_cons_zero, List.set_cons_succ, i64_w, i32_w]; rfl
                refine pure_ (i := 5) (N := some 64) (v := ?_) (a' := ?_) (bl 34 [0, 1, 2, 3, 4, 5, 6, 10, 12, 13, 16, 20, 22, 23, 26]) rfl rfl (any_of HT_.out (by kernel_rfl)) (fun _ _ _ h => h) (Or.inl ⟨by rfl, ?_⟩) ?_ ?_
                rotate_left
                · intro w'; go_simp; with_reducible rfl
                rotate_left
                · simp only [Act.put, List.setIfInBounds_toArray, List.set_cons_zero, List.set_cons_succ, i64_w, i32_w]; rfl
                refine pure_ (i := 7) (N := some 66) (v := ?_) (a' := ?_) (bl 34 [0, 1, 2, 3, 4, 5, 6, 7, 10, 12, 13, 16, 20, 22, 23, 26]) rfl rfl (any_of HT_.out (by kernel_rfl)) (fun _ _ _ h => h) (Or.inl ⟨by rfl, ?_⟩) ?_ ?_
                rotate_left
                · intro w'; go_simp; with_reducible rfl
                rotate_left
                · simp only [Act.put, List.setIfInBounds_toArray, List.set_cons_zero, List.set_cons_succ, i64_w, i32_w]; rfl
                refine pure_ (i := 8) (N := some 67) (v := ?_) (a' := ?_) (bl 34 [0, 1, 2, 3, 4, 5, 6, 7, 8, 10, 12, 13, 16, 20, 22, 23, 26]) rfl rfl (any_of HT_.out (by kernel_rfl)) (fun _ _ _ h => h) (Or.inl ⟨by rfl, ?_⟩) ?_ ?_
                rotate_left
                · intro w'; go_simp; with_reducible rfl
                rotate_left
                · simp only [Act.put, List.setIfInBounds_toArray, List.set_cons_zero, List.set_cons_succ, i64_w, i32_w]; rfl
                refine take_ (i := 9) (N := some 68) (v := ?_) (a' := ?_) (bl 34 [0, 1, 2, 3, 4, 5, 6, 7, 8, 9, 10, 12, 13, 16, 20, 22, 23, 26]) rfl rfl (take_ofW HT_.out HW_.out (by kernel_rfl)) (fun _ _ _ h => h) (Or.inl ⟨by rfl, ?_⟩) hHeld ?_ ?_
                rotate_left
                · rintro w' ⟨s0, s1, s2, s3, s4, s5, s6, s7, s8⟩; go_simp; with_reducible rfl
                rotate_left
                · simp only [Act.put, List.setIfInBounds_toArray, List.set_cons_zero, List.set_cons_succ, i64_w, i32_w]; rfl
                refine take_ (i := 11) (N := some 70) (v := ?_) (a' := ?_) (bl 34 [0, 1, 2, 3, 4, 5, 6, 7, 8, 9, 10, 11, 12, 13, 16, 20, 22, 23, 26]) rfl rfl (take_ofW HT_.out HW_.out (by kernel_rfl)) (fun _ _ _ h => h) (Or.inl ⟨by rfl, ?_⟩) hHeld ?_ ?_
                rotate_left
                · rintro w' ⟨s0, s1, s2, s3, s4, s5, s6, s7, s8⟩; go_simp; with_reducible rfl
                rotate_left
                · simp only [Act.put, List.setIfInBounds_toArray, List.set_cons_zero, List.set_cons_succ, i64_w, i32_w]; rfl
                refine take_ (i := 14) (N := some 73) (v := ?_) (a' := ?_) (bl 34 [0, 1, 2, 3, 4, 5, 6, 7, 8, 9, 10, 11, 12, 13, 14, 16, 20, 22, 23, 26]) rfl rfl (take_ofW HT_.out HW_.out (by kernel_rfl)) (fun _ _ _ h => h) (Or.inl ⟨by rfl, ?_⟩) hHeld ?_ ?_
                rotate_left
                · rintro w' ⟨s0, s1, s2, s3, s4, s5, s6, s7, s8⟩; go_simp; with_reducible rfl
                rotate_left
                · simp only [Act.put, List.setIfInBounds_toArray, List.set_cons_zero, List.set_cons_succ, i64_w, i32_w]; rfl
                refine pure_ (i := 15) (N := some 74) (v := ?_) (a' := ?_) (bl 34 [0, 1, 2, 3, 4, 5, 6, 7, 8, 9, 10, 11, 12, 13, 14, 15, 16, 20, 22, 23, 26]) rfl rfl (any_of HT_.out (by kernel_rfl)) (fun _ _ _ h => h) (Or.inl ⟨by rfl, ?_⟩) ?_ ?_
                rotate_left
                · intro w'; go_simp; with_reducible rfl
                rotate_left
                · simp only [Act.put, List.setIfInBounds_toArray, List.set_cons_zero, List.set_cons_succ, i64_w, i32_w]; rfl
                refine pure_ (i := 17) (N := some 76) (v := ?_) (a' := ?_) (bl 34 [0, 1, 2, 3, 4, 5, 6, 7, 8, 9, 10, 11, 12, 13, 14, 15, 16, 17, 20, 22, 23, 26]) rfl rfl (any_of HT_.out (by kernel_rfl)) (fun _ _ _ h => h) (Or.inl ⟨by rfl, ?_⟩) ?_ ?_
                rotate_left
                · intro w'; go_simp; with_reducible rfl
                rotate_left
                · simp only [Act.put, List.setIfInBounds_toArray, List.set_cons_zero, List.set_cons_succ, i64_w, i32_w]; rfl
                refine pure_ (i := 18) (N := some 77) (v := ?_) (a' := ?_) (bl 34 [0, 1, 2, 3, 4, 5, 6, 7, 8, 9, 10, 11, 12, 13, 14, 15, 16, 17, 18, 20, 22, 23, 26]) rfl rfl (any_of HT_.out (by kernel_rfl)) (fun _ _ _ h => h) (Or.inl ⟨by rfl, ?_⟩) ?_ ?_
                rotate_left
                · intro w'; go_simp; with_reducible rfl
                rotate_left
                · simp only [Act.put, List.setIfInBounds_toArray, List.set_cons_zero, List.set_cons_succ, i64_w, i32_w]; rfl
                refine take_ (i := 19) (N := some 78) (v := ?_) (a' := ?_) (bl 34 [0, 1, 2, 3, 4, 5, 6, 7, 8, 9, 10, 11, 12, 13, 14, 15, 16, 17, 18, 19, 20, 22, 23, 26]) rfl rfl (take_ofW HT_.out HW_.out (by kernel_rfl)) (fun _ _ _ h => h) (Or.inl ⟨by rfl, ?_⟩) hHeld ?_ ?_
                rotate_left
                · rintro w' ⟨s0, s1, s2, s3, s4, s5, s6, s7, s8⟩; go_simp; with_reducible rfl
                rotate_left
                · simp only [Act.put, List.setIfInBounds_toArray, List.set_cons_zero, List.set_cons_succ, i64_w, i32_w]; rfl
                refine take_ (i := 21) (N := some 80) (v := ?_) (a' := ?_) (bl 34 [0, 1, 2, 3, 4, 5, 6, 7, 8, 9, 10, 11, 12, 13, 14, 15, 16, 17, 18, 19, 20, 21, 22, 23, 26]) rfl rfl (take_ofW HT_.out HW_.out (by kernel_rfl)) (fun _ _ _ h => h) (Or.inl ⟨by rfl, ?_⟩) hHeld ?_ ?_
                rotate_left
                · rintro w' ⟨s0, s1, s2, s3, s4, s5, s6, s7, s8⟩; go_simp; with_reducible rfl
                rotate_left
                · simp only [Act.put, List.setIfInBounds_toArray, List.set_cons_zero, List.set_cons_succ, i64_w, i32_w]; rfl
                refine take_ (i := 24) (N := some 83) (v := ?_) (a' := ?_) (bl 34 [0, 1, 2, 3, 4, 5, 6, 7, 8, 9, 10, 11, 12, 13, 14, 15, 16, 17, 18, 19, 20, 21, 22, 23, 24, 26]) rfl rfl (take_ofW HT_.out HW_.out (by kernel_rfl)) (fun _ _ _ h => h) (Or.inl ⟨by rfl, ?_⟩) hHeld ?_ ?_
                rotate_left
                · rintro w' ⟨s0, s1, s2, s3, s4, s5, s6, s7, s8⟩; go_simp; with_reducible rfl
                rotate_left
                · simp only [Act.put, List.setIfInBounds_toArray, List.set_cons_zero, List.set_cons_succ, i64_w, i32_w]; rfl
                refine pure_ (i := 25) (N := some 84) (v := ?_) (a' := ?_) (bl 34 [0, 1, 2, 3, 4, 5, 6, 7, 8, 9, 10, 11, 12, 13, 14, 15, 16, 17, 18, 19, 20, 21, 22, 23, 24, 25, 26]) rfl rfl (any_of HT_.out (by kernel_rfl)) (fun _ _ _ h => h) (Or.inl ⟨by rfl, ?_⟩) ?_ ?_
                rotate_left
                · intro w'; go_simp; with_reducible rfl
                rotate_left
                · simp only [Act.put, List.setIfInBounds_toArray, List.set_cons_zero, List.set_cons_succ, i64_w, i32_w]; rfl
                refine pure_ (i := 27) (N := some 86) (v := ?_) (a' := ?_) (bl 34 [0, 1, 2, 3, 4, 5, 6, 7, 8, 9, 10, 11, 12, 13, 14, 15, 16, 17, 18, 19, 20, 21, 22, 23, 24, 25, 26, 27]) rfl rfl (any_of HT_.out (by kernel_rfl)) (fun _ _ _ h => h) (Or.inl ⟨by rfl, ?_⟩) ?_ ?_
                rotate_left
                · intro w'; go_simp; with_reducible rfl
                rotate_left
                · simp only [Act.put, List.setIfInBounds_toArray, List.set_cons_zero, List.set_cons_succ, i64_w, i32_w]; rfl
                refine pure_ (i := 28) (N := some 87) (v := ?_) (a' := ?_) (bl 34 [0, 1, 2, 3, 4, 5, 6, 7, 8, 9, 10, 11, 12, 13, 14, 15, 16, 17, 18, 19, 20, 21, 22, 23, 24, 25, 26, 27, 28]) rfl rfl (any_of HT_.out (by kernel_rfl)) (fun _ _ _ h => h) (Or.inl ⟨by rfl, ?_⟩) ?_ ?_
                rotate_left
                · intro w'; go_simp; with_reducible rfl
                rotate_left
                · simp only [Act.put, List.setIfInBounds_toArray, List.set_cons_zero, List.set_cons_succ, i64_w, i32_w]; rfl
                refine take_ (i := 29) (N := some 88) (v := ?_) (a' := ?_) (bl 34 [0, 1, 2, 3, 4, 5, 6, 7, 8, 9, 10, 11, 12, 13, 14, 15, 16, 17, 18, 19, 20, 21, 22, 23, 24, 25, 26, 27, 28, 29]) rfl rfl (take_ofW HT_.out HW_.out (by kernel_rfl)) (fun _ _ _ h => h) (Or.inl ⟨by rfl, ?_⟩) hHeld ?_ ?_
                rotate_left
                · rintro w' ⟨s0, s1, s2, s3, s4, s5, s6, s7, s8⟩; go_simp; with_reducible rfl
                rotate_left
                · simp only [Act.put, List.setIfInBounds_toArray, List.set_cons_zero, List.set_cons_succ, i64_w, i32_w]; rfl
                refine one_ (i := 30) (N := some 89) (bl 34 [0, 1, 2, 3, 4, 5, 6, 7, 8, 9, 10, 11, 12, 13, 14, 15, 16, 17, 18, 19, 20, 21, 22, 23, 24, 25, 26, 27, 28, 29, 30]) rfl rfl (one_of HT_.out (by kernel_rfl)) (by decide) (fun K hK => ?_)
                refine goes_ Try.func46 (by kernel_rfl) rfl #[.int .i64 ((ent M a i j).val : Int), .int .i64 ((ent C b j k).val : Int)] (by rfl) rfl rfl (by (try simp only [List.map_toArray, List.map_cons, List.map_nil]); first | done | rfl) ?_
                with_reducible refine (mulR_any (ent M a i j) (ent C b j k) _).mono ?_
                rintro e w' ⟨rfl, ⟨nd, rfl⟩⟩
                refine ⟨_, rfl, ?_⟩
                refine hK.out _ _ ⟨m1, m2, a1, a2, b1, b2, c3, c1, c2⟩ (fun hHeld => ?_)
                clear hK K
                refine norm_ (a' := ?_) ?_ ?_
                rotate_left
                · show Act.put _ (some 89) _ = _
                  simp only [Act.put, List.setIfInBounds_toArray, List.set_cons_zero, List.set_cons_succ, i64_w, i32_w]; rfl
                refine pure_ (i := 31) (N := some 90) (v := ?_) (a' := ?_) (bl 34 [0, 1, 2, 3, 4, 5, 6, 7, 8, 9, 10, 11, 12, 13, 14, 15, 16, 17, 18, 19, 20, 21, 22, 23, 24, 25, 26, 27, 28, 29, 30, 31]) rfl rfl (any_of HT_.out (by kernel_rfl)) (fun _ _ _ h => h) (Or.inl ⟨by rfl, ?_⟩) ?_ ?_
                rotate_left
                · intro w'; go_simp; with_reducible rfl
                rotate_left
                · simp only [Act.put, List.setIfInBounds_toArray, List.set_cons_zero, List.set_cons_succ, i64_w, i32_w]; rfl
                refine pure_ (i := 32) (N := some 91) (v := ?_) (a' := ?_) (bl 34 [0, 1, 2, 3, 4, 5, 6, 7, 8, 9, 10, 11, 12, 13, 14, 15, 16, 17, 18, 19, 20, 21, 22, 23, 24, 25, 26, 27, 28, 29, 30, 31, 32]) rfl rfl (any_of HT_.out (by kernel_rfl)) (fun _ _ _ h => h) (Or.inl ⟨by rfl, ?_⟩) ?_ ?_
                rotate_left
                · intro w'; go_simp; with_reducible rfl
                rotate_left
                · simp only [Act.put, List.setIfInBounds_toArray, List.set_cons_zero, List.set_cons_succ, i64_w, i32_w]; rfl
                refine last_ (i := 33) (N := none) (bl 34 [0, 1, 2, 3, 4, 5, 6, 7, 8, 9, 10, 11, 12, 13, 14, 15, 16, 17, 18, 19, 20, 21, 22, 23, 24, 25, 26, 27, 28, 29, 30, 31, 32, 33]) rfl rfl (one_of HT_.out (by kernel_rfl)) (by decide) (fun K hK => ?_)
                refine skip_ (w1 := ?_) (by rfl) rfl ?_ ?_
                rotate_left
                · go_simp; rfl
                refine hK.out _ _ ?_
                clear hK K
                refine done_ (done_of HT_.out (by kernel_rfl)) ?_
                try go_wp2
                go_roundg (M - (j + 1))
                case measure => go_light; omega
                case rel =>
                  go_light
                  refine ⟨j + 1, by omega, rfl, by go_num, ⟨?_⟩⟩
                  have h := (HR.out.put HG.out.1 (1 + nd) p0 (sum (j + 1) (fun t => mul (ent M a i t) (ent C b t k)))).congr (f' := part R M C a b (i * C + k) (sum (j + 1) (fun t => mul (ent M a i t) (ent C b t k)))) fun t _ => by
                    rw [HP0.out]
                    exact (part_put R M C a b (i * C + k) _ _ t).symm
                  exact h
              · have hjM' : ¬ (j : Int) < (M : Int) := by omega
                obtain rfl : j = M := by omega
                go_wp2
                go_roundg (C - (k + 1))
                case measure => go_light; omega
                case rel =>
                  go_light
                  exact ⟨k + 1, by omega, rfl, by go_num, ⟨by rw [← Nat.add_assoc, ← part_next R j C a b hkC]; exact HR.out⟩⟩
          · have hkC' : ¬ (k : Int) < (C : Int) := by omega
            obtain rfl : k = C := by omega
            go_wp2
            go_roundg (R - (i + 1))
            case measure => go_light; omega
            case rel =>
              go_light
              exact ⟨i + 1, by omega, rfl, by go_num, ⟨by rw [Nat.add_mul, Nat.one_mul]; exact HR.out⟩⟩
      · have hiR' : ¬ (i : Int) < (R : Int) := by omega
        obtain rfl : i = R := by omega
        obtain ⟨m0, m1, m2, _, _, _⟩ := blk_cell3 HR.out.head
        obtain ⟨k0, k1, k2, Z0, Z1, Z2⟩ := blk_cell3 HXi.out.ho
        go_wp2
        (try simp only [Exit.inBlock, Exit.then])
        refine bodyPost_ret (ret_cell4 Try.f34 (by kernel_rfl) _ _ (w.heap.size + 2) #[.int .i64 (i : Int), .int .i64 (C : Int), .slice (some ⟨gc, 0, none⟩) (i * C) (i * C)] (.int .i64 0) rfl rfl (blk_put (blk_put (blk_put HXi.out.ho 0 _ rfl) 1 _ rfl) 2 _ rfl) rfl) rfl ?_
        have hle : w.heap.size ≤ w.heap.size + 2 := by omega
        have hsz := HSZ.out
        have hgg := HG.out.1
        refine ⟨((HXi.out.below.setCell hle _).setCell hle _).setCell hle _, _, ?_, rfl⟩
        have ho : wr.ownsRow gc 3 1 (.slice (some ⟨gc, 0, none⟩) (i * C) (i * C)) (i * C) (nums .i64 (prods M C a b (i * C))) := by
          have h := HR.out.row.to_owns (base := gc) (Nat.le_refl _)
          have e : (List.range (i * C)).map (fun t => Value.int .i64 ((part i M C a b (i * C) 0 t).val : Int)) = nums .i64 (prods M C a b (i * C)) := by
            unfold nums prods
            rw [List.map_map]
            refine List.map_congr_left fun t ht => ?_
            have := List.mem_range.1 ht
            unfold part
            simp [this]
          rw [← e]
          exact h
        have hlt : w.heap.size + 2 < gc := by omega
        exact own_weaken (ownsRow_setCell_below (ownsRow_setCell_below (ownsRow_setCell_below ho hlt _) hlt _) hlt _) (by omega)
end Go.Proofs.Ytbdbfnkjbbbmdaa.MatMatrixDoes
