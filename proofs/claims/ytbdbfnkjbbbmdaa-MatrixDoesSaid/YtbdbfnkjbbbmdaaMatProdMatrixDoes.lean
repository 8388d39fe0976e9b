/- The walk of matrix.Product: the product of two matrices, or the first error. -/
import Derived.Test.YtbdbfnkjbbbmdaaRefRowsMatrixDoes
import Derived.Test.YtbdbfnkjbbbmdaaRefCheckMatrixDoes
import Derived.Test.YtbdbfnkjbbbmdaaMatInvMatrixDoes
import Derived.Deep.QuietTactic
import Derived.BigQuiet
namespace Go.Proofs.Ytbdbfnkjbbbmdaa.MatMatrixDoes
set_option linter.unusedSimpArgs false
set_option linter.unusedVariables false
open Go.RowKit Go.Proofs.Ytbdbfnkjbbbmdaa.PMatrixDoes Go.Proofs.YtbdbfnkjbbbmdaaW.PrintWords Go.Proofs.YtbdbfnkjbbbmdaaW.PrintLast Go.Proofs.Ytbdbfnkjbbbmdaa.Gf Go.Proofs.Ytbdbfnkjbbbmdaa.Lin Go.Proofs.Ytbdbfnkjbbbmdaa.MatMem Go.Proofs.Ytbdbfnkjbbbmdaa.MatData
/-- The first elements of a product, row by row. -/
def prods (M C : Nat) (a b : List Int) (n : Nat) : List Int := (List.range n).map fun t => ((mm M (ent M a) (ent C b) (t / C) (t % C)).val : Int)
theorem prods_len (M C : Nat) (a b : List Int) (n : Nat) : (prods M C a b n).length = n := by simp [prods]
theorem prods_snoc {M C i k : Nat} (a b : List Int) (hk : k < C) : nums .i64 (prods M C a b (i * C + k + 1)) = nums .i64 (prods M C a b (i * C + k)) ++ [.int .i64 ((mm M (ent M a) (ent C b) i k).val : Int)] := by
  have e1 : (i * C + k) / C = i := by rw [Nat.mul_comm, Nat.mul_add_div (by omega), Nat.div_eq_of_lt hk]; rfl
  have e2 : (i * C + k) % C = k := by rw [Nat.mul_comm, Nat.mul_add_mod, Nat.mod_eq_of_lt hk]
  unfold prods nums
  rw [List.range_succ, List.map_append, List.map_append]
  simp [e1, e2]
theorem prods_cells (R M C : Nat) (a b : List Int) : prods M C a b (R * C) = cells R C (mm M (ent M a) (ent C b)) := rfl
theorem mul_quiet (x y : F) (w : World) (n : Nat) : Calls Try.prog 42 #[.int .i64 (x.val : Int), .int .i64 (y.val : Int)] (w.drewN n) fun e w'' => e = .returned (.int .i64 ((mul x y).val : Int)) ∧ ∃ m, w'' = w.drewN m :=
  Calls.quiet_of ((mul_any x y _).mono fun _ _ ⟨he, hd⟩ => ⟨he, hd.out⟩)
theorem mulR_quiet (x y : F) (w : World) (n : Nat) : Calls Try.prog 46 #[.int .i64 (x.val : Int), .int .i64 (y.val : Int)] (w.drewN n) fun e w'' => e = .returned (.int .i64 ((mul x y).val : Int)) ∧ ∃ m, w'' = w.drewN m :=
  Calls.quiet_of ((mulR_any x y _).mono fun _ _ ⟨he, hd⟩ => ⟨he, hd.out⟩)
/-- What Product leaves at valid matrices that fit. -/
def ProdEnd (R M C : Nat) (a b : List Int) (w : World) (e : Ending) (w' : World) : Prop :=
  Below w.heap.size w w' ∧ ∃ v : Value, w'.ownsRow w.heap.size 3 1 v (R * C) (nums .i64 (prods M C a b (R * C))) ∧ e = .returned (.tuple #[.agg #[.int .i64 (R : Int), .int .i64 (C : Int), v], .int .i64 0])
theorem ret_cell4 (f : Func) (hr : f.results = #[.cell 4 26, .tmp 5]) (tmps : Array Value) (w : World) (g : Nat) (cs : Array Value) (u : Value) (hp : tmps.getD 4 undef = .pointer (some ⟨g, 0, none⟩)) (hu : tmps.getD 5 undef = u) (hg : w.heap[g]? = some (.cells cs 26 (0, 0))) (hs : cs.size = 3) :
    (results f tmps).run Try.prog w = .ok (.tuple #[.agg cs, u]) w := by
  rw [results_cell_tmp (p := 4) (u := 5) (ty := 26) hr, hp, hu]
  have hi : (Try.prog.info? 26).map (·.size) = some cs.size := by rw [hs]; kernel_rfl
  simp [asAddr, Result.andThen, run_loadVar_row w g 26 26 cs (0, 0) _ hg Try.underlying26 rfl hi]
/-- The cells of a matrix's elements, kept over a call. -/
theorem elems_kept {w w' : World} {ad : Addr} {l : List Int} {B : Nat} (hb : Below B w w') (hB : w.heap.size ≤ B) (h : ∀ j, j < l.length → w.cell? (ad.add j) = some (.int .i64 ((el l j).val : Int))) : ∀ j, j < l.length → w'.cell? (ad.add j) = some (.int .i64 ((el l j).val : Int)) := by
  intro j hj
  have hcj := h j hj
  rw [hb.cell (p := ad.add j) (Nat.lt_of_lt_of_le (World.block_lt_of_cell? _ _ hcj) hB), hcj]
/-- Two parameters and a result in their boxes. -/
structure Boxes (w0 w : World) (oa ob oo : Obj) : Prop where
  ha : w.heap[w0.heap.size]? = some oa
  hb : w.heap[w0.heap.size + 1]? = some ob
  ho : w.heap[w0.heap.size + 2]? = some oo
  sz : w0.heap.size + 3 ≤ w.heap.size
  below : Below w0.heap.size w0 w
theorem Boxes.start (w : World) (oa ob oo : Obj) : Boxes w (((w.alloc oa).alloc ob).alloc oo) oa ob oo := by
  refine ⟨?_, ?_, ?_, by simp, ((((Below.refl _ _).alloc (Nat.le_refl _) _).alloc (by simp) _).alloc (by simp; omega) _)⟩
  · rw [Below.heap_alloc _ _ _ (by simp; omega), Below.heap_alloc _ _ _ (by simp)]
    exact heap_alloc_new w oa
  · rw [Below.heap_alloc _ _ _ (by simp)]
    have := heap_alloc_new (w.alloc oa) ob
    simpa using this
  · have := heap_alloc_new ((w.alloc oa).alloc ob) oo
    simpa using this
theorem Boxes.grow {w0 w w' : World} {oa ob oo : Obj} {B : Nat} (h : Boxes w0 w oa ob oo) (k : Below B w w') (hB : w0.heap.size + 3 ≤ B) : Boxes w0 w' oa ob oo :=
  ⟨(k.block _ (by omega)).trans h.ha, (k.block _ (by omega)).trans h.hb, (k.block _ (by omega)).trans h.ho, Nat.le_trans h.sz k.size, h.below.trans (k.mono (by omega))⟩
theorem blk_cell3 {w : World} {g : Nat} {x y z : Value} (h : w.heap[g]? = some (.cells #[x, y, z] 26 (0, 0))) : w.cell? ⟨g, 0, none⟩ = some x ∧ w.cell? ⟨g, 1, none⟩ = some y ∧ w.cell? ⟨g, 2, none⟩ = some z ∧ w.frozen? ⟨g, 0, none⟩ = false ∧ w.frozen? ⟨g, 1, none⟩ = false ∧ w.frozen? ⟨g, 2, none⟩ = false := by
  simp [World.cell?, World.frozen?, h]
theorem wmul {a b : Nat} (h : a * b ≤ 1000000) : wrap64 ((a : Int) * (b : Int)) = ((a * b : Nat) : Int) := by
  have : (a : Int) * (b : Int) = ((a * b : Nat) : Int) := by simp
  rw [this]; unfold wrap64; omega
theorem wadd {a b : Nat} (h : a + b ≤ 1000000) : wrap64 ((a : Int) + (b : Int)) = ((a + b : Nat) : Int) := by unfold wrap64; omega
/-- The product that is made: p elements lie there. -/
def PAcc (R M C : Nat) (a b : List Int) (B1 : Nat) (w3 w : World) (p : Nat) : Prop :=
  ∃ (A : Option Addr) (c2 : Nat), w.heap[B1]? = some (.cells #[.int .i64 (R : Int), .int .i64 (C : Int), .slice A p c2] 26 (0, 0)) ∧ w.ownsRow (B1 + 1) 3 1 (.slice A p c2) p (nums .i64 (prods M C a b p)) ∧ Below B1 w3 w
theorem own_drewN {w : World} {base e size n : Nat} {v : Value} {xs : List Value} (h : w.ownsRow base e size v n xs) (k : Nat) : (w.drewN k).ownsRow base e size v n xs := h
theorem PAcc.drewN {R M C : Nat} {a b : List Int} {B1 : Nat} {w3 w : World} {p : Nat} (h : PAcc R M C a b B1 w3 w p) (k : Nat) : PAcc R M C a b B1 w3 (w.drewN k) p := by
  obtain ⟨A, c2, h1, h2, h3⟩ := h
  exact ⟨A, c2, h1, own_drewN h2 k, belowN h3 k⟩
set_option maxHeartbeats 4000000 in
theorem product_valid (R M C ca cb : Nat) (A B : Option Addr) (a b : List Int) (w : World) (ha : Kd.C (Kd.int .i64) w A a.length a) (hca : a.length ≤ ca) (va : Valid R M a) (hb : Kd.C (Kd.int .i64) w B b.length b) (hcb : b.length ≤ cb) (vb : Valid M C b) :
    Calls Try.prog 27 #[.agg #[.int .i64 (R : Int), .int .i64 (M : Int), .slice A a.length ca], .agg #[.int .i64 (M : Int), .int .i64 (C : Int), .slice B b.length cb]] w (ProdEnd R M C a b w) := by
  have la : a.length ≤ 140737488355328 := by have := Nat.mul_le_mul va.r1 va.c1; have := va.len; omega
  have lb : b.length ≤ 140737488355328 := by have := Nat.mul_le_mul vb.r1 vb.c1; have := vb.len; omega
  have chkA := Aside0.mk (fun (X : World) (hX : Below w.heap.size w X) => matrix_Check_any (R : Int) (M : Int) A ca a X (Kd.C_below ha hX) hca la)
  have chkB := Aside0.mk (fun (X : World) (hX : Below w.heap.size w X) => matrix_Check_any (M : Int) (C : Int) B cb b X (Kd.C_below hb hX) hcb lb)
  obtain ⟨ada, rfl, hcA⟩ := cells_C ha (by rw [va.len]; exact Nat.mul_pos va.r0 va.c0) va.els
  obtain ⟨adb, rfl, hcB⟩ := cells_C hb (by rw [vb.len]; exact Nat.mul_pos vb.r0 vb.c0) vb.els
  have k1 : (chk (R : Int) (M : Int) a != 0) = false := by rw [chk_valid va]; rfl
  have k2 : (chk (M : Int) (C : Int) b != 0) = false := by rw [chk_valid vb]; rfl
  have VA := Aside0.mk va
  have VB := Aside0.mk vb
  have HCA := Aside0.mk (And.intro hcA hca)
  have HCB := Aside0.mk (And.intro hcB hcb)
  clear ha hb va vb hcA hcB hca hcb la lb
  obtain ⟨i3, hi, hz0, hz1, hz2⟩ := info_parts info3'
  have HI := Aside0.mk (And.intro hi (And.intro hz0 (And.intro hz1 hz2)))
  clear hi hz0 hz1 hz2
  go_enter Try.func27, Try.ntmps27
  go_upto_region 2 with (go_at_call 32; (with_reducible refine (chkA.out _ (by first | exact (((Below.refl _ _).alloc (Nat.le_refl _) _).alloc (by simp) _).alloc (by simp; omega) _)).mono ?_); rintro e w1 ⟨rfl, hb⟩; have HB1 := Aside0.mk hb; clear hb)
  have HX1 := Aside0.mk ((Boxes.start w _ _ _).grow HB1.out (by simp))
  clear HB1
  obtain ⟨b0, b1, b2, _, _, _⟩ := blk_cell3 HX1.out.hb
  go_upto_region 5 with (go_at_call 32; (with_reducible refine (chkB.out _ HX1.out.below).mono ?_); rintro e w2 ⟨rfl, hb⟩; have HB1 := Aside0.mk hb; clear hb)
  have HX2 := Aside0.mk (HX1.out.grow HB1.out HX1.out.sz)
  clear HX1 HB1 b0 b1 b2
  obtain ⟨a0, a1, a2, _, _, _⟩ := blk_cell3 HX2.out.ha
  obtain ⟨b0, b1, b2, _, _, _⟩ := blk_cell3 HX2.out.hb
  have e0 : ((M : Int) != (M : Int)) = false := by rw [bne_eq_false_iff_eq]
  go_upto_region 10 with fail
  obtain ⟨w3, hw3⟩ : ∃ w3 : World, w3.heap[w2.heap.size]? = some (.cells #[.int .i64 (R : Int), .int .i64 (C : Int), .slice none 0 0] 26 (0, 0)) ∧ Below w2.heap.size w2 w3 ∧ w3 = w2.alloc (.cells #[.int .i64 (R : Int), .int .i64 (C : Int), .slice none 0 0] 26) :=
    ⟨_, blk_new _ _, (Below.refl _ _).alloc (Nat.le_refl _) _, rfl⟩
  rw [← hw3.2.2]
  have H4 := Aside0.mk (And.intro hw3.1 hw3.2.1)
  have HX3 := Aside0.mk (HX2.out.grow hw3.2.1 HX2.out.sz)
  clear hw3 a0 a1 a2 b0 b1 b2 e0
  obtain ⟨B1, hB1⟩ : ∃ B1, B1 = w2.heap.size := ⟨_, rfl⟩
  rw [← hB1] at H4
  try rw [← hB1]
  have HB1E := Aside0.mk (show w.heap.size + 3 ≤ B1 by rw [hB1]; exact HX2.out.sz)
  have HCA3 := Aside0.mk (elems_kept HX3.out.below (Nat.le_refl _) HCA.out.1)
  have HCB3 := Aside0.mk (elems_kept HX3.out.below (Nat.le_refl _) HCB.out.1)
  have HLT3 := Aside0.mk (show B1 ≤ w3.heap.size by rw [hB1]; exact H4.out.2.size)
  clear hB1 HX2
  obtain ⟨a0, a1, a2, _, _, _⟩ := blk_cell3 HX3.out.ha
  have hR16 := VA.out.r1
  have hM16 := VA.out.c1
  have hC16 := VB.out.c1
  go_wp2
  clear a0 a1 a2
  go_loopg [38] R (fun gi v38 wr => ∃ i : Nat, i ≤ R ∧ gi = R - i ∧ v38 = .int .i64 i ∧ Aside0 (PAcc R M C a b B1 w3 wr (i * C)))
  case atStart =>
    go_light
    exact ⟨0, Nat.zero_le _, rfl, rfl, ⟨none, 0, by simpa using H4.out.1, by simpa [prods, nums] using own_nil _ _ _ _, Below.refl _ _⟩⟩
  case round =>
    clear H4
    obtain ⟨i, hi, rfl, rfl, HP⟩ := hrel
    by_cases hiR : i < R
    · have hiR' : (i : Int) < (R : Int) := by omega
      have hXi := HX3.out.grow (show Below B1 w3 wr by obtain ⟨_, _, _, _, h⟩ := HP.out; exact h) HB1E.out
      obtain ⟨b0, b1, b2, _, _, _⟩ := blk_cell3 hXi.hb
      clear hXi
      go_wp2
      clear b0 b1 b2
      go_loopg [43] C (fun gk v43 wk => ∃ k : Nat, k ≤ C ∧ gk = C - k ∧ v43 = .int .i64 k ∧ Aside0 (PAcc R M C a b B1 w3 wk (i * C + k)))
      case atStart =>
        go_light
        exact ⟨0, Nat.zero_le _, rfl, rfl, HP⟩
      case round =>
        clear HP
        obtain ⟨k, hk, rfl, rfl, HP⟩ := hrel
        by_cases hkC : k < C
        · have hkC' : (k : Int) < (C : Int) := by omega
          have hXk := HX3.out.grow (show Below B1 w3 wr by obtain ⟨_, _, _, _, h⟩ := HP.out; exact h) HB1E.out
          obtain ⟨a0, a1, a2, _, _, _⟩ := blk_cell3 hXk.ha
          clear hXk
          go_wp2
          clear a0 a1 a2
          go_loopg [11, 48] M (fun gj v11 v48 wj => ∃ j : Nat, j ≤ M ∧ gj = M - j ∧ v48 = .int .i64 j ∧ v11 = .int .i64 ((sum j (fun t => mul (ent M a i t) (ent C b t k))).val : Int) ∧ Aside0 (PAcc R M C a b B1 w3 wj (i * C + k)))
          case atStart =>
            go_light
            exact ⟨0, Nat.zero_le _, rfl, rfl, rfl, HP⟩
          case round =>
            clear HP
            obtain ⟨j, hj, rfl, rfl, rfl, HP⟩ := hrel
            by_cases hjM : j < M
            · have hjM' : (j : Int) < (M : Int) := by omega
              have hXj := HX3.out.grow (show Below B1 w3 wr by obtain ⟨_, _, _, _, h⟩ := HP.out; exact h) HB1E.out
              obtain ⟨a0, a1, a2, _, _, _⟩ := blk_cell3 hXj.ha
              obtain ⟨b0, b1, b2, _, _, _⟩ := blk_cell3 hXj.hb
              clear hXj
              have i1 := index_lt (R := R) (C := M) hiR hjM
              have i2 := index_lt (R := M) (C := C) hjM hkC
              have hRM := Nat.mul_le_mul hR16 hM16
              have hMC := Nat.mul_le_mul hM16 hC16
              have hb1 : i * M + j ≤ 1000000 := Nat.le_trans (Nat.le_of_lt i1) (Nat.le_trans hRM (by decide))
              have hb2 : j * C + k ≤ 1000000 := Nat.le_trans (Nat.le_of_lt i2) (Nat.le_trans hMC (by decide))
              have e1 := wmul (Nat.le_trans (Nat.le_add_right (i * M) j) hb1)
              have e2 := wadd hb1
              have e3 := wmul (Nat.le_trans (Nat.le_add_right (j * C) k) hb2)
              have e4 := wadd hb2
              have e1' := (i64_w _).trans e1
              have e2' := (i64_w _).trans e2
              have e3' := (i64_w _).trans e3
              have e4' := (i64_w _).trans e4
              have x3 : i * M + j < a.length := by rw [VA.out.len]; exact i1
              have x4 : j * C + k < b.length := by rw [VB.out.len]; exact i2
              have x1 : ((i * M + j : Nat) : Int) < (a.length : Int) := Int.ofNat_lt.2 x3
              have x2 : ((j * C + k : Nat) : Int) < (b.length : Int) := Int.ofNat_lt.2 x4
              have c1 : wr.cell? (ada.add (i * M + j)) = some (.int .i64 ((ent M a i j).val : Int)) := by
                obtain ⟨_, _, _, _, h⟩ := HP.out
                have h1 := World.block_lt_of_cell? _ _ (HCA.out.1 _ x3)
                rw [h.cell (p := ada.add (i * M + j)) (Nat.lt_of_lt_of_le h1 (Nat.le_trans (Nat.le_add_right _ 3) HB1E.out)), HCA3.out _ x3]
                rfl
              have c2 : wr.cell? (adb.add (j * C + k)) = some (.int .i64 ((ent C b j k).val : Int)) := by
                obtain ⟨_, _, _, _, h⟩ := HP.out
                have h1 := World.block_lt_of_cell? _ _ (HCB.out.1 _ x4)
                rw [h.cell (p := adb.add (j * C + k)) (Nat.lt_of_lt_of_le h1 (Nat.le_trans (Nat.le_add_right _ 3) HB1E.out)), HCB3.out _ x4]
                rfl
              clear i1 i2 hRM hMC hb1 hb2
              generalize i * M + j = p1 at e2 e2' x3 x1 c1
              generalize i * M = p at e1 e1' e2 e2'
              generalize j * C + k = q1 at e4 e4' x4 x2 c2
              generalize j * C = q at e3 e3' e4 e4'
              have hx := xor_any (sum j (fun t => mul (ent M a i t) (ent C b t k))) (mul (ent M a i j) (ent C b j k))
              have hs : add (sum j (fun t => mul (ent M a i t) (ent C b t k))) (mul (ent M a i j) (ent C b j k)) = sum (j + 1) (fun t => mul (ent M a i t) (ent C b t k)) := rfl
              rw [hs] at hx
              clear hs
              go_upto_region 20 with fail
              clear HX3 HCA3 HCB3 HLT3 chkA chkB HCA HCB
              go_region_held3 (fun X => X.cell? ⟨w.heap.size, 1, none⟩ = some (.int .i64 (M : Int)) ∧ X.cell? ⟨w.heap.size, 2, none⟩ = some (.slice (some ada) a.length ca) ∧ X.cell? ⟨w.heap.size + 1, 1, none⟩ = some (.int .i64 (C : Int)) ∧ X.cell? ⟨w.heap.size + 1, 2, none⟩ = some (.slice (some adb) b.length cb) ∧ X.cell? (ada.add p1) = some (.int .i64 ((ent M a i j).val : Int)) ∧ X.cell? (adb.add q1) = some (.int .i64 ((ent C b j k).val : Int))) (first | exact ⟨a1, a2, b1, b2, c1, c2⟩ | go_keep) (first | (go_at_call 42; (with_reducible refine (mul_any _ _ _).mono ?_); rintro e w' ⟨rfl, ⟨nd, rfl⟩⟩))
              go_wp2
              go_roundg (M - (j + 1))
              case measure => go_light; omega
              case rel =>
                go_light
                exact ⟨j + 1, by omega, rfl, by go_num, rfl, ⟨HP.out.drewN _⟩⟩
            · have hjM' : ¬ (j : Int) < (M : Int) := by omega
              obtain rfl : j = M := by omega
              have hp256 : i * C + k < 256 := Nat.lt_of_lt_of_le (index_lt (R := R) (C := C) hiR hkC) (Nat.mul_le_mul hR16 hC16)
              obtain ⟨A, c2, h1, h2, h3⟩ := HP.out
              obtain ⟨_, _, m2, _, _, z2⟩ := blk_cell3 h1
              have HO := Aside0.mk (And.intro h1 (And.intro h2 h3))
              clear h1 h2 h3 HP
              obtain ⟨p0, hp0⟩ : ∃ p0, p0 = i * C + k := ⟨_, rfl⟩
              rw [← hp0] at m2 hp256 HO
              have HP0 := Aside0.mk hp0
              clear hp0
              have HBS := Aside0.mk (show B1 + 1 ≤ wr.heap.size by have := blk_lt HO.out.1; omega)
              go_wp2_with (at_builtin; refine wpList_append_own _ rfl (.tmp 76) (.tmp 78) 24 rfl (B1 + 1) 3 i3 (.int .i64 0) 1 8 Try.underlying24 HI.out.1 HI.out.2.1 HI.out.2.2.1 HI.out.2.2.2 rfl Nat.one_pos (.slice A p0 c2) p0 (nums .i64 (prods j C a b p0)) rfl ?c0 ⟨wr.heap.size, 0, none⟩ 1 1 [.int .i64 ((sum j (fun t => mul (ent j a i t) (ent C b t k))).val : Int)] rfl rfl ?c1 ?c2 ?c3 ?c4 ?c5 ?_)
              case c0 => exact HO.out.2.1.alloc _
              case c2 => rfl
              case c3 => simp [maxLen]; omega
              case c4 => omega
              case c5 => have := HBS.out; simp; omega
              intro v' w4 hown hg hnil
              obtain ⟨g1, cap1, rfl, hg1, hrr1⟩ := own_slice hown (by omega)
              have e5 : w4.heap[B1]? = some (.cells #[.int .i64 (R : Int), .int .i64 (C : Int), .slice A p0 c2] 26 (0, 0)) := by
                have h0 := HBS.out
                rw [hg.block B1 (by simp; omega) (fun e => by have := own_base HO.out.2.1 B1 e.symm; omega), Below.heap_alloc _ _ _ (by omega)]
                exact HO.out.1
              have c5 : w4.cell? ⟨B1, 2, none⟩ = some (.slice A p0 c2) := by simp [World.cell?, e5]
              have f5 : w4.frozen? ⟨B1, 2, none⟩ = false := by simp [World.frozen?, e5]
              have HX := Aside0.mk (And.intro hown (And.intro hg e5))
              clear hown hg hnil e5 hg1 hrr1 m2 z2
              go_wp2
              go_roundg (C - (k + 1))
              case measure => go_light; omega
              case rel =>
                go_light
                refine ⟨k + 1, by omega, rfl, by go_num, ⟨some ⟨g1, 0, none⟩, cap1, ?_, ?_, ?_⟩⟩
                · have := blk_put HX.out.2.2 2 (.slice (some ⟨g1, 0, none⟩) (p0 + 1) cap1) rfl
                  rw [← Nat.add_assoc, ← HP0.out]
                  exact this
                · have := ownsRow_setCell_below HX.out.1 (a := ⟨B1, 2, none⟩) (by show B1 < B1 + 1; omega) (.slice (some ⟨g1, 0, none⟩) (p0 + 1) cap1)
                  rw [← Nat.add_assoc, prods_snoc a b hkC, ← HP0.out]
                  exact this
                · have h0 := HBS.out
                  exact ((HO.out.2.2.alloc (by omega) _).grown HX.out.2.1 (by simp; omega) (fun q hq => by have := own_base HO.out.2.1 q hq; omega)).setCell (by simp) _
        · have hkC' : ¬ (k : Int) < (C : Int) := by omega
          obtain rfl : k = C := by omega
          go_wp2
          go_roundg (R - (i + 1))
          case measure => go_light; omega
          case rel =>
            go_light
            exact ⟨i + 1, by omega, rfl, by go_num, ⟨by rw [Nat.add_mul, Nat.one_mul]; exact HP.out⟩⟩
    · have hiR' : ¬ (i : Int) < (R : Int) := by omega
      obtain rfl : i = R := by omega
      obtain ⟨A, c2, h1, h2, h3⟩ := HP.out
      obtain ⟨m0, m1, m2, _, _, _⟩ := blk_cell3 h1
      have hX := HX3.out.grow h3 HB1E.out
      obtain ⟨k0, k1, k2, Z0, Z1, Z2⟩ := blk_cell3 hX.ho
      have HO := Aside0.mk (And.intro h1 (And.intro h2 (And.intro h3 hX)))
      clear h1 h2 h3 hX HP
      go_wp2
      (try simp only [Exit.inBlock, Exit.then])
      refine bodyPost_ret (ret_cell4 Try.f27 (by kernel_rfl) _ _ (w.heap.size + 2) #[.int .i64 (i : Int), .int .i64 (C : Int), .slice A (i * C) c2] (.int .i64 0) rfl rfl (blk_put (blk_put (blk_put HO.out.2.2.2.ho 0 _ rfl) 1 _ rfl) 2 _ rfl) rfl) rfl ?_
      have hB := HB1E.out
      have hle : w.heap.size ≤ w.heap.size + 2 := by omega
      refine ⟨((HO.out.2.2.2.below.setCell hle _).setCell hle _).setCell hle _, _, ?_, rfl⟩
      refine own_weaken (base := B1 + 1) ?_ (by omega)
      exact ownsRow_setCell_below (ownsRow_setCell_below (ownsRow_setCell_below HO.out.2.1 (by simp; omega) _) (by simp; omega) _) (by simp; omega) _
/-- The first error of two matrices that are multiplied. -/
def prodErr (R M R2 C : Int) (a b : List Int) : Int := if chk R M a ≠ 0 then chk R M a else if chk R2 C b ≠ 0 then chk R2 C b else if M ≠ R2 then 2 else 0
def ProdBad (R M R2 C : Int) (a b : List Int) (w : World) (e : Ending) (w' : World) : Prop :=
  Below w.heap.size w w' ∧ e = .returned (.tuple #[.agg #[.int .i64 0, .int .i64 0, .slice none 0 0], .int .i64 (prodErr R M R2 C a b)])
set_option maxHeartbeats 4000000 in
theorem product_bad (R M R2 C : Int) (ca cb : Nat) (A B : Option Addr) (a b : List Int) (w : World) (ha : Kd.C (Kd.int .i64) w A a.length a) (hca : a.length ≤ ca) (la : a.length ≤ 140737488355328) (hb : Kd.C (Kd.int .i64) w B b.length b) (hcb : b.length ≤ cb) (lb : b.length ≤ 140737488355328) (hbad : prodErr R M R2 C a b ≠ 0) :
    Calls Try.prog 27 #[.agg #[.int .i64 R, .int .i64 M, .slice A a.length ca], .agg #[.int .i64 R2, .int .i64 C, .slice B b.length cb]] w (ProdBad R M R2 C a b w) := by
  have chkA := Aside0.mk (fun (X : World) (hX : Below w.heap.size w X) => matrix_Check_any R M A ca a X (Kd.C_below ha hX) hca la)
  have chkB := Aside0.mk (fun (X : World) (hX : Below w.heap.size w X) => matrix_Check_any R2 C B cb b X (Kd.C_below hb hX) hcb lb)
  have HBAD := Aside0.mk hbad
  clear ha hb hca hcb la lb hbad
  go_enter Try.func27, Try.ntmps27
  go_upto_region 2 with (go_at_call 32; (with_reducible refine (chkA.out _ (by first | exact (((Below.refl _ _).alloc (Nat.le_refl _) _).alloc (by simp) _).alloc (by simp; omega) _)).mono ?_); rintro e w1 ⟨rfl, hb⟩; have HB1 := Aside0.mk hb; clear hb)
  have HX1 := Aside0.mk ((Boxes.start w _ _ _).grow HB1.out (by simp))
  clear HB1
  have hle : w.heap.size ≤ w.heap.size + 2 := by omega
  have HLE := Aside0.mk hle
  clear hle
  by_cases h1 : chk R M a = 0
  · have k1 : (chk R M a != 0) = false := by rw [h1]; rfl
    have H1 := Aside0.mk h1
    clear h1
    obtain ⟨b0, b1, b2, _, _, _⟩ := blk_cell3 HX1.out.hb
    go_upto_region 5 with (go_at_call 32; (with_reducible refine (chkB.out _ HX1.out.below).mono ?_); rintro e w2 ⟨rfl, hb⟩; have HB1 := Aside0.mk hb; clear hb)
    have HX2 := Aside0.mk (HX1.out.grow HB1.out HX1.out.sz)
    clear HX1 HB1 b0 b1 b2
    obtain ⟨c0, c1, c2, Z0, Z1, Z2⟩ := blk_cell3 HX2.out.ho
    by_cases h2 : chk R2 C b = 0
    · have k2 : (chk R2 C b != 0) = false := by rw [h2]; rfl
      have H2 := Aside0.mk h2
      clear h2
      obtain ⟨a0, a1, a2, _, _, _⟩ := blk_cell3 HX2.out.ha
      obtain ⟨b0, b1, b2, _, _, _⟩ := blk_cell3 HX2.out.hb
      have hne : M ≠ R2 := by
        intro e
        exact HBAD.out (by unfold prodErr; rw [if_neg (by simp [H1.out]), if_neg (by simp [H2.out]), if_neg (by simp [e])])
      have e0 : (M != R2) = true := by rw [bne_iff_ne]; exact hne
      have HNE := Aside0.mk hne
      clear hne
      go_wp2
      (try simp only [Exit.inBlock, Exit.then])
      refine bodyPost_ret (ret_cell4 Try.f27 (by kernel_rfl) _ _ (w.heap.size + 2) #[.int .i64 0, .int .i64 0, .slice none 0 0] (.int .i64 2) rfl rfl (blk_put (blk_put (blk_put HX2.out.ho 0 _ rfl) 1 _ rfl) 2 _ rfl) rfl) rfl ?_
      refine ⟨((HX2.out.below.setCell HLE.out _).setCell HLE.out _).setCell HLE.out _, ?_⟩
      have : prodErr R M R2 C a b = 2 := by unfold prodErr; rw [if_neg (by simp [H1.out]), if_neg (by simp [H2.out]), if_pos HNE.out]
      rw [this]
    · have k2 : (chk R2 C b != 0) = true := by rw [bne_iff_ne]; exact h2
      have H2 := Aside0.mk h2
      clear h2
      go_wp2
      (try simp only [Exit.inBlock, Exit.then])
      refine bodyPost_ret (ret_cell4 Try.f27 (by kernel_rfl) _ _ (w.heap.size + 2) #[.int .i64 0, .int .i64 0, .slice none 0 0] (.int .i64 (chk R2 C b)) rfl rfl (blk_put (blk_put (blk_put HX2.out.ho 0 _ rfl) 1 _ rfl) 2 _ rfl) rfl) rfl ?_
      refine ⟨((HX2.out.below.setCell HLE.out _).setCell HLE.out _).setCell HLE.out _, ?_⟩
      have : prodErr R M R2 C a b = chk R2 C b := by unfold prodErr; rw [if_neg (by simp [H1.out]), if_pos H2.out]
      rw [this]
  · have k1 : (chk R M a != 0) = true := by rw [bne_iff_ne]; exact h1
    have H1 := Aside0.mk h1
    clear h1
    obtain ⟨c0, c1, c2, Z0, Z1, Z2⟩ := blk_cell3 HX1.out.ho
    go_wp2
    (try simp only [Exit.inBlock, Exit.then])
    refine bodyPost_ret (ret_cell4 Try.f27 (by kernel_rfl) _ _ (w.heap.size + 2) #[.int .i64 0, .int .i64 0, .slice none 0 0] (.int .i64 (chk R M a)) rfl rfl (blk_put (blk_put (blk_put HX1.out.ho 0 _ rfl) 1 _ rfl) 2 _ rfl) rfl) rfl ?_
    refine ⟨((HX1.out.below.setCell HLE.out _).setCell HLE.out _).setCell HLE.out _, ?_⟩
    have : prodErr R M R2 C a b = chk R M a := by unfold prodErr; rw [if_pos H1.out]
    rw [this]
end Go.Proofs.Ytbdbfnkjbbbmdaa.MatMatrixDoes
