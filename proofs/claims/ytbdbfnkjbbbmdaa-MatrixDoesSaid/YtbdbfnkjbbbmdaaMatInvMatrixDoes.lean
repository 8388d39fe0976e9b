/- The walk of matrix.Inverse: the inverse of a square matrix of full rank, or the error. -/
import Derived.Test.YtbdbfnkjbbbmdaaMatRankMatrixDoes
import Derived.Test.YtbdbfnkjbbbmdaaMatTab
import Derived.Deep.AppendLies
import Derived.Deep.RegionLaw
namespace Go.Proofs.Ytbdbfnkjbbbmdaa.MatMatrixDoes
set_option linter.unusedSimpArgs false
set_option linter.unusedVariables false
open Go.RowKit Go.Proofs.Ytbdbfnkjbbbmdaa.PMatrixDoes Go.Proofs.YtbdbfnkjbbbmdaaW.PrintWords Go.Proofs.YtbdbfnkjbbbmdaaW.PrintLast Go.Proofs.Ytbdbfnkjbbbmdaa.Gf Go.Proofs.Ytbdbfnkjbbbmdaa.Lin Go.Proofs.Ytbdbfnkjbbbmdaa.MatMem Go.Proofs.Ytbdbfnkjbbbmdaa.MatData
/-- l' is the inverse of l, on both sides. -/
def IsInv (n : Nat) (l l' : List Int) : Prop :=
  Valid n n l' ∧ (∀ i, i < n → ∀ j, j < n → mm n (ent n l) (ent n l') i j = idm i j) ∧ (∀ i, i < n → ∀ j, j < n → mm n (ent n l') (ent n l) i j = idm i j)
/-- What Inverse leaves at a valid square matrix. -/
def InvEnd (n : Nat) (l : List Int) (w : World) (e : Ending) (w' : World) : Prop :=
  Below w.heap.size w w' ∧ ((∃ (l' : List Int) (v2 : Value), IsInv n l l' ∧ IsRank n n (ent n l) n ∧ w'.ownsRow w.heap.size 3 1 v2 l'.length (nums .i64 l') ∧ e = .returned (.tuple #[.agg #[.int .i64 (n : Int), .int .i64 (n : Int), v2], .int .i64 0])) ∨
    ((∃ r, r < n ∧ IsRank n n (ent n l) r) ∧ e = .returned (.tuple #[.agg #[.int .i64 0, .int .i64 0, .slice none 0 0], .int .i64 14])))
theorem block_new {W W' : World} {o : Obj} {k : Nat} (hb : Below (W.alloc o).heap.size (W.alloc o) W') (hk : W.heap.size = k) : W'.heap[k]? = some o := by
  subst hk
  rw [hb.block _ (by simp)]
  exact heap_alloc_new W o
theorem ret26 (tmps : Array Value) (w : World) (g : Nat) (cs : Array Value) (u : Value) (hp : tmps.getD 2 undef = .pointer (some ⟨g, 0, none⟩)) (hu : tmps.getD 3 undef = u) (hg : w.heap[g]? = some (.cells cs 26 (0, 0))) (hs : cs.size = 3) :
    (results Try.f26 tmps).run Try.prog w = .ok (.tuple #[.agg cs, u]) w := by
  rw [results_cell_tmp (p := 2) (u := 3) (ty := 26) (by kernel_rfl), hp, hu]
  have hi : (Try.prog.info? 26).map (·.size) = some cs.size := by rw [hs]; kernel_rfl
  simp [asAddr, Result.andThen, run_loadVar_row w g 26 26 cs (0, 0) _ hg Try.underlying26 rfl hi]
/-- The right parts of the first t rows, one behind the other. -/
def outs (n : Nat) (M : Nat → Nat → F) (t : Nat) : List Int := (List.range (t * n)).map fun k => ((M (k / n) (n + k % n)).val : Int)
theorem outs_len (n : Nat) (M : Nat → Nat → F) (t : Nat) : (outs n M t).length = t * n := by simp [outs]
theorem outs_succ (n : Nat) (M : Nat → Nat → F) (t : Nat) (hn : 0 < n) : nums .i64 (outs n M (t + 1)) = nums .i64 (outs n M t) ++ (List.range n).map fun j => Value.int .i64 ((M t (n + j)).val : Int) := by
  unfold outs nums
  rw [Nat.succ_mul, List.range_add, List.map_append, List.map_append, List.map_map, List.map_map, List.map_map]
  congr 1
  refine List.map_congr_left fun j hj => ?_
  have hj' := List.mem_range.1 hj
  have e1 : (t * n + j) / n = t := by rw [Nat.add_comm, Nat.add_mul_div_right _ _ hn, Nat.div_eq_of_lt hj', Nat.zero_add]
  have e2 : (t * n + j) % n = j := by rw [Nat.add_comm, Nat.add_mul_mod_self_right, Nat.mod_eq_of_lt hj']
  simp [e1, e2]
theorem grown_heap {W W1 : World} {b n : Nat} {v : Value} {xs : List Value} {o : Obj} (h : W.ownsRow (b + 1) 3 1 v n xs) (hg : W.drew.grownBy W1 v.ownBlock) (k : W.heap[b]? = some o) : W1.heap[b]? = some o := by
  rw [hg.block b (by simp; exact blk_lt k) (fun e => by have := own_base h b e.symm; omega)]
  exact k
theorem mrow_made (w : World) (n : Nat) (hn : n ≤ 16) : mrow (w.alloc (.cells (madeCells #[.int .i64 0] n) 3)) w.heap.size 3 n n (fun _ => .int .i64 0) := by
  refine ⟨_, heap_alloc_new w _, size_madeCells _ _, Nat.le_refl _, by simp [maxLen]; omega, fun i hi => ?_⟩
  simp [madeCells, hi, Nat.mod_one]
set_option maxHeartbeats 4000000 in
theorem inverse_valid (n c : Nat) (A : Option Addr) (l : List Int) (w : World) (h : Kd.C (Kd.int .i64) w A l.length l) (hc : l.length ≤ c) (hv : Valid n n l) :
    Calls Try.prog 26 #[.agg #[.int .i64 (n : Int), .int .i64 (n : Int), .slice A l.length c]] w (InvEnd n l w) := by
  have hlen := hv.len
  have hl : l.length ≤ 140737488355328 := by
    have := Nat.mul_le_mul hv.r1 hv.c1
    omega
  have chkC := fun (o o' : Obj) => Aside0.mk (matrix_Check_any (n : Int) (n : Int) A c l ((w.alloc o).alloc o') (Kd.C_below h (((Below.refl _ _).alloc (Nat.le_refl _) o).alloc (by simp) o')) hc hl)
  obtain ⟨ad, rfl, hcells⟩ := cells_C h (by rw [hlen]; exact Nat.mul_pos hv.r0 hv.c0) hv.els
  have hk := chk_valid hv
  have HV := Aside0.mk hv
  have c0 : (chk (n : Int) (n : Int) l != 0) = false := by rw [hk]; rfl
  have HK := Aside0.mk hk
  have HC := Aside0.mk hcells
  have HCC := Aside0.mk hc
  clear hk hcells h hc hlen hv hl
  go_enter Try.func26, Try.ntmps26
  go_upto_region 2 with (go_at_call 32; (with_reducible refine ((chkC _ _).out).mono ?_); rintro e w' ⟨rfl, hb⟩; have HB := Aside0.mk hb; clear hb)
  have hb := HB.out
  have box : ∀ j v, (#[Value.int .i64 (n : Int), .int .i64 (n : Int), .slice (some ad) l.length c] : Array Value)[j]? = some v → w'.cell? ⟨w.heap.size, j, none⟩ = some v := by
    intro j v hv
    rw [hb.cell (p := ⟨w.heap.size, j, none⟩) (by simp; omega), World.cell?_alloc_old _ _ _ (by simp)]
    simp [World.cell?_alloc_new, hv]
  have b0 := box 0 _ rfl
  have b1 := box 1 _ rfl
  have b2 := box 2 _ rfl
  have hout : w'.heap[w.heap.size + 1]? = some (.cells #[.int .i64 0, .int .i64 0, .slice none 0 0] 26 (0, 0)) := block_new hb (by simp)
  have HOUT := Aside0.mk hout
  have hsz : w.heap.size + 2 ≤ w'.heap.size := by have := hb.size; simpa using this
  have HSZ := Aside0.mk hsz
  have HC2 := Aside0.mk (show ∀ j, j < n * n → w'.cell? (ad.add j) = some (.int .i64 ((el l j).val : Int)) by
    intro j hj
    have hcj := HC.out j (by rw [HV.out.len]; exact hj)
    have hbl := World.block_lt_of_cell? _ _ hcj
    show w'.cell? (ad.add j) = _
    rw [hb.cell (p := ad.add j) (by simp; omega), World.cell?_alloc_old _ _ _ (by simp; omega), World.cell?_alloc_old _ _ _ (by omega), hcj])
  clear box hb hsz hout
  obtain ⟨i3, hi, hz0, hz1, hz2⟩ := info_parts info3'
  have HI := Aside0.mk (And.intro hi (And.intro hz0 (And.intro hz1 hz2)))
  clear hi hz0 hz1 hz2
  have hmk := fun w : World => run_make_row' (P := Try.prog) 24 3 (.int .i64 0) 8 Try.underlying24 info3' rfl .i64 .i64 n (by have := HV.out.c1; omega) (by have := HV.out.c1; omega) w
  go_upto_region 8 with (go_at_call 41; (with_reducible refine (rows_any ad n n c l.length (el l) w' HV.out.len HV.out.r0 HV.out.r1 HV.out.c0 HV.out.c1 (by have := HCC.out; have := HV.out.len; omega) HC2.out).mono ?_); rintro e w2 ⟨g, cap, hb0, cp0, rfl, hm, hbel⟩; have HM0 := Aside0.mk hm.toV; have HB0 := Aside0.mk hbel; clear hm hbel)
  obtain ⟨B0, hB0⟩ : ∃ B0, B0 = w'.heap.size := ⟨_, rfl⟩
  rw [← hB0] at HM0 HB0
  have HE0 := Aside0.mk hB0
  clear hB0 b0 b1 b2
  have hn16 : n ≤ 16 := HV.out.c1
  go_wp2
  go_loopg [30] n (fun gk v30 wr => ∃ (i : Nat) (Wd hb cp : Nat → Nat) (M : Nat → Nat → F), i ≤ n ∧ gk = n - i ∧ v30 = .int .i64 i ∧ Aside0 (MatV wr B0 g cap n Wd hb cp M) ∧ Aside0 (∀ t, t < n → Wd t = if t < i then n + n else n) ∧ Aside0 (∀ t, t < n → ∀ j, j < n → M t j = ent n l t j) ∧ Aside0 (∀ t, t < i → ∀ j, j < n → M t (n + j) = idm t j) ∧ Aside0 (Below B0 w' wr))
  case atStart =>
    go_light
    exact ⟨0, fun _ => n, hb0, cp0, _, Nat.zero_le _, rfl, rfl, HM0, ⟨fun t _ => by simp⟩, ⟨fun t _ j _ => rfl⟩, ⟨fun t ht => absurd ht (by omega)⟩, HB0⟩
  case round =>
    clear HM0 HB0
    obtain ⟨i, Wd, hb, cp, M, hin, rfl, rfl, HM, HW, HE, HID, HB1⟩ := hrel
    by_cases hi : i < n
    · have hi' : (i : Int) < (n : Int) := by omega
      have hw := HW.out i hi
      rw [if_neg (Nat.lt_irrefl _)] at hw
      have HWI := Aside0.mk hw
      clear hw
      go_upto_region 12 with fail
      obtain ⟨W1, hW1⟩ : ∃ W1, W1 = wr.alloc (.cells (madeCells #[.int .i64 0] n) 3) := ⟨_, rfl⟩
      rw [← hW1]
      have hr1 : mrow W1 wr.heap.size 3 n n (fun _ => .int .i64 0) := by
        rw [hW1]
        exact mrow_made wr n (by omega)
      have HR1 := Aside0.mk hr1
      have c1 := hr1.cell hi
      have f1 := hr1.frozen i
      have HW1 := Aside0.mk hW1
      clear hW1 hr1
      go_upto_region 13 with fail
      obtain ⟨W2, hW2⟩ : ∃ W2, W2 = W1.setCell ⟨wr.heap.size, i, none⟩ (.int .i64 1) := ⟨_, rfl⟩
      rw [← hW2]
      have hr2 : mrow W2 wr.heap.size 3 n n (fun j => .int .i64 ((idm i j).val : Int)) := by
        rw [hW2]
        refine (HR1.out.set i _).congr fun j hj => ?_
        by_cases e : j = i
        · subst e; rw [if_pos rfl, idm_self]; rfl
        · rw [if_neg e, idm_ne (Ne.symm e)]; rfl
      have hb2 : Below wr.heap.size wr W2 := by
        rw [hW2, HW1.out]
        exact ((Below.refl _ _).alloc (Nat.le_refl _) _).setCell (by simp) _
      have hs2 : W2.heap.size = wr.heap.size + 1 := by rw [hW2, HW1.out]; simp
      have hm2 : MatV W2 B0 g cap n Wd hb cp M := HM.out.of_same fun k _ hk => hb2.block k hk
      have HR2 := Aside0.mk (And.intro hr2 (And.intro hb2 (And.intro hs2 hm2)))
      have c2 := hm2.head hi
      rw [HWI.out] at c2
      have hown0 := (hm2.row i hi).to_owns (hm2.base_h i hi)
      rw [HWI.out] at hown0
      have HOWN := Aside0.mk hown0
      have HNW := Aside0.mk (elems_news (ad := ⟨wr.heap.size, 0, none⟩) (m := n) (f := idm i) (w := W2) (by
        intro j hj
        rw [Addr.add_lit, Nat.zero_add]
        exact hr2.cell hj))
      clear hW2 hr2 hb2 hs2 hm2 hown0 c1 f1
      go_upto_region 14 with (at_builtin; refine wpList_append_lies _ rfl (.tmp 43) (.tmp 44) 24 rfl B0 3 i3 (.int .i64 0) 1 8 Try.underlying24 HI.out.1 HI.out.2.1 HI.out.2.2.1 HI.out.2.2.2 rfl Nat.one_pos (.slice (some ⟨hb i, 0, none⟩) n (cp i)) n _ rfl HOWN.out ⟨wr.heap.size, 0, none⟩ n n ((List.range n).map fun j => Value.int .i64 ((idm i j).val : Int)) rfl (by simp) HNW.out (elems_one n _) (by omega) ?c3 ?c4 ?c5 _ rfl ?_)
      case c3 => simp [maxLen]; omega
      case c4 => omega
      case c5 => have h1 := HB1.out.size; have h2 := HR2.out.2.2.1; have h3 := HM.out.top.lt; have h4 := HM.out.base_g; omega
      intro g1 cap1 w1 hown hgr hat hlt
      have hat' : hb i = g1 ∨ W2.heap.size ≤ g1 := by
        rcases hat with h | h
        · exact .inl (by simpa [Value.ownBlock] using h)
        · exact .inr (by omega)
      have hgr' : W2.grownBy w1 (some (hb i)) := hgr
      have htop := HR2.out.2.2.2.top.grown hgr' (by intro e; injection e with e; exact HM.out.ne i hi e.symm)
      have c3 := htop.cell hi
      have f3 := htop.frozen i
      have hgrow := HR2.out.2.2.2.grow (m := n) (news := idm i) (g1 := g1) (cap1 := cap1) hi (by rw [HWI.out]; exact hown) hgr' hat'
      rw [HWI.out] at hgrow c3
      have HX := Aside0.mk (And.intro hgr' hgrow)
      clear hown hgr hat hlt hat' hgr' htop hgrow c2
      go_wp2
      go_roundg (n - (i + 1))
      case measure => go_light; omega
      case rel =>
        go_light
        refine ⟨i + 1, _, _, _, _, by omega, rfl, by go_num, ⟨HX.out.2⟩, ⟨fun t ht => ?_⟩, ⟨fun t ht j hj => ?_⟩, ⟨fun t ht j hj => ?_⟩, ⟨?_⟩⟩
        · by_cases e : t = i
          · subst e; simp
          · have := HW.out t ht
            by_cases lt : t < i
            · simp [e, this, lt, show t < i + 1 by omega]
            · simp [e, this, lt, show ¬ t < i + 1 by omega]
        · rw [if_neg (by omega)]
          exact HE.out t ht j hj
        · by_cases e : t = i
          · subst e; simp
          · rw [if_neg (by simp [e])]
            exact HID.out t (by omega) j hj
        · have h1 := HM.out.base_g
          have h2 := HM.out.base_h i hi
          have h3 := HM.out.top.lt
          have h4 := HR2.out.2.2.1
          refine ((HB1.out.trans (HR2.out.2.1.mono ?_)).grown HX.out.1 (by omega) (fun k hk => by injection hk with hk; omega)).setCell h1 _
          have h5 := HE0.out
          have h6 := HB1.out.size
          omega
    · have hge : ¬ (i : Int) < (n : Int) := by omega
      obtain rfl : i = n := by omega
      have hmat : Mat wr B0 g cap i (i + i) hb cp M := HM.out.toMat fun t ht => by rw [HW.out t ht, if_pos ht]
      have HMM := Aside0.mk hmat
      clear hmat HM
      have hreduce := fun w => fun hw => reduce_any B0 g cap i (i + i) i hb cp M w hw hn16 (by omega) (by omega)
      by_cases hrk : ∃ r, r < i ∧ IsRank i i (ent i l) r
      · have HRK := Aside0.mk hrk
        clear hrk
        go_upto_region 16 with (go_at_call 40; (with_reducible refine (hreduce _ HMM.out).mono ?_); rintro e w3 ⟨r, hb3, cp3, M3, rfl, hm3, hi3, hbel3⟩; have hr0 : r < i := (by obtain ⟨r', h1, h2⟩ := HRK.out; have h3 := (hi3.rank (by omega)).congr fun a ha b hb => (HE.out a ha b hb).symm; rw [h3.unique h2]; exact h1); have hr : (r : Int) < (i : Int) := (by omega); have HB3 := Aside0.mk hbel3; clear hm3 hi3 hbel3)
        have hw3 : w3.heap[w.heap.size + 1]? = some (.cells #[.int .i64 0, .int .i64 0, .slice none 0 0] 26 (0, 0)) := by
          have h1 := HE0.out
          have h2 := HSZ.out
          rw [HB3.out.block _ (by omega), HB1.out.block _ (by omega)]
          exact HOUT.out
        have k0 : w3.cell? ⟨w.heap.size + 1, 0, none⟩ = some (.int .i64 0) := by simp [World.cell?, hw3]
        have k1 : w3.cell? ⟨w.heap.size + 1, 1, none⟩ = some (.int .i64 0) := by simp [World.cell?, hw3]
        have k2 : w3.cell? ⟨w.heap.size + 1, 2, none⟩ = some (.slice none 0 0) := by simp [World.cell?, hw3]
        have z0 : ∀ i, w3.frozen? ⟨w.heap.size + 1, i, none⟩ = false := fun i => by simp [World.frozen?, hw3]
        have Z0 := z0 0
        have Z1 := z0 1
        have Z2 := z0 2
        have HW3 := Aside0.mk hw3
        clear z0 hw3
        go_wp2
        (try simp only [Exit.inBlock, Exit.then])
        refine bodyPost_ret (ret26 _ _ (w.heap.size + 1) #[.int .i64 0, .int .i64 0, .slice none 0 0] (.int .i64 14) rfl rfl (blk_put (blk_put (blk_put HW3.out 0 _ rfl) 1 _ rfl) 2 _ rfl) rfl) rfl ?_
        have h1 := HE0.out
        have h2 := HSZ.out
        have e1 : Below w.heap.size w w' := (((Below.refl _ _).alloc (Nat.le_refl _) _).alloc (by simp) _).trans (HB.out.mono (by simp; omega))
        have e2 : Below w.heap.size w wr := e1.trans (HB1.out.mono (by omega))
        have e3 : Below w.heap.size w w3 := e2.trans (HB3.out.mono (by omega))
        exact ⟨((e3.setCell (by simp) _).setCell (by simp) _).setCell (by simp) _, .inr ⟨HRK.out, rfl⟩⟩
      · have HRK := Aside0.mk hrk
        clear hrk
        go_upto_region 17 with (go_at_call 40; (with_reducible refine (hreduce _ HMM.out).mono ?_); rintro e w3 ⟨r, hb3, cp3, M3, rfl, hm3, hi3, hbel3⟩; have hr0 : r = i := (by have h3 := (hi3.rank (by omega)).congr fun a ha b hb => (HE.out a ha b hb).symm; have h4 := h3.le_rows; have h5 := HRK.out; by_cases h6 : r < i; exact absurd ⟨r, h6, h3⟩ h5; omega); subst hr0; have hr : ¬ (r : Int) < (r : Int) := (by omega); have HX3 := Aside0.mk (And.intro hm3 (And.intro hi3 hbel3)); clear hm3 hi3 hbel3)
        go_upto_region 18 with fail
        obtain ⟨w4, hw4⟩ : ∃ w4 : World, w4.heap[w3.heap.size]? = some (.cells #[.int .i64 (r : Int), .int .i64 (r : Int), .slice none 0 0] 26 (0, 0)) ∧ Below w3.heap.size w3 w4 ∧ w4.heap.size = w3.heap.size + 1 ∧ w4 = w3.alloc (.cells #[.int .i64 (r : Int), .int .i64 (r : Int), .slice none 0 0] 26) :=
          ⟨_, blk_new _ _, (Below.refl _ _).alloc (Nat.le_refl _) _, by simp, rfl⟩
        rw [← hw4.2.2.2]
        have H4 := Aside0.mk (And.intro hw4.1 (And.intro hw4.2.1 hw4.2.2.1))
        clear hw4
        obtain ⟨B1, hB1⟩ : ∃ B1, B1 = w3.heap.size := ⟨_, rfl⟩
        rw [← hB1] at H4
        try rw [← hB1]
        have HB1E := Aside0.mk hB1
        clear hB1
        go_wp2
        go_loopg [59] r (fun gk v59 wr => ∃ (t p : Nat) (A : Option Addr) (c2 : Nat), t ≤ r ∧ gk = r - t ∧ v59 = .int .i64 t ∧ Aside0 (p = t * r) ∧ Aside0 (wr.heap[B1]? = some (.cells #[.int .i64 (r : Int), .int .i64 (r : Int), .slice A p c2] 26 (0, 0))) ∧ Aside0 (wr.ownsRow (B1 + 1) 3 1 (.slice A p c2) p (nums .i64 (outs r M3 t))) ∧ Aside0 (Below B1 w3 wr))
        case atStart =>
          go_light
          exact ⟨0, 0, none, 0, Nat.zero_le _, rfl, rfl, ⟨by simp⟩, ⟨H4.out.1⟩, ⟨by simpa [outs, nums] using own_nil _ _ _ _⟩, ⟨H4.out.2.1⟩⟩
        case round =>
          clear H4
          obtain ⟨t, p, A, c2, htr, rfl, rfl, HP, HK5, HO5, HB5⟩ := hrel
          have hlt3 : ∀ i, i < r → hb3 i < B1 := fun i hi => by rw [HB1E.out]; exact (HX3.out.1.row i hi).lt
          have hm5 : Mat wr B0 g cap r (r + r) hb3 cp3 M3 := by
            refine HX3.out.1.of_same fun k _ hk => HB5.out.block k (by rw [HB1E.out]; exact hk)
          by_cases ht : t < r
          · have ht' : (t : Int) < (r : Int) := by omega
            have c3 := hm5.head ht
            go_upto_region 21 with fail
            have hrow := hm5.row t ht
            have hrc : r + r ≤ cp3 t := by
              obtain ⟨_, _, _, h3, _⟩ := hrow
              exact h3
            have hr0 : 0 < r := by omega
            have hne1 : ¬ cp3 t = r := by omega
            have hle1 : (r : Int) ≤ (r : Int) + (r : Int) := by omega
            have hle2 : r + r ≤ cp3 t := hrc
            have hsub : r + r - r = r := by omega
            have k2 : wr.drew.cell? ⟨B1, 2, none⟩ = some (.slice A p c2) := by
              show wr.cell? _ = _
              simp [World.cell?, HK5.out]
            have HNW := Aside0.mk (elems_news (ad := ⟨hb3 t, r, none⟩) (m := r) (f := fun j => M3 t (r + j)) (w := wr.drew) (by
              intro j hj
              rw [Addr.add_lit]
              exact hrow.cell (show r + j < r + r by omega)))
            have hp16 : p ≤ 256 := by rw [HP.out]; exact Nat.mul_le_mul (by omega : t ≤ 16) hn16
            clear hrow hrc c3
            have hB1 : B1 + 1 ≤ wr.heap.size := by
              have := blk_lt HK5.out
              omega
            have HBS := Aside0.mk hB1
            clear hB1
            go_region_law (refine step_append_lies _ rfl (.tmp 64) (.tmp 67) 24 rfl (B1 + 1) 3 i3 (.int .i64 0) 1 8 Try.underlying24 HI.out.1 HI.out.2.1 HI.out.2.2.1 HI.out.2.2.2 rfl Nat.one_pos (.slice A p c2) p (nums .i64 (outs r M3 t)) (by simp [Act.eval, Act.put]) HO5.out.drew ⟨hb3 t, r, none⟩ r (cp3 t - r) ((List.range r).map fun j => Value.int .i64 ((M3 t (r + j)).val : Int)) (by simp [Act.eval, Act.put, hne1, hsub]) (by simp) HNW.out (elems_one r _) hr0 (by simp [maxLen]; omega) (by omega) HBS.out _ rfl ?_; intro g1 cap1 w1 hown hgr hat hlt; have e5 := grown_heap HO5.out hgr HK5.out; have c5 : w1.cell? ⟨B1, 2, none⟩ = some (.slice A p c2) := (by simp [World.cell?, e5]); have f5 : w1.frozen? ⟨B1, 2, none⟩ = false := (by simp [World.frozen?, e5]); have HX := Aside0.mk (And.intro hown (And.intro hgr e5)); clear hown hgr hat hlt e5)
            go_wp2
            go_roundg (r - (t + 1))
            case measure => go_light; omega
            case rel =>
              go_light
              refine ⟨t + 1, p + r, some ⟨g1, 0, none⟩, cap1, by omega, rfl, by go_num, ⟨by rw [HP.out, Nat.succ_mul]⟩, ⟨?_⟩, ⟨?_⟩, ⟨?_⟩⟩
              · exact blk_put HX.out.2.2 2 _ rfl
              · rw [outs_succ r M3 t hr0]
                exact ownsRow_setCell_below HX.out.1 (by simp) _
              · have h1 := HBS.out
                exact ((HB5.out.drew).grown HX.out.2.1 (by simp; omega) (fun k hk => by have := own_base HO5.out k hk; omega)).setCell (by simp) _
          · have hge2 : ¬ (t : Int) < (r : Int) := by omega
            obtain rfl : t = r := by omega
            have q0 : wr.cell? ⟨B1, 0, none⟩ = some (.int .i64 (t : Int)) := by simp [World.cell?, HK5.out]
            have q1 : wr.cell? ⟨B1, 1, none⟩ = some (.int .i64 (t : Int)) := by simp [World.cell?, HK5.out]
            have q2 : wr.cell? ⟨B1, 2, none⟩ = some (.slice A p c2) := by simp [World.cell?, HK5.out]
            have hw5 : wr.heap[w.heap.size + 1]? = some (.cells #[.int .i64 0, .int .i64 0, .slice none 0 0] 26 (0, 0)) := by
              have h1 := HE0.out
              have h2 := HSZ.out
              have h3 := HX3.out.1.top.lt
              have h4 := HX3.out.1.base_g
              have h5 := HB1E.out
              have h6 := HX3.out.2.2.size
              rw [HB5.out.block _ (by omega), HX3.out.2.2.block _ (by omega), HB1.out.block _ (by omega)]
              exact HOUT.out
            have k0 : wr.cell? ⟨w.heap.size + 1, 0, none⟩ = some (.int .i64 0) := by simp [World.cell?, hw5]
            have k1 : wr.cell? ⟨w.heap.size + 1, 1, none⟩ = some (.int .i64 0) := by simp [World.cell?, hw5]
            have k2 : wr.cell? ⟨w.heap.size + 1, 2, none⟩ = some (.slice none 0 0) := by simp [World.cell?, hw5]
            have z0 : ∀ i, wr.frozen? ⟨w.heap.size + 1, i, none⟩ = false := fun i => by simp [World.frozen?, hw5]
            have Z0 := z0 0
            have Z1 := z0 1
            have Z2 := z0 2
            have HW5 := Aside0.mk hw5
            clear z0 hw5
            go_wp2
            (try simp only [Exit.inBlock, Exit.then])
            refine bodyPost_ret (ret26 _ _ (w.heap.size + 1) #[.int .i64 (t : Int), .int .i64 (t : Int), .slice A p c2] (.int .i64 0) rfl rfl (blk_put (blk_put (blk_put HW5.out 0 _ rfl) 1 _ rfl) 2 _ rfl) rfl) rfl ?_
            have h1 := HE0.out
            have h2 := HSZ.out
            have h3 := HX3.out.1.top.lt
            have h4 := HX3.out.1.base_g
            have h5 := HB1E.out
            have e1 : Below w.heap.size w w' := (((Below.refl _ _).alloc (Nat.le_refl _) _).alloc (by simp) _).trans (HB.out.mono (by simp; omega))
            have e2 := e1.trans (HB1.out.mono (show w.heap.size ≤ B0 by omega))
            have e3 := e2.trans (HX3.out.2.2.mono (show w.heap.size ≤ B0 by omega))
            have e4 := e3.trans (HB5.out.mono (show w.heap.size ≤ B1 by omega))
            have hrank : IsRank t t (ent t l) t := (HX3.out.2.1.rank (by omega)).congr fun a ha b hb => (HE.out a ha b hb).symm
            have hvl : Valid t t (outs t M3 t) := cells_valid (fun a b => M3 a (t + b)) HV.out.r0 HV.out.r1 HV.out.c0 HV.out.c1
            have hinv := inverse_of rfl HX3.out.2.1.eq (fun a ha b hb => HID.out a ha b hb) (HX3.out.2.1.square (Nat.le_refl _))
            have hent : ∀ a, a < t → ∀ b, b < t → ent t (outs t M3 t) a b = M3 a (t + b) := fun a ha b hb => ent_cells (fun a b => M3 a (t + b)) ha hb
            refine ⟨((e4.setCell (by simp) _).setCell (by simp) _).setCell (by simp) _, .inl ⟨outs t M3 t, _, ⟨hvl, fun a ha b hb => ?_, fun a ha b hb => ?_⟩, hrank, ?_, rfl⟩⟩
            · rw [← hinv.1 a ha b hb]
              exact mm_congr (fun k hk => (HE.out a ha k hk).symm) fun k hk => hent k hk b hb
            · rw [← hinv.2 a ha b hb]
              exact mm_congr (fun k hk => hent a ha k hk) fun k hk => (HE.out k hk b hb).symm
            · have hp : (outs t M3 t).length = p := by rw [outs_len, HP.out]
              rw [hp]
              refine own_weaken (base := B1 + 1) ?_ (by omega)
              exact ownsRow_setCell_below (ownsRow_setCell_below (ownsRow_setCell_below HO5.out (by simp; omega) _) (by simp; omega) _) (by simp; omega) _
/-- What Inverse leaves at any matrix. -/
def InvAny (R C : Int) (l : List Int) (w : World) (e : Ending) (w' : World) : Prop :=
  (∃ n : Nat, R = n ∧ C = n ∧ Valid n n l ∧ InvEnd n l w e w') ∨ (Below w.heap.size w w' ∧ ∃ k : Int, ((chk R C l = 0 ∧ R ≠ C ∧ k = 2) ∨ (chk R C l ≠ 0 ∧ k = chk R C l)) ∧ e = .returned (.tuple #[.agg #[.int .i64 0, .int .i64 0, .slice none 0 0], .int .i64 k]))
set_option maxHeartbeats 2000000 in
theorem inverse_any (R C : Int) (A : Option Addr) (c : Nat) (l : List Int) (w : World) (h : Kd.C (Kd.int .i64) w A l.length l) (hc : l.length ≤ c) (hl : l.length ≤ 140737488355328) :
    Calls Try.prog 26 #[.agg #[.int .i64 R, .int .i64 C, .slice A l.length c]] w (InvAny R C l w) := by
  by_cases hx : chk R C l = 0 ∧ R = C
  · obtain ⟨hk, rfl⟩ := hx
    obtain ⟨n, n', e1, e2, hv⟩ := valid_chk hk
    obtain rfl : n = n' := by omega
    subst e1
    exact (inverse_valid n c A l w h hc hv).mono fun e w' hi => .inl ⟨n, rfl, rfl, hv, hi⟩
  · have HX := Aside0.mk hx
    clear hx
    have chkC := fun (o o' : Obj) => Aside0.mk (matrix_Check_any R C A c l ((w.alloc o).alloc o') (Kd.C_below h (((Below.refl _ _).alloc (Nat.le_refl _) o).alloc (by simp) o')) hc hl)
    clear h hc hl
    have fin : ∀ (w' : World) (k : Int), Below ((w.alloc (.cells #[.int .i64 R, .int .i64 C, .slice A l.length c] 26)).alloc (.cells #[.int .i64 0, .int .i64 0, .slice none 0 0] 26)).heap.size ((w.alloc (.cells #[.int .i64 R, .int .i64 C, .slice A l.length c] 26)).alloc (.cells #[.int .i64 0, .int .i64 0, .slice none 0 0] 26)) w' → w'.heap[w.heap.size + 1]? = some (.cells #[.int .i64 0, .int .i64 0, .slice none 0 0] 26 (0, 0)) ∧ Below w.heap.size w w' := by
      intro w' k hb
      exact ⟨block_new hb (by simp), (((Below.refl _ _).alloc (Nat.le_refl _) _).alloc (by simp) _).trans (hb.mono (by simp; omega))⟩
    have FIN := Aside0.mk fin
    clear fin
    go_enter Try.func26, Try.ntmps26
    go_upto_region 2 with (go_at_call 32; (with_reducible refine ((chkC _ _).out).mono ?_); rintro e w' ⟨rfl, hb⟩; have HB := Aside0.mk hb; clear hb)
    have HF := Aside0.mk (FIN.out w' 0 HB.out)
    have b0 : w'.cell? ⟨w.heap.size, 0, none⟩ = some (.int .i64 R) := by
      rw [HB.out.cell (p := ⟨w.heap.size, 0, none⟩) (by simp; omega), World.cell?_alloc_old _ _ _ (by simp)]
      simp [World.cell?_alloc_new]
    have b1 : w'.cell? ⟨w.heap.size, 1, none⟩ = some (.int .i64 C) := by
      rw [HB.out.cell (p := ⟨w.heap.size, 1, none⟩) (by simp; omega), World.cell?_alloc_old _ _ _ (by simp)]
      simp [World.cell?_alloc_new]
    have k0 : w'.cell? ⟨w.heap.size + 1, 0, none⟩ = some (.int .i64 0) := by simp [World.cell?, HF.out.1]
    have k1 : w'.cell? ⟨w.heap.size + 1, 1, none⟩ = some (.int .i64 0) := by simp [World.cell?, HF.out.1]
    have k2 : w'.cell? ⟨w.heap.size + 1, 2, none⟩ = some (.slice none 0 0) := by simp [World.cell?, HF.out.1]
    have z0 : ∀ i, w'.frozen? ⟨w.heap.size + 1, i, none⟩ = false := fun i => by simp [World.frozen?, HF.out.1]
    have Z0 := z0 0
    have Z1 := z0 1
    have Z2 := z0 2
    clear z0 HB FIN chkC
    by_cases hk : chk R C l = 0
    · have c0 : (chk R C l != 0) = false := by rw [hk]; rfl
      have hne : R ≠ C := fun e => HX.out ⟨hk, e⟩
      have c1 : (R != C) = true := by rw [bne_iff_ne]; exact hne
      have HK := Aside0.mk (And.intro hk hne)
      clear hk hne
      go_wp2
      (try simp only [Exit.inBlock, Exit.then])
      refine bodyPost_ret (ret26 _ _ (w.heap.size + 1) #[.int .i64 0, .int .i64 0, .slice none 0 0] (.int .i64 2) rfl rfl (blk_put (blk_put (blk_put HF.out.1 0 _ rfl) 1 _ rfl) 2 _ rfl) rfl) rfl ?_
      exact .inr ⟨((HF.out.2.setCell (by simp) _).setCell (by simp) _).setCell (by simp) _, 2, .inl ⟨HK.out.1, HK.out.2, rfl⟩, rfl⟩
    · have c0 : (chk R C l != 0) = true := by rw [bne_iff_ne]; exact hk
      have HK := Aside0.mk hk
      clear hk
      go_wp2
      (try simp only [Exit.inBlock, Exit.then])
      refine bodyPost_ret (ret26 _ _ (w.heap.size + 1) #[.int .i64 0, .int .i64 0, .slice none 0 0] (.int .i64 (chk R C l)) rfl rfl (blk_put (blk_put (blk_put HF.out.1 0 _ rfl) 1 _ rfl) 2 _ rfl) rfl) rfl ?_
      exact .inr ⟨((HF.out.2.setCell (by simp) _).setCell (by simp) _).setCell (by simp) _, _, .inr ⟨HK.out, rfl⟩, rfl⟩
open Classical in
/-- The inverse of a matrix that has one. -/
noncomputable def invOf (n : Nat) (l : List Int) : List Int := if h : ∃ l', IsInv n l l' then Classical.choose h else []
theorem invOf_spec {n : Nat} {l l' : List Int} (h : IsInv n l l') : IsInv n l (invOf n l) := by
  unfold invOf
  rw [dif_pos ⟨l', h⟩]
  exact Classical.choose_spec (⟨l', h⟩ : ∃ l', IsInv n l l')
theorem IsInv.unique {n : Nat} {l l' l'' : List Int} (h : IsInv n l l') (k : IsInv n l l'') : l' = l'' := valid_ext h.1 k.1 (inverse_unique h.2.2 k.2.1)
theorem invOf_eq {n : Nat} {l l' : List Int} (h : IsInv n l l') : invOf n l = l' := (invOf_spec h).unique h
end Go.Proofs.Ytbdbfnkjbbbmdaa.MatMatrixDoes
namespace Go.Proofs.Ytbdbfnkjbbbmdaa.PMatrixDoes
open Go.RowKit Go.Proofs.YtbdbfnkjbbbmdaaW.PrintWords Go.Proofs.YtbdbfnkjbbbmdaaW.PrintLast Go.Proofs.Ytbdbfnkjbbbmdaa.MatData Go.Proofs.Ytbdbfnkjbbbmdaa.MatMatrixDoes
/-- What Inverse answers, at any matrix. -/
noncomputable def matrix_Inverse.f (_k : Nat) (a0_0 : Int) (a0_1 : Int) (l0_2 : List Int) : Option (Int × Int × List Int × Int) :=
  if l0_2.length ≤ 140737488355328 then (if chk a0_0 a0_1 l0_2 = 0 then (if a0_0 = a0_1 then (if rankOf a0_0.toNat a0_0.toNat l0_2 = a0_0.toNat then some (a0_0, a0_0, invOf a0_0.toNat l0_2, 0) else some (0, 0, [], 14)) else some (0, 0, [], 2)) else some (0, 0, [], chk a0_0 a0_1 l0_2)) else none
theorem matrix_Inverse.mono : ∀ a0 a1 a2 k, LeO (matrix_Inverse.f k a0 a1 a2) (matrix_Inverse.f (k + 1) a0 a1 a2) := fun _ _ _ _ => LeO.refl _
theorem matrix_Inverse.calls (k : Nat) (a0_0 : Int) (a0_1 : Int) (A0_2 : Option Addr) (c0_2 : Nat) (l0_2 : List Int) (r1 : Int) (r2 : Int) (r3 : List Int) (r4 : Int) (w : World) (hr0_2 : Kd.C (Kd.int .i64) w A0_2 l0_2.length l0_2) (hc0_2 : l0_2.length ≤ c0_2) (h : matrix_Inverse.f k a0_0 a0_1 l0_2 = some (r1, r2, r3, r4)) :
    Calls Try.prog 26 #[.agg #[.int .i64 a0_0, .int .i64 a0_1, .slice A0_2 l0_2.length c0_2]] w fun e w' => ∃ v2_, e = .returned (.tuple #[.agg #[.int .i64 r1, .int .i64 r2, v2_], .int .i64 r4]) ∧ Kd.R (Kd.int .i64) 3 w' w.heap.size (fun _ => True) v2_ r3 ∧ Below w.heap.size w w' := by
  unfold matrix_Inverse.f at h
  by_cases hl : l0_2.length ≤ 140737488355328
  · rw [if_pos hl] at h
    refine (inverse_any a0_0 a0_1 A0_2 c0_2 l0_2 w hr0_2 hc0_2 hl).mono ?_
    rintro e w' (⟨n, rfl, rfl, hv, hb, hx⟩ | ⟨hb, k', hx, rfl⟩)
    · rw [if_pos (chk_valid hv), if_pos rfl] at h
      simp only [Int.toNat_natCast] at h
      rcases hx with ⟨l', v2, hi, hr, hown, rfl⟩ | ⟨⟨r, hr1, hr2⟩, rfl⟩
      · rw [if_pos (rankOf_eq hr), invOf_eq hi] at h
        simp only [Option.some.injEq, Prod.mk.injEq] at h
        obtain ⟨rfl, rfl, rfl, rfl⟩ := h
        exact ⟨v2, rfl, R_of_own hown, hb⟩
      · rw [if_neg (by rw [rankOf_eq hr2]; omega)] at h
        simp only [Option.some.injEq, Prod.mk.injEq] at h
        obtain ⟨rfl, rfl, rfl, rfl⟩ := h
        exact ⟨_, rfl, R_of_own (own_nil _ _ _ _), hb⟩
    · have he : some (0, 0, ([] : List Int), k') = some (r1, r2, r3, r4) := by
        rcases hx with ⟨h1, h2, rfl⟩ | ⟨h1, rfl⟩
        · rw [if_pos h1, if_neg h2] at h
          exact h
        · rw [if_neg h1] at h
          exact h
      simp only [Option.some.injEq, Prod.mk.injEq] at he
      obtain ⟨rfl, rfl, rfl, rfl⟩ := he
      exact ⟨_, rfl, R_of_own (own_nil _ _ _ _), hb⟩
  · rw [if_neg hl] at h
    cases h
end Go.Proofs.Ytbdbfnkjbbbmdaa.PMatrixDoes
