/- The walk of ref06.Rank: the rank of a valid matrix, or the first error of any other. -/
import Derived.Test.YtbdbfnkjbbbmdaaRefReduceMatrixDoes
import Derived.Test.YtbdbfnkjbbbmdaaMatRankMatrixDoes
import Derived.Test.YtbdbfnkjbbbmdaaRefCheckMatrixDoes
import Derived.Deep.RegionHeld3
namespace Go.Proofs.Ytbdbfnkjbbbmdaa.MatMatrixDoes
set_option linter.unusedSimpArgs false
set_option linter.unusedVariables false
open Go.RowKit Go.Proofs.Ytbdbfnkjbbbmdaa.PMatrixDoes Go.Proofs.YtbdbfnkjbbbmdaaW.PrintWords Go.Proofs.YtbdbfnkjbbbmdaaW.PrintLast Go.Proofs.Ytbdbfnkjbbbmdaa.Gf Go.Proofs.Ytbdbfnkjbbbmdaa.Lin Go.Proofs.Ytbdbfnkjbbbmdaa.MatMem Go.Proofs.Ytbdbfnkjbbbmdaa.MatData
/-- Nothing beside a matrix: rows that are nil. -/
def NilSide (g2 n : Nat) (w : World) (A : Nat → Option Addr) (cp : Nat → Nat) (_ : Nat → Nat → F) : Prop := mrow w g2 24 n n (fun _ => .slice none 0 0) ∧ ∀ i, A i = none ∧ cp i = 0
theorem nil_side (g2 n : Nat) : Side (· = g2) g2 n 0 (NilSide g2 n) := by
  refine ⟨rfl, fun {w A cp U i} h hi => ?_, fun i h => h.1.frozen i, fun h hb hd => ⟨mrow.but h.1 hb (fun k => hd _ k rfl), h.2⟩, fun {w A cp U p q} h hp hq => ⟨?_, fun i => h.2 _⟩, fun {w A cp U i} y h hi => ?_, fun {w A cp U i r} y h hi hr hne => ?_⟩
  · rw [(h.2 i).1, (h.2 i).2]
    exact h.1.cell hi
  · rw [(h.2 p).1, (h.2 p).2, (h.2 q).1, (h.2 q).2]
    exact ((h.1.set p _).set q _).congr fun i hi => by simp
  · rw [(h.2 i).1, (h.2 i).2]
    refine (scale_nil y w).mono ?_
    rintro e w' ⟨rfl, hb⟩
    exact ⟨rfl, ⟨mrow.but h.1 hb (fun k => k), h.2⟩, hb.mono fun _ k => k.elim⟩
  · rw [(h.2 i).1, (h.2 i).2, (h.2 r).1, (h.2 r).2]
    refine (take_nil y w).mono ?_
    rintro e w' ⟨rfl, hb⟩
    exact ⟨rfl, ⟨mrow.but h.1 hb (fun k => k), h.2⟩, hb.mono fun _ k => k.elim⟩
def RankREnd (base n W : Nat) (M : Nat → Nat → F) (w : World) (e : Ending) (w' : World) : Prop :=
  ∃ r : Nat, e = .returned (.int .i64 (r : Int)) ∧ IsRank n W M r ∧ Below base w w'
theorem reduceR_nil (base g cap n W g2 : Nat) (hb cp : Nat → Nat) (M : Nat → Nat → F) (w : World) (hM : Mat w base g cap n W hb cp M) (h2 : mrow w g2 24 n n (fun _ => .slice none 0 0)) (hne : g ≠ g2) (hb2 : base ≤ g2) (hs : base ≤ w.heap.size) (hn0 : 0 < n) (hn : n ≤ 16) (hW : W ≤ 32) :
    Calls Try.prog 44 #[.slice (some ⟨g, 0, none⟩) n cap, .slice (some ⟨g2, 0, none⟩) n n] w (RankREnd base n W M w) := by
  have hd : ∀ i, i < n → hb i ≠ g2 := by
    intro i hi e
    obtain ⟨c, hc, _⟩ := hM.row i hi
    obtain ⟨c', hc', _⟩ := h2
    rw [e, hc'] at hc
    cases hc
  refine (reduceR_any (fun q => q ≠ g2 ∧ base ≤ q) (· = g2) base g cap n W g2 n 0 (NilSide g2 n) (nil_side g2 n) (fun k h1 h2 => h1.1 h2) ⟨hne, hM.base_g⟩ hb cp (fun _ => none) (fun _ => 0) M (fun _ _ => 0) w hM (fun i hi => ⟨hd i hi, hM.base_h i hi⟩) ⟨h2, fun _ => ⟨rfl, rfl⟩⟩ hn0 hn hW (Nat.le_refl _)).mono ?_
  rintro e w' ⟨r, k, hb', cp', A', cp2', M', U', rfl, hm, hs2, hi, hrn, hkW, hor, hbut⟩
  refine ⟨r, rfl, ?_, hbut.toBelow hs fun q hq => ?_⟩
  · have hj : ∀ i, i < n → ∀ j, j < W → M i j = joined W M (fun _ _ => 0) i j := fun i _ j hj => (if_pos hj).symm
    rcases hor with rfl | h
    · exact (hi.rank (by omega)).congr hj
    · exact (hi.rank_full (C := W) (by omega) hkW h).congr hj
  · rcases hq with h | h
    · exact h.2
    · rw [h]; exact hb2
theorem Mat.grew {w w1 : World} {base g cap n W : Nat} {hb cp : Nat → Nat} {M : Nat → Nat → F} (h : Mat w base g cap n W hb cp M) (hb1 : Below w.heap.size w w1) : Mat w1 base g cap n W hb cp M := h.of_same fun k _ hk => hb1.block k hk
theorem mrow_made24 (w : World) (n : Nat) (hn : n ≤ 16) : mrow (w.alloc (.cells (madeCells #[.slice none 0 0] n) 24)) w.heap.size 24 n n (fun _ => .slice none 0 0) := by
  refine ⟨_, heap_alloc_new w _, size_madeCells _ _, Nat.le_refl _, by simp [maxLen]; omega, fun i hi => ?_⟩
  simp [madeCells, hi, Nat.mod_one]
set_option maxHeartbeats 2000000 in
theorem rankR_any (R C : Int) (A : Option Addr) (c : Nat) (l : List Int) (w : World) (h : Kd.C (Kd.int .i64) w A l.length l) (hc : l.length ≤ c) (hl : l.length ≤ 140737488355328) :
    Calls Try.prog 30 #[.agg #[.int .i64 R, .int .i64 C, .slice A l.length c]] w (RankEnd R C l w) := by
  have H := Aside0.mk (And.intro h (And.intro hc hl))
  clear h hc hl
  have chkC := fun (o : Obj) => Aside0.mk (storagebarterref06_Check_any R C A c l (w.alloc o) (Kd.C_below H.out.1 ((Below.refl _ _).alloc (Nat.le_refl _) o)) H.out.2.1 H.out.2.2)
  by_cases hk : chk R C l = 0
  · obtain ⟨R, C, rfl, rfl, hv⟩ := valid_chk hk
    have HV := Aside0.mk hv
    have c0 : (chk (R : Int) (C : Int) l != 0) = false := by rw [hk]; rfl
    have hlen := hv.len
    have HK := Aside0.mk hk
    clear hk
    obtain ⟨ad, rfl, hcells⟩ := cells_C H.out.1 (by rw [hlen]; exact Nat.mul_pos hv.r0 hv.c0) hv.els
    have HC := Aside0.mk hcells
    clear hcells hv hlen
    go_enter Try.func30, Try.ntmps30
    go_wp2_with (go_at_call 33; (with_reducible refine ((chkC _).out).mono ?_); rintro e w' ⟨rfl, hb⟩; have HB := Aside0.mk hb; clear hb)
    have hb := HB.out
    have box : ∀ j v, (#[Value.int .i64 (R : Int), .int .i64 (C : Int), .slice (some ad) l.length c] : Array Value)[j]? = some v → w'.cell? ⟨w.heap.size, j, none⟩ = some v := by
      intro j v hv
      rw [hb.cell (p := ⟨w.heap.size, j, none⟩) (by simp)]
      simp [World.cell?_alloc_new, hv]
    have b0 := box 0 _ rfl
    have b1 := box 1 _ rfl
    have b2 := box 2 _ rfl
    have hlt : w.heap.size < w'.heap.size := by have := hb.size; simp at this; omega
    have HC2 := Aside0.mk (show ∀ j, j < R * C → w'.cell? (ad.add j) = some (.int .i64 ((el l j).val : Int)) by
      intro j hj
      have hcj := HC.out j (by rw [HV.out.len]; exact hj)
      have hbl := World.block_lt_of_cell? _ _ hcj
      rw [hb.cell (p := ad.add j) (by simp; omega), World.cell?_alloc_old _ _ _ (by omega), hcj])
    clear box hb
    have HLT := Aside0.mk hlt
    have rowsAt := Aside0.mk (fun (X : World) (hX : Below w'.heap.size w' X) => (rowsR_any ad R C c l.length (el l) X HV.out.len HV.out.r0 HV.out.r1 HV.out.c0 HV.out.c1 (by have := H.out.2.1; have := HV.out.len; omega) (fun j hj => by
      have hcj := HC2.out j hj
      rw [hX.cell (p := ad.add j) (World.block_lt_of_cell? _ _ hcj), hcj])).mono (R' := fun e w2 => ∃ g cap hb cp, e = .returned (.slice (some ⟨g, 0, none⟩) R cap) ∧ Mat w2 X.heap.size g cap R C hb cp (fun i j => el l (i * C + j)) ∧ Below X.heap.size X w2 ∧ Below w'.heap.size w' w2) (fun e w2 ⟨g, cap, hb, cp, he, hm, hbel⟩ => ⟨g, cap, hb, cp, he, hm, hbel, hX.trans (hbel.mono hX.size)⟩))
    clear hlt
    have hmk := fun w : World => run_make_row' (P := Try.prog) 51 24 (.slice none 0 0) 24 Try.underlying51 info24' rfl .i64 .i64 R (by have := HV.out.r1; omega) (by have := HV.out.r1; omega) w
    go_upto_region 4 with fail
    have redA := Aside0.mk (fun (w2 : World) (g cap : Nat) (hb2 cp2 : Nat → Nat) (hm : Mat w2 w'.heap.size g cap R C hb2 cp2 (fun i j => el l (i * C + j))) (hw : Below w'.heap.size w' w2) => reduceR_nil w'.heap.size g cap R C w2.heap.size hb2 cp2 _ _ (Mat.grew hm ((Below.refl _ _).alloc (Nat.le_refl _) _)) (mrow_made24 w2 R HV.out.r1) (Nat.ne_of_lt hm.top.lt) hw.size (Nat.le_trans hw.size (by simp)) HV.out.r0 HV.out.r1 (Nat.le_trans HV.out.c1 (by decide)))
    have redB := Aside0.mk (fun (w2 : World) (g cap : Nat) (hb2 cp2 : Nat → Nat) (hm : Mat w2 ((w'.alloc (.cells (madeCells #[.slice none 0 0] R) 24)).drew).heap.size g cap R C hb2 cp2 (fun i j => el l (i * C + j))) (hbel : Below ((w'.alloc (.cells (madeCells #[.slice none 0 0] R) 24)).drew).heap.size (w'.alloc (.cells (madeCells #[.slice none 0 0] R) 24)).drew w2) (hw : Below w'.heap.size w' w2) => reduceR_nil w'.heap.size g cap R C w'.heap.size hb2 cp2 _ _ (hm.lower (by simp)) (mrow.below ((mrow_made24 w' R HV.out.r1).of_block (w' := (w'.alloc (.cells (madeCells #[.slice none 0 0] R) 24)).drew) rfl) hbel (by simp)) (by have h := hm.base_g; simp at h; omega) (Nat.le_refl _) hw.size HV.out.r0 HV.out.r1 (Nat.le_trans HV.out.c1 (by decide)))
    go_region_held3 (fun X => X.cell? ⟨w.heap.size, 0, none⟩ = some (.int .i64 (R : Int)) ∧ X.cell? ⟨w.heap.size, 1, none⟩ = some (.int .i64 (C : Int)) ∧ X.cell? ⟨w.heap.size, 2, none⟩ = some (.slice (some ad) l.length c)) (first | exact ⟨f0, f1, f2⟩ | exact ⟨d0, d1, d2⟩ | go_keep) (first | (go_at_call 45; (with_reducible refine (rowsAt.out _ (by first | exact (Below.refl _ _).drew | exact ((Below.refl _ _).alloc (Nat.le_refl _) _).drew)).mono ?_); rintro e w2 ⟨g, cap, hb2, cp2, rfl, hm, hbel, hbw⟩; have d0 : w2.cell? ⟨w.heap.size, 0, none⟩ = some (.int .i64 (R : Int)) := (hbw.cell (p := ⟨w.heap.size, 0, none⟩) HLT.out).trans b0; have d1 : w2.cell? ⟨w.heap.size, 1, none⟩ = some (.int .i64 (C : Int)) := (hbw.cell (p := ⟨w.heap.size, 1, none⟩) HLT.out).trans b1; have d2 : w2.cell? ⟨w.heap.size, 2, none⟩ = some (.slice (some ad) l.length c) := (hbw.cell (p := ⟨w.heap.size, 2, none⟩) HLT.out).trans b2; have HM2 := Aside0.mk (And.intro hm (And.intro hbel hbw)); clear hm hbel hbw) | (go_at_call 44; (first | (refine (redA.out w2 g cap hb2 cp2 HM2.out.1 HM2.out.2.2).mono ?_) | (refine (redB.out w2 g cap hb2 cp2 HM2.out.1 HM2.out.2.1 HM2.out.2.2).mono ?_)); rintro e w3 ⟨r, rfl, hr, hbel3⟩; have hls : w.heap.size < w2.heap.size := Nat.lt_of_lt_of_le HLT.out HM2.out.2.2.size; have f0 := (hbel3.cell (p := ⟨w.heap.size, 0, none⟩) HLT.out).trans (by first | exact d0 | exact (World.cell?_alloc_old _ _ _ (Nat.ne_of_lt hls)).trans d0); have f1 := (hbel3.cell (p := ⟨w.heap.size, 1, none⟩) HLT.out).trans (by first | exact d1 | exact (World.cell?_alloc_old _ _ _ (Nat.ne_of_lt hls)).trans d1); have f2 := (hbel3.cell (p := ⟨w.heap.size, 2, none⟩) HLT.out).trans (by first | exact d2 | exact (World.cell?_alloc_old _ _ _ (Nat.ne_of_lt hls)).trans d2); clear hls; have HR := Aside0.mk (And.intro hr hbel3); clear hr hbel3))
    all_goals
      go_wp2
      go_ret2
      go_light
      have e1 : Below w.heap.size w w' := ((Below.refl _ _).alloc (Nat.le_refl _) _).trans (HB.out.mono (by simp))
      have e3 : Below w.heap.size w w2 := e1.trans (HM2.out.2.2.mono (Nat.le_of_lt HLT.out))
      have e4 : Below w.heap.size w (w2.alloc (.cells (madeCells #[.slice none 0 0] R) 24)) := e3.alloc (by have := e3.size; omega) _
      have e5 : Below w.heap.size w w3 := by first | exact e3.trans (HR.out.2.mono (Nat.le_of_lt HLT.out)) | exact e4.trans (HR.out.2.mono (Nat.le_of_lt HLT.out))
      exact ⟨by first | exact e5 | exact e5.drew, .inl ⟨R, C, r, rfl, rfl, HV.out, HR.out.1, rfl⟩⟩
  · have c0 : (chk R C l != 0) = true := by rw [bne_iff_ne]; exact hk
    have HK := Aside0.mk hk
    clear hk
    go_enter Try.func30, Try.ntmps30
    go_wp2_with (go_at_call 33; (with_reducible refine ((chkC _).out).mono ?_); rintro e w' ⟨rfl, hb⟩; have HB := Aside0.mk hb; clear hb)
    go_ret2
    go_light
    exact ⟨((Below.refl _ _).alloc (Nat.le_refl _) _).trans (HB.out.mono (by simp)), .inr ⟨HK.out, rfl⟩⟩
end Go.Proofs.Ytbdbfnkjbbbmdaa.MatMatrixDoes
