/- The walk of matrix.rows at a valid matrix of elements: the rows, each in memory of its own. -/
import Derived.Test.YtbdbfnkjbbbmdaaMatCloneMatrixDoes
namespace Go.Proofs.Ytbdbfnkjbbbmdaa.MatMatrixDoes
set_option linter.unusedSimpArgs false
set_option linter.unusedVariables false
open Go.RowKit Go.Proofs.Ytbdbfnkjbbbmdaa.PMatrixDoes Go.Proofs.YtbdbfnkjbbbmdaaW.PrintWords Go.Proofs.YtbdbfnkjbbbmdaaW.PrintLast Go.Proofs.Ytbdbfnkjbbbmdaa.Gf Go.Proofs.Ytbdbfnkjbbbmdaa.Lin Go.Proofs.Ytbdbfnkjbbbmdaa.MatMem
/-- i rows are made, the heads of which are v's. -/
structure Part (w : World) (base : Nat) (v : Value) (i W : Nat) (hb cp : Nat → Nat) (M : Nat → Nat → F) : Prop where
  own : w.ownsRow base 24 1 v i ((List.range i).map fun t => Value.slice (some ⟨hb t, 0, none⟩) W (cp t))
  row : ∀ t, t < i → mrow w (hb t) 3 (cp t) W (fun j => .int .i64 ((M t j).val : Int))
  low : ∀ t, t < i → base ≤ hb t
  inj : ∀ s, s < i → ∀ t, t < i → hb s = hb t → s = t
theorem own_ne {w : World} {base n cap W b : Nat} {v : Value} {xs : List Value} {f : Nat → Value} (h : w.ownsRow base 24 1 v n xs) (k : mrow w b 3 cap W f) : some b ≠ v.ownBlock := by
  obtain ⟨c, hc, _⟩ := k
  rcases h.2 with ⟨rfl, _⟩ | ⟨g, cap', cur, rfl, r1, r2, _⟩
  · simp [Value.ownBlock]
  · intro e
    have : b = g := by simpa [Value.ownBlock] using e
    subst this
    rw [r2] at hc
    cases hc
theorem Part.mat {w : World} {base i W : Nat} {v : Value} {hb cp : Nat → Nat} {M : Nat → Nat → F} (h : Part w base v i W hb cp M) (hi : 0 < i) : ∃ g cap, v = .slice (some ⟨g, 0, none⟩) i cap ∧ Mat w base g cap i W hb cp M := by
  obtain ⟨own, row, low, inj⟩ := h
  have ne := fun t ht => own_ne own (row t ht)
  rcases own.2 with ⟨_, h0⟩ | ⟨g, cap, cur, rfl, r1, r2, r3, r4, r5, r6⟩
  · omega
  · refine ⟨g, cap, rfl, (mrow.of_owns own).2.congr fun j hj => by simp [hj, List.getD_eq_getElem?_getD], row, r1, low, fun t ht e => ?_, inj⟩
    exact ne t ht (by simp [Value.ownBlock, e])
theorem Part.below {w w1 : World} {base i W : Nat} {v : Value} {hb cp : Nat → Nat} {M : Nat → Nat → F} (h : Part w base v i W hb cp M) (hB : Below w.heap.size w w1) : Part w1 base v i W hb cp M :=
  ⟨pw_own_below h.own hB, fun t ht => (h.row t ht).below hB (h.row t ht).lt, h.low, h.inj⟩
/-- One row more, that was made behind all others. -/
theorem Part.snoc {w w2 : World} {base i W B g2 cap2 : Nat} {v v' : Value} {hb cp : Nat → Nat} {M : Nat → Nat → F} (h : Part w base v i W hb cp M) (hB : ∀ t, t < i → hb t < B) (hg2 : B ≤ g2) (hbase : base ≤ B) (hr : mrow w g2 3 cap2 W (fun j => .int .i64 ((M i j).val : Int)))
    (hown : w2.ownsRow base 24 1 v' (i + 1) (((List.range i).map fun t => Value.slice (some ⟨hb t, 0, none⟩) W (cp t)) ++ [.slice (some ⟨g2, 0, none⟩) W cap2])) (hg : w.grownBy w2 v.ownBlock) :
    Part w2 base v' (i + 1) W (fun t => if t = i then g2 else hb t) (fun t => if t = i then cap2 else cp t) M := by
  refine ⟨?_, fun t ht => ?_, fun t ht => ?_, fun s hs t ht e => ?_⟩
  · have : ((List.range (i + 1)).map fun t => Value.slice (some ⟨if t = i then g2 else hb t, 0, none⟩) W (if t = i then cap2 else cp t)) = ((List.range i).map fun t => Value.slice (some ⟨hb t, 0, none⟩) W (cp t)) ++ [.slice (some ⟨g2, 0, none⟩) W cap2] := by
      rw [List.range_succ, List.map_append]
      congr 1
      · refine List.map_congr_left fun t ht => ?_
        have := List.mem_range.1 ht
        rw [if_neg (by omega), if_neg (by omega)]
      · simp
    rw [this]
    exact hown
  · by_cases e : t = i
    · subst e
      simp only [if_true]
      exact hr.grown hg (own_ne h.own hr)
    · simp only [if_neg e]
      exact (h.row t (by omega)).grown hg (own_ne h.own (h.row t (by omega)))
  · by_cases e : t = i
    · simp only [if_pos e]; omega
    · simp only [if_neg e]; exact h.low t (by omega)
  · by_cases es : s = i
    · by_cases et : t = i
      · omega
      · rw [if_pos es, if_neg et] at e
        have := hB t (by omega)
        omega
    · by_cases et : t = i
      · rw [if_neg es, if_pos et] at e
        have := hB s (by omega)
        omega
      · rw [if_neg es, if_neg et] at e
        exact h.inj s (by omega) t (by omega) e
/-- What rows leaves. -/
def RowsEnd (R C : Nat) (f : Nat → F) (w : World) (e : Ending) (w' : World) : Prop :=
  ∃ g cap hb cp, e = .returned (.slice (some ⟨g, 0, none⟩) R cap) ∧ Mat w' w.heap.size g cap R C hb cp (fun i j => f (i * C + j)) ∧ Below w.heap.size w w'
set_option maxHeartbeats 1000000 in
theorem rows_any (ad : Addr) (R C c n : Nat) (f : Nat → F) (w : World) (hn : n = R * C) (hR : 0 < R) (hR2 : R ≤ 16) (hC : 0 < C) (hC2 : C ≤ 16) (hc1 : R * C ≤ c) (hc : ∀ j, j < R * C → w.cell? (ad.add j) = some (.int .i64 ((f j).val : Int))) :
    Calls Try.prog 41 #[.agg #[.int .i64 (R : Int), .int .i64 (C : Int), .slice (some ad) n c]] w (RowsEnd R C f w) := by
  subst hn
  have HC := Aside0.mk hc
  have HR := Aside0.mk (And.intro hR (And.intro hC hc1))
  clear hc hR hC hc1
  obtain ⟨i3, hi, hz0, hz1, hz2⟩ := info_parts info24'
  have HI := Aside0.mk (And.intro hi (And.intro hz0 (And.intro hz1 hz2)))
  clear hi hz0 hz1 hz2
  go_enter Try.func41, Try.ntmps41
  go_wp2
  obtain ⟨W1, hW1⟩ : ∃ W1, W1 = w.alloc (.cells #[.int .i64 (R : Int), .int .i64 (C : Int), .slice (some ad) (R * C) c] 26) := ⟨_, rfl⟩
  rw [← hW1]
  have HW1 := Aside0.mk hW1
  clear hW1
  go_loopg [3, 7] R (fun gk v3 v7 wr => ∃ (i : Nat) (hb cp : Nat → Nat), i ≤ R ∧ gk = R - i ∧ v7 = .int .i64 i ∧ Aside0 (Part wr (w.heap.size + 1) v3 i C hb cp (fun i j => f (i * C + j))) ∧ Aside0 (Below (w.heap.size + 1) W1 wr))
  case atStart =>
    go_light
    exact ⟨0, fun _ => 0, fun _ => 0, Nat.zero_le _, rfl, rfl, ⟨⟨own_nil _ _ _ _, fun t ht => absurd ht (by omega), fun t ht => absurd ht (by omega), fun t ht => absurd ht (by omega)⟩⟩, ⟨Below.refl _ _⟩⟩
  case round =>
    obtain ⟨i, hb, cp, hi, rfl, rfl, HP, HB⟩ := hrel
    by_cases hiR : i < R
    · have hiR' : (i : Int) < (R : Int) := by omega
      have box : ∀ j v, (#[Value.int .i64 (R : Int), .int .i64 (C : Int), .slice (some ad) (R * C) c] : Array Value)[j]? = some v → wr.cell? ⟨w.heap.size, j, none⟩ = some v := by
        intro j v hv
        rw [HB.out.cell (by simp), HW1.out]
        simp [World.cell?_alloc_new, hv]
      have b0 := box 0 _ rfl
      have b1 := box 1 _ rfl
      have b2 := box 2 _ rfl
      clear box
      have p0 : 0 ≤ (i : Int) * (C : Int) := by exact_mod_cast Nat.zero_le (i * C)
      have hle : i * C + C ≤ R * C := by
        have := Nat.mul_le_mul_right C (show i + 1 ≤ R by omega)
        rwa [Nat.add_mul, Nat.one_mul] at this
      have hb16 : R * C ≤ 256 := Nat.mul_le_mul hR2 hC2
      obtain ⟨p, hp⟩ : ∃ p, p = i * C := ⟨_, rfl⟩
      obtain ⟨q, hq⟩ : ∃ q, q = p + C := ⟨_, rfl⟩
      have HPQ := Aside0.mk (And.intro hp (And.intro hq (And.intro hle hb16)))
      have e1 : wrap64 ((i : Int) * (C : Int)) = (p : Int) := by
        have : (i : Int) * (C : Int) = (p : Int) := by rw [hp]; simp
        rw [this]; unfold wrap64; omega
      have e2 : wrap64 (((i : Int) + 1) * (C : Int)) = (q : Int) := by
        have : ((i : Int) + 1) * (C : Int) = (q : Int) := by rw [hq, hp, Int.add_mul, Int.one_mul]; simp
        rw [this]; unfold wrap64; omega
      obtain ⟨h1, h2, h3⟩ := HR.out
      have l1 : p ≤ q := by omega
      have l2 : q ≤ c := by omega
      have l3 : ¬ c = p := by omega
      have l4 : q - p = C := by omega
      clear hp hq hle hb16 p0 h1 h2 h3
      have HC' := Aside0.mk (show ∀ j, j < C → wr.cell? ((ad.add p).add j) = some (.int .i64 ((f (i * C + j)).val : Int)) by
        intro j hj
        obtain ⟨g1, g2, g3, g4⟩ := HPQ.out
        have hcj := HC.out (p + j) (by omega)
        have hlt := World.block_lt_of_cell? _ _ hcj
        rw [Addr.add_add, HB.out.cell (p := ad.add (p + j)) (by omega), HW1.out, World.cell?_alloc_old _ _ _ (by omega), hcj, g1])
      have hsz := HB.out.size
      rw [HW1.out] at hsz
      have HSZ := Aside0.mk hsz
      clear hsz
      go_wp2_with (first | (go_at_call 48; (with_reducible refine (clone_any (ad.add p) C (c - p) (fun j => f (i * C + j)) _ HR.out.2.1 (by omega) HC'.out).mono ?_); rintro e w' ⟨g2, cap2, rfl, hg2, hr2, hb2⟩; have HG2 := Aside0.mk (And.intro hg2 (And.intro hr2 hb2)); clear hg2 hr2 hb2) | (at_builtin; refine wpList_append_own _ rfl (.tmp 10) (.tmp 24) 51 rfl (w.heap.size + 1) 24 i3 (.slice none 0 0) 1 24 Try.underlying51 HI.out.1 HI.out.2.1 HI.out.2.2.1 HI.out.2.2.2 rfl Nat.one_pos u3 i ((List.range i).map fun t => Value.slice (some ⟨hb t, 0, none⟩) C (cp t)) rfl ?c0 ⟨w'.heap.size, 0, none⟩ 1 1 [.slice (some ⟨g2, 0, none⟩) C cap2] rfl rfl ?c1 ?c2 ?c3 ?c4 ?c5 ?_))
      case c0 => exact ((HP.out.below HG2.out.2.2).own).alloc _
      case c1 =>
        intro j u hu
        rw [Addr.add_lit]
        obtain ⟨rfl, rfl⟩ : j = 0 ∧ u = .slice (some ⟨g2, 0, none⟩) C cap2 := by
          rcases j with _ | j
          · exact ⟨rfl, by simpa using hu.symm⟩
          · simp at hu
        simp [World.cell?_alloc_new]
      case c2 =>
        intro u hu
        rw [List.mem_singleton.1 hu]
        rfl
      case c3 => simp [maxLen]; omega
      case c4 => omega
      case c5 =>
        have h1 := HSZ.out
        have h2 := HG2.out.2.2.size
        simp at h1 ⊢
        omega
      intro v' w2 hown hg hnil
      have HO := Aside0.mk (And.intro hown hg)
      clear hown hg hnil
      go_wp2
      go_roundg (R - (i + 1))
      case measure => go_light; omega
      case rel =>
        go_light
        obtain ⟨h1, h2, h3⟩ := HG2.out
        obtain ⟨h4, h5⟩ := HO.out
        have h6 := HSZ.out
        simp at h6
        refine ⟨i + 1, _, _, by omega, rfl, by go_num, ⟨((HP.out.below h3).below ((Below.refl _ _).alloc (Nat.le_refl _) _)).snoc (B := wr.heap.size) (fun t ht => (HP.out.row t ht).lt) h1 (by omega) (h2.alloc _) h4 h5⟩, ⟨(HB.out.trans ((h3.mono (by omega)).alloc (by have := h3.size; omega) _)).grown h5 ?_ ?_⟩⟩
        · have := h3.size
          simp; omega
        · intro k hk
          exact own_base (HP.out.own) k hk
    · have hiR' : ¬ (i : Int) < (R : Int) := by omega
      go_wp2
      go_ret
      go_light
      obtain rfl : i = R := by omega
      obtain ⟨g, cap, rfl, hm⟩ := HP.out.mat HR.out.1
      refine ⟨g, cap, hb, cp, rfl, hm.lower (Nat.le_succ _), Below.trans ?_ (HB.out.mono (Nat.le_succ _))⟩
      rw [HW1.out]
      exact (Below.refl _ _).alloc (Nat.le_refl _) _
end Go.Proofs.Ytbdbfnkjbbbmdaa.MatMatrixDoes
