/- A slice of slices of elements in memory: one block of rows, one block a row, all different; reads, stores, exchanges. -/
import Derived.Deep.OwnRows
import Derived.Below
import Derived.WalkKit
import Derived.Deep.Draws
import Derived.Test.YtbdbfnkjbbbmdaaLin
namespace Go.Proofs.Ytbdbfnkjbbbmdaa.MatMem
set_option linter.unusedVariables false
open Go.RowKit Go.Proofs.Ytbdbfnkjbbbmdaa.Gf Go.Proofs.Ytbdbfnkjbbbmdaa.Lin
/-- Block b holds cap cells of type t, none frozen, of which the first n are f's. -/
def mrow (w : World) (b : Nat) (t : TypeId) (cap n : Nat) (f : Nat → Value) : Prop :=
  ∃ c : Array Value, w.heap[b]? = some (.cells c t (0, 0)) ∧ c.size = cap ∧ n ≤ cap ∧ cap ≤ maxLen ∧ ∀ i, i < n → c[i]? = some (f i)
namespace mrow
variable {w : World} {b : Nat} {t : TypeId} {cap n : Nat} {f g : Nat → Value}
theorem cell (h : mrow w b t cap n f) {i : Nat} (hi : i < n) : w.cell? ⟨b, i, none⟩ = some (f i) := by
  obtain ⟨c, hb, _, _, _, hc⟩ := h
  simp [World.cell?, hb, hc i hi]
theorem frozen (h : mrow w b t cap n f) (i : Nat) : w.frozen? ⟨b, i, none⟩ = false := by
  obtain ⟨c, hb, _⟩ := h
  simp [World.frozen?, hb]
theorem lt (h : mrow w b t cap n f) : b < w.heap.size := by
  obtain ⟨c, hb, _⟩ := h
  exact (Array.getElem?_eq_some_iff.1 hb).1
theorem congr (h : mrow w b t cap n f) (e : ∀ i, i < n → f i = g i) : mrow w b t cap n g := by
  obtain ⟨c, hb, hs, hn, hm, hc⟩ := h
  exact ⟨c, hb, hs, hn, hm, fun i hi => by rw [hc i hi, e i hi]⟩
theorem of_block {w' : World} (h : mrow w b t cap n f) (e : w'.heap[b]? = w.heap[b]?) : mrow w' b t cap n f := by
  obtain ⟨c, hb, r⟩ := h
  exact ⟨c, e.trans hb, r⟩
theorem set (h : mrow w b t cap n f) (i : Nat) (v : Value) : mrow (w.setCell ⟨b, i, none⟩ v) b t cap n (fun j => if j = i then v else f j) := by
  obtain ⟨c, hb, hs, hn, hm, hc⟩ := h
  refine ⟨c.setIfInBounds i v, ?_, by simpa using hs, hn, hm, fun j hj => ?_⟩
  · simp [World.setCell, Array.getElem?_modify, hb]
  · rw [Array.getElem?_setIfInBounds]
    by_cases e : j = i
    · subst e
      have : j < c.size := by omega
      simp [this]
    · rw [if_neg (fun h => e h.symm)]
      show c[j]? = some (if j = i then v else f j)
      rw [if_neg e]
      exact hc j hj
theorem setOther (h : mrow w b t cap n f) {a : Addr} (ha : b ≠ a.block) (v : Value) : mrow (w.setCell a v) b t cap n f :=
  h.of_block (Below.heap_setCell w a v b ha)
theorem alloc (h : mrow w b t cap n f) (o : Obj) : mrow (w.alloc o) b t cap n f := h.of_block (Below.heap_alloc w o b h.lt)
theorem drewN (h : mrow w b t cap n f) (k : Nat) : mrow (w.drewN k) b t cap n f := h.of_block rfl
theorem below {B : Nat} {w' : World} (h : mrow w b t cap n f) (hb : Below B w w') (hlt : b < B) : mrow w' b t cap n f := h.of_block (hb.block b hlt)
theorem grown {w' : World} {row : Option Nat} (h : mrow w b t cap n f) (hg : w.grownBy w' row) (hne : some b ≠ row) : mrow w' b t cap n f := h.of_block (hg.block b h.lt hne)
/-- A row that the kit's laws on append and make own. -/
theorem of_owns {base g' : Nat} {xs : List Value} (h : w.ownsRow base t 1 (.slice (some ⟨g', 0, none⟩) n cap) n xs) : base ≤ g' ∧ mrow w g' t cap n (fun i => xs.getD i default) := by
  obtain ⟨hl, hr⟩ := h
  rcases hr with ⟨he, _⟩ | ⟨g, cap', cur, he, hg, hh, hn, hm, hs, ht⟩
  · cases he
  · injection he with h1 h2 h3
    injection h1 with h1
    injection h1 with h1
    subst h1 h3
    refine ⟨hg, cur, hh, by omega, hn, hm, fun i hi => ?_⟩
    have hx : xs[i]? = some (xs.getD i default) := by
      rw [List.getD_eq_getElem?_getD, List.getElem?_eq_getElem (by omega)]; rfl
    rw [← hx, ← ht, List.getElem?_take, if_pos (by omega)]
    simp
theorem to_owns (h : mrow w b t cap n f) {base : Nat} (hb : base ≤ b) : w.ownsRow base t 1 (.slice (some ⟨b, 0, none⟩) n cap) n ((List.range n).map f) := by
  obtain ⟨c, hh, hs, hn, hm, hc⟩ := h
  refine ⟨by simp, .inr ⟨b, cap, c, rfl, hb, hh, hn, hm, by omega, ?_⟩⟩
  refine List.ext_getElem? fun i => ?_
  rw [List.getElem?_take]
  by_cases hi : i < n
  · have := hc i hi
    simp [hi, this]
  · simp [hi]
end mrow
/-- The matrix M of n rows of W elements: the outer row lies at block g, its rows at the blocks hb. -/
structure Mat (w : World) (base g cap n W : Nat) (hb cp : Nat → Nat) (M : Nat → Nat → F) : Prop where
  top : mrow w g 24 cap n (fun i => .slice (some ⟨hb i, 0, none⟩) W (cp i))
  row : ∀ i, i < n → mrow w (hb i) 3 (cp i) W (fun j => .int .i64 ((M i j).val : Int))
  base_g : base ≤ g
  base_h : ∀ i, i < n → base ≤ hb i
  ne : ∀ i, i < n → hb i ≠ g
  inj : ∀ i, i < n → ∀ j, j < n → hb i = hb j → i = j
namespace Mat
variable {w : World} {base g cap n W : Nat} {hb cp : Nat → Nat} {M N : Nat → Nat → F}
theorem congr (h : Mat w base g cap n W hb cp M) (e : ∀ i, i < n → ∀ j, j < W → N i j = M i j) : Mat w base g cap n W hb cp N :=
  ⟨h.top, fun i hi => (h.row i hi).congr fun j hj => by rw [e i hi j hj], h.base_g, h.base_h, h.ne, h.inj⟩
theorem drewN (h : Mat w base g cap n W hb cp M) (k : Nat) : Mat (w.drewN k) base g cap n W hb cp M :=
  ⟨h.top.drewN k, fun i hi => (h.row i hi).drewN k, h.base_g, h.base_h, h.ne, h.inj⟩
theorem drew (h : Mat w base g cap n W hb cp M) : Mat w.drew base g cap n W hb cp M :=
  ⟨h.top.of_block rfl, fun i hi => (h.row i hi).of_block rfl, h.base_g, h.base_h, h.ne, h.inj⟩
theorem of_same {w' : World} (h : Mat w base g cap n W hb cp M) (e : ∀ k, base ≤ k → k < w.heap.size → w'.heap[k]? = w.heap[k]?) : Mat w' base g cap n W hb cp M :=
  ⟨h.top.of_block (e _ h.base_g h.top.lt), fun i hi => (h.row i hi).of_block (e _ (h.base_h i hi) (h.row i hi).lt), h.base_g, h.base_h, h.ne, h.inj⟩
theorem lower {base' : Nat} (h : Mat w base g cap n W hb cp M) (e : base' ≤ base) : Mat w base' g cap n W hb cp M :=
  ⟨h.top, h.row, Nat.le_trans e h.base_g, fun i hi => Nat.le_trans e (h.base_h i hi), h.ne, h.inj⟩
/-- The head of a row. -/
theorem head (h : Mat w base g cap n W hb cp M) {i : Nat} (hi : i < n) : w.cell? ⟨g, i, none⟩ = some (.slice (some ⟨hb i, 0, none⟩) W (cp i)) := h.top.cell hi
theorem elem (h : Mat w base g cap n W hb cp M) {i j : Nat} (hi : i < n) (hj : j < W) : w.cell? ⟨hb i, j, none⟩ = some (.int .i64 ((M i j).val : Int)) := (h.row i hi).cell hj
/-- One element is stored. -/
theorem store (h : Mat w base g cap n W hb cp M) {a b : Nat} (ha : a < n) (v : F) :
    Mat (w.setCell ⟨hb a, b, none⟩ (.int .i64 (v.val : Int))) base g cap n W hb cp (fun i j => if i = a ∧ j = b then v else M i j) := by
  refine ⟨h.top.setOther (Ne.symm (h.ne a ha)) _, fun i hi => ?_, h.base_g, h.base_h, h.ne, h.inj⟩
  by_cases e : i = a
  · subst e
    refine ((h.row i hi).set b _).congr fun j hj => ?_
    by_cases ej : j = b
    · subst ej; simp
    · simp [ej]
  · refine ((h.row i hi).setOther (fun k => e (h.inj i hi a ha k)) _).congr fun j hj => by simp [e]
/-- Two rows are exchanged: their heads are. -/
theorem swap (h : Mat w base g cap n W hb cp M) {p q : Nat} (hp : p < n) (hq : q < n) :
    Mat ((w.setCell ⟨g, p, none⟩ (.slice (some ⟨hb q, 0, none⟩) W (cp q))).setCell ⟨g, q, none⟩ (.slice (some ⟨hb p, 0, none⟩) W (cp p))) base g cap n W (fun i => hb (swp p q i)) (fun i => cp (swp p q i)) (fun i j => M (swp p q i) j) := by
  refine ⟨((h.top.set p _).set q _).congr fun i hi => ?_, fun i hi => ?_, h.base_g, fun i hi => h.base_h _ (swp_lt hp hq hi), fun i hi => h.ne _ (swp_lt hp hq hi), fun i hi j hj e => ?_⟩
  · unfold swp
    by_cases e1 : i = q
    · subst e1
      by_cases e2 : i = p
      · subst e2; simp
      · simp [e2]
    · by_cases e2 : i = p
      · subst e2; simp [e1]
      · simp [e1, e2]
  · have hs := swp_lt hp hq hi
    exact ((h.row _ hs).setOther (by exact h.ne _ hs) _).setOther (by exact h.ne _ hs) _
  · have := h.inj _ (swp_lt hp hq hi) _ (swp_lt hp hq hj) e
    rw [← swp_swp p q i, this, swp_swp]
end Mat
/-- Rows of different lengths. -/
structure MatV (w : World) (base g cap n : Nat) (Wd hb cp : Nat → Nat) (M : Nat → Nat → F) : Prop where
  top : mrow w g 24 cap n (fun i => .slice (some ⟨hb i, 0, none⟩) (Wd i) (cp i))
  row : ∀ i, i < n → mrow w (hb i) 3 (cp i) (Wd i) (fun j => .int .i64 ((M i j).val : Int))
  base_g : base ≤ g
  base_h : ∀ i, i < n → base ≤ hb i
  ne : ∀ i, i < n → hb i ≠ g
  inj : ∀ i, i < n → ∀ j, j < n → hb i = hb j → i = j
theorem Mat.toV {w : World} {base g cap n W : Nat} {hb cp : Nat → Nat} {M : Nat → Nat → F} (h : Mat w base g cap n W hb cp M) : MatV w base g cap n (fun _ => W) hb cp M := ⟨h.top, h.row, h.base_g, h.base_h, h.ne, h.inj⟩
namespace MatV
variable {w : World} {base g cap n : Nat} {Wd hb cp : Nat → Nat} {M : Nat → Nat → F}
theorem toMat {W : Nat} (h : MatV w base g cap n Wd hb cp M) (e : ∀ i, i < n → Wd i = W) : Mat w base g cap n W hb cp M :=
  ⟨h.top.congr fun i hi => by rw [e i hi], fun i hi => by have := h.row i hi; rwa [e i hi] at this, h.base_g, h.base_h, h.ne, h.inj⟩
theorem congr {Wd' : Nat → Nat} {N : Nat → Nat → F} (h : MatV w base g cap n Wd hb cp M) (e : ∀ i, i < n → Wd i = Wd' i) (k : ∀ i, i < n → ∀ j, j < Wd i → N i j = M i j) : MatV w base g cap n Wd' hb cp N :=
  ⟨h.top.congr fun i hi => by rw [e i hi], fun i hi => by
    have := (h.row i hi).congr (g := fun j => .int .i64 ((N i j).val : Int)) fun j hj => (by rw [k i hi j hj])
    rwa [e i hi] at this, h.base_g, h.base_h, h.ne, h.inj⟩
theorem of_same {w' : World} (h : MatV w base g cap n Wd hb cp M) (e : ∀ k, base ≤ k → k < w.heap.size → w'.heap[k]? = w.heap[k]?) : MatV w' base g cap n Wd hb cp M :=
  ⟨h.top.of_block (e _ h.base_g h.top.lt), fun i hi => (h.row i hi).of_block (e _ (h.base_h i hi) (h.row i hi).lt), h.base_g, h.base_h, h.ne, h.inj⟩
theorem head (h : MatV w base g cap n Wd hb cp M) {i : Nat} (hi : i < n) : w.cell? ⟨g, i, none⟩ = some (.slice (some ⟨hb i, 0, none⟩) (Wd i) (cp i)) := h.top.cell hi
/-- A row has grown by append, and its new head is stored. -/
theorem grow {w1 : World} {a m g1 cap1 : Nat} {news : Nat → F} (h : MatV w base g cap n Wd hb cp M) (ha : a < n)
    (hown : w1.ownsRow base 3 1 (.slice (some ⟨g1, 0, none⟩) (Wd a + m) cap1) (Wd a + m) (((List.range (Wd a)).map fun j => Value.int .i64 ((M a j).val : Int)) ++ ((List.range m).map fun j => Value.int .i64 ((news j).val : Int))))
    (hg : w.grownBy w1 (some (hb a))) (hat : hb a = g1 ∨ w.heap.size ≤ g1) :
    MatV (w1.setCell ⟨g, a, none⟩ (.slice (some ⟨g1, 0, none⟩) (Wd a + m) cap1)) base g cap n (fun i => if i = a then Wd a + m else Wd i) (fun i => if i = a then g1 else hb i) (fun i => if i = a then cap1 else cp i) (fun i j => if i = a ∧ Wd a ≤ j then news (j - Wd a) else M i j) := by
  have htop := h.top.grown hg (by intro e; injection e with e; exact h.ne a ha e.symm)
  have hg1 : g1 ≠ g := by
    rcases hat with rfl | hat
    · exact h.ne a ha
    · have := h.top.lt
      omega
  have hnew := mrow.of_owns hown
  refine ⟨(htop.set a _).congr fun i hi => ?_, fun i hi => ?_, h.base_g, fun i hi => ?_, fun i hi => ?_, fun i hi j hj e => ?_⟩
  · by_cases e : i = a
    · subst e; simp
    · simp [e]
  · by_cases e : i = a
    · subst e
      simp only [if_true, true_and]
      refine (hnew.2.setOther (by exact hg1) _).congr fun j hj => ?_
      by_cases hlt : j < Wd i
      · rw [if_neg (by omega)]
        simp [List.getD_eq_getElem?_getD, List.getElem?_append_left, hlt]
      · rw [if_pos (by omega)]
        rw [List.getD_eq_getElem?_getD, List.getElem?_append_right (by simp; omega)]
        simp [show j - Wd i < m by omega]
    · simp only [if_neg e]
      refine (((h.row i hi).grown hg (by intro k; injection k with k; exact e (h.inj i hi a ha k))).setOther (by exact h.ne i hi) _).congr fun j hj => by simp [e]
  · by_cases e : i = a
    · simp only [if_pos e]; exact hnew.1
    · simp only [if_neg e]; exact h.base_h i hi
  · by_cases e : i = a
    · simp only [if_pos e]; exact hg1
    · simp only [if_neg e]; exact h.ne i hi
  · have far : ∀ t, t < n → t ≠ a → hb t ≠ g1 := by
      intro t ht hta
      rcases hat with rfl | hat
      · intro k; exact hta (h.inj t ht a ha k)
      · have := (h.row t ht).lt
        omega
    by_cases ei : i = a
    · by_cases ej : j = a
      · omega
      · rw [if_pos ei, if_neg ej] at e
        exact absurd e.symm (far j hj ej)
    · by_cases ej : j = a
      · rw [if_neg ei, if_pos ej] at e
        exact absurd e (far i hi ei)
      · rw [if_neg ei, if_neg ej] at e
        exact h.inj i hi j hj e
end MatV
end Go.Proofs.Ytbdbfnkjbbbmdaa.MatMem
