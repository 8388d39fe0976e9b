/- Lists told by the index; identities and Cauchy matrices as lists. In plain Lean. -/
import Derived.Test.YtbdbfnkjbbbmdaaMatData
namespace Go.Proofs.Ytbdbfnkjbbbmdaa.MatData
set_option linter.unusedSimpArgs false
set_option linter.unusedVariables false
open Go.RowKit Go.Proofs.YtbdbfnkjbbbmdaaW.PrintWords Go.Proofs.Ytbdbfnkjbbbmdaa.Gf Go.Proofs.Ytbdbfnkjbbbmdaa.Lin
/-- l has n numbers, number j being g j. -/
def Tab (l : List Int) (n : Nat) (g : Nat → Int) : Prop := l.length = n ∧ ∀ j, j < n → l.getD j 0 = g j
theorem Tab.nil (g : Nat → Int) : Tab [] 0 g := ⟨rfl, fun j hj => by omega⟩
theorem Tab.snoc {l : List Int} {n : Nat} {g : Nat → Int} (h : Tab l n g) {v : Int} (hv : v = g n) : Tab (l ++ [v]) (n + 1) g := by
  refine ⟨by rw [List.length_append, h.1]; rfl, fun j hj => ?_⟩
  rw [List.getD_eq_getElem?_getD]
  by_cases e : j < n
  · rw [List.getElem?_append_left (by rw [h.1]; exact e), ← List.getD_eq_getElem?_getD]
    exact h.2 j e
  · obtain rfl : j = n := by omega
    rw [List.getElem?_append_right (by rw [h.1]; exact Nat.le_refl _), h.1]
    simp [hv]
theorem Tab.congr {l : List Int} {n : Nat} {g g' : Nat → Int} (h : Tab l n g) (e : ∀ j, j < n → g' j = g j) : Tab l n g' := ⟨h.1, fun j hj => (h.2 j hj).trans (e j hj).symm⟩
theorem Tab.eq {l l' : List Int} {n : Nat} {g : Nat → Int} (h : Tab l n g) (k : Tab l' n g) : l = l' := by
  refine List.ext_getElem (h.1.trans k.1.symm) fun i h1 h2 => ?_
  have a := h.2 i (by rw [← h.1]; exact h1)
  have b := k.2 i (by rw [← h.1]; exact h1)
  rw [List.getD_eq_getElem?_getD, List.getElem?_eq_getElem h1] at a
  rw [List.getD_eq_getElem?_getD, List.getElem?_eq_getElem h2] at b
  simp at a b
  rw [a, b]
theorem Tab.make (n : Nat) (g : Nat → Int) : Tab ((List.range n).map g) n g := ⟨by simp, fun j hj => by simp [List.getD_eq_getElem?_getD, hj]⟩
/-- The list of a matrix. -/
def cells (R C : Nat) (M : Nat → Nat → F) : List Int := (List.range (R * C)).map fun t => ((M (t / C) (t % C)).val : Int)
theorem cells_tab (R C : Nat) (M : Nat → Nat → F) : Tab (cells R C M) (R * C) fun t => ((M (t / C) (t % C)).val : Int) := Tab.make _ _
theorem cells_valid {R C : Nat} (M : Nat → Nat → F) (r0 : 0 < R) (r1 : R ≤ 16) (c0 : 0 < C) (c1 : C ≤ 16) : Valid R C (cells R C M) := by
  refine ⟨r0, r1, c0, c1, (cells_tab R C M).1, List.all_eq_true.2 fun x hx => ?_⟩
  obtain ⟨t, _, rfl⟩ := List.mem_map.1 hx
  have := (M (t / C) (t % C)).isLt
  rw [decide_eq_true_eq]
  omega
theorem ent_cells {R C i j : Nat} (M : Nat → Nat → F) (hi : i < R) (hj : j < C) : ent C (cells R C M) i j = M i j := by
  unfold ent el
  rw [(cells_tab R C M).2 _ (index_lt hi hj)]
  have c0 : 0 < C := by omega
  rw [toF_val]
  have e1 : (i * C + j) / C = i := by rw [Nat.mul_comm, Nat.mul_add_div c0, Nat.div_eq_of_lt hj]; omega
  have e2 : (i * C + j) % C = j := by rw [Nat.mul_comm, Nat.mul_add_mod, Nat.mod_eq_of_lt hj]
  simp only [e1, e2]
/-- A valid matrix is the list of its elements. -/
theorem valid_cells {R C : Nat} {l : List Int} (h : Valid R C l) : l = cells R C (ent C l) := by
  refine Tab.eq ⟨h.len, fun j hj => ?_⟩ (cells_tab R C (ent C l))
  have e : ent C l (j / C) (j % C) = el l j := by
    unfold ent
    rw [Nat.mul_comm, Nat.div_add_mod]
  simp only [e]
  rw [el_val h.els (by rw [h.len]; exact hj)]
theorem cells_congr {R C : Nat} {M N : Nat → Nat → F} (h : ∀ i, i < R → ∀ j, j < C → M i j = N i j) : cells R C M = cells R C N := by
  unfold cells
  refine List.map_congr_left fun t ht => ?_
  have ht := List.mem_range.1 ht
  have c0 : 0 < C := by
    rcases Nat.eq_zero_or_pos C with h0 | h0
    · subst h0; simp at ht
    · exact h0
  rw [h _ (Nat.div_lt_of_lt_mul (by rwa [Nat.mul_comm]))  _ (Nat.mod_lt _ c0)]
/-- Two valid matrices of one size with the same elements are one list. -/
theorem valid_ext {R C : Nat} {l l' : List Int} (h : Valid R C l) (k : Valid R C l') (e : ∀ i, i < R → ∀ j, j < C → ent C l i j = ent C l' i j) : l = l' := by
  rw [valid_cells h, valid_cells k, cells_congr e]
/-- The elements of a Cauchy matrix. -/
def cau (r i k : Nat) : F := inv (add (toF (i : Int)) (toF ((r + k : Nat) : Int)))
theorem toF_ne {a b : Nat} (ha : a < 16) (hb : b < 16) (h : a ≠ b) : toF (a : Int) ≠ toF (b : Int) := by
  intro e
  have := congrArg (fun x : F => x.val) e
  simp [toF] at this
  omega
end Go.Proofs.Ytbdbfnkjbbbmdaa.MatData
