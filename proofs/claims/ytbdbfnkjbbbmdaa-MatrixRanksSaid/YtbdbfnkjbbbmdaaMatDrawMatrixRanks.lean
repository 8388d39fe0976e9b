/- Draws from a deck and law06.pick, in plain Lean: what they give lies in its bounds; the numbers picked differ. -/
import Derived.Test.YtbdbfnkjbbbmdaaMatPickMatrixRanks
namespace Go.Proofs.Ytbdbfnkjbbbmdaa.MatMatrixRanks
set_option linter.unusedSimpArgs false
set_option linter.unusedVariables false
open Go.RowKit Go.Proofs.Ytbdbfnkjbbbmdaa.PMatrixRanks Go.Proofs.YtbdbfnkjbbbmdaaW.PrintWords Go.Proofs.YtbdbfnkjbbbmdaaW.PrintLast
theorem pickLoop_ok {s : List Int} (hs : s.length ≤ 500) : ∀ (n : Nat) (p : Int) (rest out : List Int), 0 ≤ p → n ≤ rest.length → rest.length ≤ 64 → ∃ out' p' rest', pickLoop n s p rest out = some (out', p') ∧ 0 ≤ p' ∧ out'.length = out.length + n ∧ (out' ++ rest').Perm (out ++ rest) := by
  intro n
  induction n with
  | zero => intro p rest out hp _ _; exact ⟨out, p, rest, rfl, hp, rfl, List.Perm.refl _⟩
  | succ n ih =>
    intro p rest out hp hn hr
    obtain ⟨t, p', ht, h0, h1, hp'⟩ := next_ok (a := (rest.length : Int)) hs hp (by omega) (by omega)
    have hj : t.toNat < rest.length := by omega
    obtain ⟨out', p2, rest', h2, h3, h4, h5⟩ := ih p' (rest.eraseIdx t.toNat) (out ++ [rd rest t]) hp' (by rw [List.length_eraseIdx_of_lt hj]; omega) (by rw [List.length_eraseIdx_of_lt hj]; omega)
    refine ⟨out', p2, rest', ?_, h3, by rw [h4, List.length_append]; simp; omega, h5.trans ?_⟩
    · simp only [pickLoop, ht, Option.bind_some]
      exact h2
    · have e : rd rest t = rest[t.toNat] := by
        show rest.getD t.toNat 0 = _
        rw [List.getD_eq_getElem?_getD, List.getElem?_eq_getElem hj]
        rfl
      rw [List.eraseIdx_eq_take_drop_succ, e, List.append_assoc]
      refine List.Perm.append_left out ?_
      have e2 : rest = rest.take t.toNat ++ rest[t.toNat] :: rest.drop (t.toNat + 1) := by
        rw [← List.drop_eq_getElem_cons hj, List.take_append_drop]
      have e3 : ([rest[t.toNat]] ++ (rest.take t.toNat ++ rest.drop (t.toNat + 1))).Perm (rest.take t.toNat ++ rest[t.toNat] :: rest.drop (t.toNat + 1)) := by
        show (rest[t.toNat] :: (rest.take t.toNat ++ rest.drop (t.toNat + 1))).Perm _
        exact List.perm_middle.symm
      exact e3.trans (by rw [← e2])
theorem pick_ok {s : List Int} {p : Int} {L n : Nat} (hs : s.length ≤ 500) (hp : 0 ≤ p) (hL : L ≤ 64) (hn : n ≤ L) : ∃ (σ : Nat → Nat) (p' : Int), storagebarterlaw06_pick.f s p (L : Int) (n : Int) = some ((List.range n).map (fun i => ((σ i : Nat) : Int)), p') ∧ 0 ≤ p' ∧ (∀ i, i < n → σ i < L) ∧ (∀ i, i < n → ∀ j, j < n → i ≠ j → σ i ≠ σ j) := by
  have hl : (upTo L).length = L := by simp [upTo]
  obtain ⟨out', p', rest', h1, h2, h3, h4⟩ := pickLoop_ok hs n p (upTo L) [] hp (by omega) (by omega)
  simp only [List.length_nil, Nat.zero_add, List.nil_append] at h3 h4
  have hmem : ∀ x ∈ out', ∃ t : Nat, t < L ∧ x = (t : Int) := by
    intro x hx
    have : x ∈ upTo L := h4.mem_iff.1 (List.mem_append_left _ hx)
    obtain ⟨t, ht, rfl⟩ := List.mem_map.1 this
    exact ⟨t, List.mem_range.1 ht, rfl⟩
  have hnd : (upTo L).Nodup := by
    unfold upTo
    unfold List.Nodup
    rw [List.pairwise_map]
    exact List.nodup_range.imp fun h e => h (by omega)
  have hnd2 : out'.Nodup := (List.nodup_append.1 ((h4.nodup_iff).2 hnd)).1
  have hget : ∀ i, i < n → out'[i]? = some (((out'.getD i 0).toNat : Nat) : Int) := by
    intro i hi
    have hi' : i < out'.length := by omega
    obtain ⟨t, _, ht⟩ := hmem _ (List.getElem_mem hi')
    rw [List.getD_eq_getElem?_getD, List.getElem?_eq_getElem hi']
    simp [ht]
  refine ⟨fun i => (out'.getD i 0).toNat, p', ?_, h2, fun i hi => ?_, fun i hi j hj e h => e ?_⟩
  · unfold storagebarterlaw06_pick.f
    rw [if_pos (by omega)]
    simp only [Int.toNat_natCast, h1, Option.some.injEq, Prod.mk.injEq, and_true]
    refine List.ext_getElem? fun i => ?_
    by_cases hi : i < n
    · rw [hget i hi]
      simp [hi]
    · rw [List.getElem?_eq_none (by omega), List.getElem?_eq_none (by simp; omega)]
  · have hi' : i < out'.length := by omega
    obtain ⟨t, ht, e⟩ := hmem _ (List.getElem_mem hi')
    have := hget i hi
    rw [List.getElem?_eq_getElem hi', e] at this
    injection this with this
    show (out'.getD i 0).toNat < L
    omega
  · have a := hget i hi
    have b := hget j hj
    have h' : (out'.getD i 0).toNat = (out'.getD j 0).toNat := h
    rw [h', ← b] at a
    exact (List.getElem?_inj (i := i) (j := j) (by omega) hnd2).1 a
end Go.Proofs.Ytbdbfnkjbbbmdaa.MatMatrixRanks
