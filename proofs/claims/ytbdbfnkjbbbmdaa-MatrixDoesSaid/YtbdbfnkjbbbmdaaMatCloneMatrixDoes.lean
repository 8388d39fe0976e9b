/- The walks of slices.Clone and matrix.rows at cells that hold elements. -/
import Derived.Test.YtbdbfnkjbbbmdaaMatReduceMatrixDoes
namespace Go.Proofs.Ytbdbfnkjbbbmdaa.MatMatrixDoes
set_option linter.unusedSimpArgs false
set_option linter.unusedVariables false
open Go.RowKit Go.Proofs.Ytbdbfnkjbbbmdaa.PMatrixDoes Go.Proofs.YtbdbfnkjbbbmdaaW.PrintWords Go.Proofs.YtbdbfnkjbbbmdaaW.PrintLast Go.Proofs.Ytbdbfnkjbbbmdaa.Gf Go.Proofs.Ytbdbfnkjbbbmdaa.Lin Go.Proofs.Ytbdbfnkjbbbmdaa.MatMem
theorem info3' : (Try.prog.info? 3).map (fun i => (i.zero, i.size, i.bytes)) = some (some (.int .i64 0), 1, 8) := by kernel_rfl
theorem info24' : (Try.prog.info? 24).map (fun i => (i.zero, i.size, i.bytes)) = some (some (.slice none 0 0), 1, 24) := by kernel_rfl
theorem run_nil24 (a : Addr) (n c : Nat) (w : World) : (binOp .eql 24 (.slice (some a) n c) (.slice none 0 0)).run Try.prog w = .ok (.bool false) w := by
  have h : Try.prog.underlying 24 = some (.slice 3) := Try.underlying24
  have e : ∀ d, (Op.equalIn (d + 1) 24 (.slice (some a) n c) (.slice none 0 0)).run Try.prog w = .ok false w := by
    intro d
    simp [Op.equalIn, run_underlying h]
  have e' : (Op.equal 24 (.slice (some a) n c) (.slice none 0 0)).run Try.prog w = .ok false w := e 9999
  simp only [binOp]
  simp [e']
/-- The cells of elements, as the laws on append take them. -/
theorem elems_news {w : World} {ad : Addr} {m : Nat} {f : Nat → F} (hc : ∀ j, j < m → w.cell? (ad.add j) = some (.int .i64 ((f j).val : Int))) :
    ∀ j u, ((List.range m).map fun j => Value.int .i64 ((f j).val : Int))[j]? = some u → w.cell? (ad.add j) = some u := by
  intro j u hu
  have hj : j < m := by have := (List.getElem?_eq_some_iff.1 hu).1; simpa using this
  rw [hc j hj]
  simp [hj] at hu
  rw [hu]
theorem elems_one (m : Nat) (f : Nat → F) : ∀ u ∈ (List.range m).map fun j => Value.int .i64 ((f j).val : Int), u.oneCell' = true := by
  intro u hu
  obtain ⟨j, _, rfl⟩ := List.mem_map.1 hu
  rfl
/-- A row of numbers of the call's own, as the printed contracts have it. -/
theorem R_of_own {w : World} {base : Nat} {v : Value} {l : List Int} (h : w.ownsRow base 3 1 v l.length (nums .i64 l)) : Kd.R (Kd.int .i64) 3 w base (fun _ => True) v l :=
  Kd.R_of_own (enc := Value.int .i64) (h1 := fun _ => rfl) h fun _ _ => trivial
/-- What Clone leaves. -/
def CloneEnd (m : Nat) (f : Nat → F) (w : World) (e : Ending) (w' : World) : Prop :=
  ∃ g cap, e = .returned (.slice (some ⟨g, 0, none⟩) m cap) ∧ w.heap.size ≤ g ∧ mrow w' g 3 cap m (fun j => .int .i64 ((f j).val : Int)) ∧ Below w.heap.size w w'
set_option maxHeartbeats 1000000 in
theorem clone_any (ad : Addr) (m c : Nat) (f : Nat → F) (w : World) (hm : 0 < m) (hm2 : m ≤ 1024) (hc : ∀ j, j < m → w.cell? (ad.add j) = some (.int .i64 ((f j).val : Int))) :
    Calls Try.prog 48 #[.slice (some ad) m c] w (CloneEnd m f w) := by
  have HC := Aside0.mk hc
  have HM := Aside0.mk hm
  have HM2 := Aside0.mk hm2
  have hn := fun w => run_nil24 ad m c w
  clear hc hm hm2
  obtain ⟨i3, hi, hz0, hz1, hz2⟩ := info_parts info3'
  have HI := Aside0.mk (And.intro hi (And.intro hz0 (And.intro hz1 hz2)))
  clear hi hz0 hz1 hz2
  go_enter Try.func48, Try.ntmps48
  go_wp2_with (at_builtin; refine wpList_append_own _ rfl (.tmp 5) (.tmp 6) 24 rfl w.heap.size 3 i3 (.int .i64 0) 1 8 Try.underlying24 HI.out.1 HI.out.2.1 HI.out.2.2.1 HI.out.2.2.2 rfl Nat.one_pos (.slice (some ⟨w.heap.size, 0, none⟩) 0 0) 0 [] rfl (World.ownsRow_made w #[] 0 (Nat.le_refl _) (Nat.zero_le _) rfl) ad m c ((List.range m).map fun j => Value.int .i64 ((f j).val : Int)) rfl (by simp) ?c1 (elems_one m f) ?c2 ?c3 ?c4 ?_)
  case c1 =>
    intro j u hu
    exact pw_cell_below ((Below.refl _ _).alloc (Nat.le_refl _) _) (elems_news HC.out j u hu)
  case c2 => have := HM2.out; simp [maxLen]; omega
  case c3 => have := HM2.out; omega
  case c4 => simp
  intro v' w' hown hg hnil
  have HO := Aside0.mk hown
  have HG := Aside0.mk hg
  clear hown hg hnil hn
  go_wp2
  go_ret
  go_light
  have hown := HO.out
  have hg := HG.out
  rcases hown.2 with ⟨rfl, h0⟩ | ⟨g, cap, cur, rfl, r1, r2, r3, r4, r5, r6⟩
  · have := HM.out; omega
  · simp only [Nat.zero_add] at hown ⊢
    obtain ⟨r7, r8⟩ := mrow.of_owns hown
    refine ⟨g, cap, rfl, r7, r8.congr fun j hj => by simp [hj, List.getD_eq_getElem?_getD], ((Below.refl _ _).alloc (Nat.le_refl _) _).grown hg (by simp) ?_⟩
    intro k hk
    simp [Value.ownBlock] at hk
    omega
end Go.Proofs.Ytbdbfnkjbbbmdaa.MatMatrixDoes
