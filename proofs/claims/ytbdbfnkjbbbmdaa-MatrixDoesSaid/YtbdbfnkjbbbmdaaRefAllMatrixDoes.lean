/- The program's functions of matrices and the reference's answer alike, at any matrices: contracts in pairs. -/
import Derived.Test.YtbdbfnkjbbbmdaaRefProdMatrixDoes
import Derived.Test.YtbdbfnkjbbbmdaaRefInvMatrixDoes
import Derived.Test.YtbdbfnkjbbbmdaaRefSameMatrixDoes
namespace Go.Proofs.Ytbdbfnkjbbbmdaa.MatMatrixDoes
set_option linter.unusedSimpArgs false
set_option linter.unusedVariables false
open Go.RowKit Go.Proofs.Ytbdbfnkjbbbmdaa.PMatrixDoes Go.Proofs.YtbdbfnkjbbbmdaaW.PrintWords Go.Proofs.YtbdbfnkjbbbmdaaW.PrintLast Go.Proofs.Ytbdbfnkjbbbmdaa.Gf Go.Proofs.Ytbdbfnkjbbbmdaa.Lin Go.Proofs.Ytbdbfnkjbbbmdaa.MatMem Go.Proofs.Ytbdbfnkjbbbmdaa.MatData
/-- The cells of a matrix's slice in memory. -/
structure MV (w : World) (l : List Int) (A : Option Addr) (c : Nat) : Prop where
  cap : l.length ≤ c
  cells : Kd.C (Kd.int .i64) w A l.length l
theorem MV.below {w w' : World} {l : List Int} {A : Option Addr} {c : Nat} (h : MV w l A c) (hb : Below w.heap.size w w') : MV w' l A c := ⟨h.cap, Kd.C_below h.cells hb⟩
theorem R_len {w : World} {base : Nat} {v : Value} {l : List Int} (h : Kd.R (Kd.int .i64) 3 w base (fun _ => True) v l) : l.length ≤ 9223372036854775807 := by
  obtain ⟨inner, ho⟩ := Kd.R_own h
  rcases ho.2 with ⟨_, h0⟩ | ⟨g, cap, cur, _, _, _, h1, h2, _⟩
  · omega
  · unfold maxLen at h2
    omega
theorem MV.of_R {w : World} {base : Nat} {v : Value} {l : List Int} (h : Kd.R (Kd.int .i64) 3 w base (fun _ => True) v l) : ∃ A c, v = .slice A l.length c ∧ MV w l A c := by
  obtain ⟨A, c, rfl⟩ := Kd.R_slice h
  exact ⟨A, c, rfl, (Kd.R_reads' h).2.1, (Kd.R_reads' h).2.2⟩
def mat (R C : Int) (l : List Int) (A : Option Addr) (c : Nat) : Value := .agg #[.int .i64 R, .int .i64 C, .slice A l.length c]
/-- A call that answers a number and an error. -/
abbrev GivesN (f : FuncId) (R C : Int) (l : List Int) (n e : Int) : Prop := ∀ (w : World) (A : Option Addr) (c : Nat), MV w l A c → Calls Try.prog f #[.agg #[.int .i64 R, .int .i64 C, .slice A l.length c]] w fun x w' => x = .returned (.tuple #[.int .i64 n, .int .i64 e]) ∧ Below w.heap.size w w'
/-- What a call leaves that answers a matrix and an error. -/
def MEnd (r1 r2 : Int) (r3 : List Int) (r4 : Int) (w : World) (x : Ending) (w' : World) : Prop := ∃ (A' : Option Addr) (c' : Nat), x = .returned (.tuple #[.agg #[.int .i64 r1, .int .i64 r2, .slice A' r3.length c'], .int .i64 r4]) ∧ MV w' r3 A' c' ∧ r3.length ≤ 9223372036854775807 ∧ Below w.heap.size w w'
abbrev GivesM (f : FuncId) (R C : Int) (l : List Int) (r1 r2 : Int) (r3 : List Int) (r4 : Int) : Prop := ∀ (w : World) (A : Option Addr) (c : Nat), MV w l A c → Calls Try.prog f #[.agg #[.int .i64 R, .int .i64 C, .slice A l.length c]] w (MEnd r1 r2 r3 r4 w)
theorem check_gives (R C : Int) (l : List Int) (h : l.length ≤ 140737488355328) (w : World) (A : Option Addr) (c : Nat) (hm : MV w l A c) : Calls Try.prog 32 #[.agg #[.int .i64 R, .int .i64 C, .slice A l.length c]] w fun x w' => x = .returned (.int .i64 (chk R C l)) ∧ Below w.heap.size w w' := matrix_Check_any R C A c l w hm.cells hm.cap h
theorem checkR_gives (R C : Int) (l : List Int) (h : l.length ≤ 140737488355328) (w : World) (A : Option Addr) (c : Nat) (hm : MV w l A c) : Calls Try.prog 33 #[.agg #[.int .i64 R, .int .i64 C, .slice A l.length c]] w fun x w' => x = .returned (.int .i64 (chk R C l)) ∧ Below w.heap.size w w' := storagebarterref06_Check_any R C A c l w hm.cells hm.cap h
theorem rank_two (R C : Int) (l : List Int) (h : l.length ≤ 140737488355328) : ∃ n e, GivesN 25 R C l n e ∧ GivesN 30 R C l n e := by
  obtain ⟨n, e, hf⟩ : ∃ n e, matrix_Rank.f 0 R C l = some (n, e) := by
    unfold matrix_Rank.f
    rw [if_pos h]
    split <;> exact ⟨_, _, rfl⟩
  exact ⟨n, e, fun w A c hm => matrix_Rank.calls 0 R C A c l n e w hm.cells hm.cap hf, fun w A c hm => rankR_calls 0 R C A c l n e w hm.cells hm.cap hf⟩
theorem inv_two (R C : Int) (l : List Int) (h : l.length ≤ 140737488355328) : ∃ r1 r2 r3 r4, GivesM 26 R C l r1 r2 r3 r4 ∧ GivesM 31 R C l r1 r2 r3 r4 := by
  obtain ⟨r1, r2, r3, r4, hf⟩ : ∃ r1 r2 r3 r4, matrix_Inverse.f 0 R C l = some (r1, r2, r3, r4) := by
    unfold matrix_Inverse.f
    rw [if_pos h]
    repeat' split
    all_goals exact ⟨_, _, _, _, rfl⟩
  refine ⟨r1, r2, r3, r4, fun w A c hm => (matrix_Inverse.calls 0 R C A c l r1 r2 r3 r4 w hm.cells hm.cap hf).mono ?_, fun w A c hm => (inverseR_calls 0 R C A c l r1 r2 r3 r4 w hm.cells hm.cap hf).mono ?_⟩
  all_goals
    rintro e w' ⟨v, rfl, hr, hb⟩
    have hn := R_len hr
    obtain ⟨A', c', rfl, hv⟩ := MV.of_R hr
    exact ⟨A', c', rfl, hv, hn, hb⟩
/-- A call at two matrices that answers a matrix and an error. -/
abbrev GivesMM (f : FuncId) (R C : Int) (l : List Int) (R2 C2 : Int) (m : List Int) (r1 r2 : Int) (r3 : List Int) (r4 : Int) : Prop := ∀ (w : World) (A : Option Addr) (c : Nat) (B : Option Addr) (d : Nat), MV w l A c → MV w m B d → Calls Try.prog f #[.agg #[.int .i64 R, .int .i64 C, .slice A l.length c], .agg #[.int .i64 R2, .int .i64 C2, .slice B m.length d]] w (MEnd r1 r2 r3 r4 w)
theorem prodErr_zero {R M R2 C : Int} {a b : List Int} (h : prodErr R M R2 C a b = 0) : chk R M a = 0 ∧ chk R2 C b = 0 ∧ M = R2 := by
  unfold prodErr at h
  by_cases h1 : chk R M a = 0
  · rw [if_neg (by simp [h1])] at h
    by_cases h2 : chk R2 C b = 0
    · rw [if_neg (by simp [h2])] at h
      by_cases h3 : M = R2
      · exact ⟨h1, h2, h3⟩
      · rw [if_pos h3] at h
        cases h
    · rw [if_pos h2] at h
      exact absurd h h2
  · rw [if_pos h1] at h
    exact absurd h h1
theorem prod_two (R M R2 C : Int) (a b : List Int) (ha : a.length ≤ 140737488355328) (hb : b.length ≤ 140737488355328) : ∃ r1 r2 r3 r4, GivesMM 27 R M a R2 C b r1 r2 r3 r4 ∧ GivesMM 34 R M a R2 C b r1 r2 r3 r4 := by
  by_cases h : prodErr R M R2 C a b = 0
  · obtain ⟨h1, h2, rfl⟩ := prodErr_zero h
    obtain ⟨r, m, rfl, rfl, va⟩ := valid_chk h1
    obtain ⟨m', c, e1, rfl, vb⟩ := valid_chk h2
    obtain rfl : m = m' := by omega
    refine ⟨r, c, prods m c a b (r * c), 0, fun w A k B k2 h3 h4 => (product_valid r m c k k2 A B a b w h3.cells h3.cap va h4.cells h4.cap vb).mono ?_, fun w A k B k2 h3 h4 => (productR_valid r m c k k2 A B a b w h3.cells h3.cap va h4.cells h4.cap vb).mono ?_⟩
    all_goals
      rintro e w' ⟨hb, v, ho, rfl⟩
      have hr := R_of_own (v := v) (l := prods m c a b (r * c)) (by rw [prods_len]; exact ho)
      have hn := R_len hr
      obtain ⟨A', c', rfl, hv⟩ := MV.of_R hr
      exact ⟨A', c', rfl, hv, hn, hb⟩
  · refine ⟨0, 0, [], prodErr R M R2 C a b, fun w A k B k2 h3 h4 => (product_bad R M R2 C k k2 A B a b w h3.cells h3.cap ha h4.cells h4.cap hb h).mono ?_, fun w A k B k2 h3 h4 => (productR_bad R M R2 C k k2 A B a b w h3.cells h3.cap ha h4.cells h4.cap hb h).mono ?_⟩
    all_goals
      rintro e w' ⟨hb, rfl⟩
      obtain ⟨A', c', he, hv⟩ := MV.of_R (R_of_own (w := w') (base := 0) (v := .slice none 0 0) (l := []) (own_nil _ _ _ _))
      cases he
      exact ⟨none, 0, rfl, hv, by decide, hb⟩
/-- Two loops of Pick answer alike. -/
theorem pick_loops {R C : Nat} {l : List Int} (hv : Valid R C l) (q : List Int) (hq : q.length ≤ 16) : ∀ d i : Nat, i + d = q.length → ∀ out : List Int, out.length = i * C →
    ∃ res, Ev (fun k => matrix_Pick.l0 k q (q.length : Int) (i : Int) (R : Int) (C : Int) l (q.length : Int) (C : Int) out) res ∧ Ev (fun k => storagebarterref06_Pick.l0 k q (q.length : Int) (i : Int) (R : Int) (C : Int) l (q.length : Int) (C : Int) out) res := by
  intro d
  induction d with
  | zero =>
    intro i hi out hout
    have h : ¬ (i : Int) < (q.length : Int) := by omega
    refine ⟨((q.length : Int), (C : Int), out, 0), Ev.step (f := fun _ => some ((q.length : Int), (C : Int), out, 0)) (fun k => ?_) (Ev.now _), Ev.step (f := fun _ => some ((q.length : Int), (C : Int), out, 0)) (fun k => ?_) (Ev.now _)⟩
    · simp only [matrix_Pick.l0]
      rw [if_neg h]
    · simp only [storagebarterref06_Pick.l0]
      rw [if_neg h]
  | succ d ih =>
    intro i hi out hout
    have q0 : (i : Int) < (q.length : Int) := by omega
    have qz : (0 : Int) ≤ (i : Int) := Int.natCast_nonneg _
    by_cases h1 : rd q (i : Int) < 0
    · refine ⟨(0, 0, [], 1), Ev.step (f := fun _ => some (0, 0, [], 1)) (fun k => ?_) (Ev.now _), Ev.step (f := fun _ => some (0, 0, [], 1)) (fun k => ?_) (Ev.now _)⟩
      · simp only [matrix_Pick.l0]
        rw [if_pos q0, if_pos qz, if_pos q0, if_pos h1]
      · simp only [storagebarterref06_Pick.l0]
        rw [if_pos q0, if_pos qz, if_pos q0, if_pos h1]
    · by_cases h2 : rd q (i : Int) ≥ (R : Int)
      · refine ⟨(0, 0, [], 1), Ev.step (f := fun _ => some (0, 0, [], 1)) (fun k => ?_) (Ev.now _), Ev.step (f := fun _ => some (0, 0, [], 1)) (fun k => ?_) (Ev.now _)⟩
        · simp only [matrix_Pick.l0]
          rw [if_pos q0, if_pos qz, if_pos q0, if_neg h1, if_pos h2]
        · simp only [storagebarterref06_Pick.l0]
          rw [if_pos q0, if_pos qz, if_pos q0, if_neg h1, if_pos h2]
      · obtain ⟨s, hs⟩ : ∃ s : Nat, rd q (i : Int) = (s : Int) := ⟨(rd q (i : Int)).toNat, by omega⟩
        rw [hs] at h1 h2
        have hsi : s < R := by omega
        have hd : i + 1 + d = q.length := by omega
        have hi6 : i + 1 ≤ 1000000 := by omega
        have hi16 : i ≤ 16 := by omega
        have hb : R * C ≤ 1000000 := Nat.le_trans (Nat.mul_le_mul hv.r1 hv.c1) (by decide)
        have m1 : (s + 1) * C ≤ R * C := Nat.mul_le_mul_right C hsi
        have m2 : s * C ≤ (s + 1) * C := Nat.mul_le_mul_right C (Nat.le_succ _)
        have hs6 : s + 1 ≤ 1000000 := Nat.le_trans hsi (Nat.le_trans hv.r1 (by decide))
        have w1 : wrap64 ((s : Int) * (C : Int)) = ((s * C : Nat) : Int) := wmul (Nat.le_trans m2 (Nat.le_trans m1 hb))
        have w2 : wrap64 (((s + 1 : Nat) : Int) * (C : Int)) = (((s + 1) * C : Nat) : Int) := wmul (Nat.le_trans m1 hb)
        have w3 : wrap64 ((s : Int) + 1) = ((s + 1 : Nat) : Int) := wadd (b := 1) hs6
        have w4 : wrap64 ((i : Int) + 1) = ((i + 1 : Nat) : Int) := wadd (b := 1) hi6
        have q3 : ((s * C : Nat) : Int) ≤ (((s + 1) * C : Nat) : Int) := Int.ofNat_le.2 m2
        have q4 : (((s + 1) * C : Nat) : Int) ≤ (l.length : Int) := by rw [hv.len]; exact Int.ofNat_le.2 m1
        have hC : (s + 1) * C - s * C = C := by rw [Nat.succ_mul]; exact Nat.add_sub_cancel_left _ _
        have hpl : ((l.take ((s + 1) * C)).drop (s * C)).length = C := by
          rw [List.length_drop, List.length_take, hv.len, Nat.min_eq_left m1, hC]
        have hol : (out ++ (l.take ((s + 1) * C)).drop (s * C)).length = (i + 1) * C := by
          rw [List.length_append, hout, hpl, Nat.succ_mul]
        have q5 : out.length + ((l.take ((s + 1) * C)).drop (s * C)).length < 17592186044416 := by
          rw [hout, hpl]
          exact Nat.lt_of_le_of_lt (Nat.add_le_add (Nat.mul_le_mul hi16 hv.c1) hv.c1) (by decide)
        obtain ⟨res, r1, r2⟩ := ih (i + 1) hd _ hol
        refine ⟨res, Ev.step (fun k => ?_) r1, Ev.step (fun k => ?_) r2⟩
        · simp only [matrix_Pick.l0, hs]
          rw [if_pos q0, if_pos qz, if_pos q0, if_neg h1, if_neg h2, w1, w3, w2, if_pos (Int.natCast_nonneg _), if_pos q3, if_pos q4, Int.toNat_natCast, Int.toNat_natCast, if_pos q5, w4]
        · simp only [storagebarterref06_Pick.l0, hs]
          rw [if_pos q0, if_pos qz, if_pos q0, if_neg h1, if_neg h2, w1, w3, w2, if_pos (Int.natCast_nonneg _), if_pos q3, if_pos q4, Int.toNat_natCast, Int.toNat_natCast, if_pos q5, w4]
theorem pick_both (R C : Int) (l q : List Int) (hl : l.length ≤ 140737488355328) : ∃ res, Ev (fun k => matrix_Pick.f k R C l q) res ∧ Ev (fun k => storagebarterref06_Pick.f k R C l q) res := by
  have k1 := matrix_Check_ev R C l hl
  have k2 := storagebarterref06_Check_ev R C l hl
  unfold matrix_Pick.f storagebarterref06_Pick.f
  by_cases h : chk R C l = 0
  · obtain ⟨r, c, rfl, rfl, hv⟩ := valid_chk h
    rw [h] at k1 k2
    by_cases h1 : (q.length : Int) < 1
    · refine ⟨(0, 0, [], 1), Ev.bind k1 ?_, Ev.bind k2 ?_⟩
      · simp only [if_true, if_pos h1]
        exact Ev.step (f := fun _ => some _) (fun k => by simp only [matrix_Pick.j0, if_true]) (Ev.now _)
      · simp only [if_true, if_pos h1]
        exact Ev.step (f := fun _ => some _) (fun k => by simp only [storagebarterref06_Pick.j0, if_true]) (Ev.now _)
    · by_cases h2 : (q.length : Int) > 16
      · refine ⟨(0, 0, [], 1), Ev.bind k1 ?_, Ev.bind k2 ?_⟩
        · simp only [if_true, if_neg h1, decide_eq_true h2]
          exact Ev.step (f := fun _ => some _) (fun k => by simp only [matrix_Pick.j0, if_true]) (Ev.now _)
        · simp only [if_true, if_neg h1, decide_eq_true h2]
          exact Ev.step (f := fun _ => some _) (fun k => by simp only [storagebarterref06_Pick.j0, if_true]) (Ev.now _)
      · obtain ⟨res, r1, r2⟩ := pick_loops hv q (by omega) q.length 0 (by omega) [] (by simp)
        refine ⟨res, Ev.bind k1 ?_, Ev.bind k2 ?_⟩
        · simp only [if_true, if_neg h1, decide_eq_false h2]
          exact Ev.step (fun k => by simp only [matrix_Pick.j0, Bool.false_eq_true, if_false]; rfl) r1
        · simp only [if_true, if_neg h1, decide_eq_false h2]
          exact Ev.step (fun k => by simp only [storagebarterref06_Pick.j0, Bool.false_eq_true, if_false]; rfl) r2
  · refine ⟨(0, 0, [], chk R C l), Ev.bind k1 ?_, Ev.bind k2 ?_⟩
    · simp only [if_neg h]
      exact Ev.now _
    · simp only [if_neg h]
      exact Ev.now _
/-- A call at a matrix and a list that answers a matrix and an error. -/
abbrev GivesML (f : FuncId) (R C : Int) (l q : List Int) (r1 r2 : Int) (r3 : List Int) (r4 : Int) : Prop := ∀ (w : World) (A : Option Addr) (c : Nat) (B : Option Addr) (d : Nat), MV w l A c → MV w q B d → Calls Try.prog f #[.agg #[.int .i64 R, .int .i64 C, .slice A l.length c], .slice B q.length d] w (MEnd r1 r2 r3 r4 w)
theorem pick_two (R C : Int) (l q : List Int) (hl : l.length ≤ 140737488355328) : ∃ r1 r2 r3 r4, GivesML 24 R C l q r1 r2 r3 r4 ∧ GivesML 35 R C l q r1 r2 r3 r4 := by
  obtain ⟨⟨r1, r2, r3, r4⟩, h1, h2⟩ := pick_both R C l q hl
  obtain ⟨k1, e1⟩ := Ev.rounds h1
  obtain ⟨k2, e2⟩ := Ev.rounds h2
  refine ⟨r1, r2, r3, r4, fun w A c B d hm hq => (matrix_Pick.calls k1 R C A c l B d q r1 r2 r3 r4 w hm.cells hm.cap hq.cells hq.cap e1).mono ?_, fun w A c B d hm hq => (storagebarterref06_Pick.calls k2 R C A c l B d q r1 r2 r3 r4 w hm.cells hm.cap hq.cells hq.cap e2).mono ?_⟩
  all_goals
    rintro e w' ⟨v, rfl, hr, hb⟩
    have hn := R_len hr
    obtain ⟨A', c', rfl, hv⟩ := MV.of_R hr
    exact ⟨A', c', rfl, hv, hn, hb⟩
/-- A call at two matrices that answers a bool. -/
abbrev GivesB (f : FuncId) (R C : Int) (l : List Int) (R2 C2 : Int) (m : List Int) (b : Bool) : Prop := ∀ (w : World) (A : Option Addr) (c : Nat) (B : Option Addr) (d : Nat), MV w l A c → MV w m B d → Calls Try.prog f #[.agg #[.int .i64 R, .int .i64 C, .slice A l.length c], .agg #[.int .i64 R2, .int .i64 C2, .slice B m.length d]] w fun x w' => x = .returned (.bool b) ∧ Below w.heap.size w w'
theorem same_loop2 (l m : List Int) (hl : l.length ≤ 9223372036854775807) (hm : m.length = l.length) : ∀ d j : Nat, j + d = l.length → (∀ i, i < j → l.getD i 0 = m.getD i 0) → Ev (fun k => slices_Equal_int_int.l0 k l m (l.length : Int) (j : Int)) (decide (l = m)) := by
  intro d
  induction d with
  | zero =>
    intro j hj h
    have : l = m := getD_ext hm.symm fun i hi => h i (by omega)
    rw [decide_eq_true this]
    refine Ev.step (f := fun _ => some true) (fun k => ?_) (Ev.now _)
    simp only [slices_Equal_int_int.l0]
    rw [if_neg (by omega)]
  | succ d ih =>
    intro j hj h
    have w : wrap64 ((j : Int) + 1) = ((j + 1 : Nat) : Int) := by unfold wrap64; omega
    have e1 : rd l (j : Int) = l.getD j 0 := rfl
    have e2 : rd m (j : Int) = m.getD j 0 := rfl
    by_cases h1 : l.getD j 0 = m.getD j 0
    · refine Ev.step (fun k => ?_) (ih (j + 1) (by omega) fun i hi => ?_)
      · simp only [slices_Equal_int_int.l0]
        rw [if_pos (by omega), if_pos (by omega), if_pos (by omega), if_pos (by omega), e1, e2, if_pos h1, w]
      · by_cases e : i = j
        · rw [e]; exact h1
        · exact h i (by omega)
    · have : ¬ l = m := fun e => h1 (by rw [e])
      rw [decide_eq_false this]
      refine Ev.step (f := fun _ => some false) (fun k => ?_) (Ev.now _)
      simp only [slices_Equal_int_int.l0]
      rw [if_pos (by omega), if_pos (by omega), if_pos (by omega), if_pos (by omega), e1, e2, if_neg h1]
theorem same_ev2 (R C R2 C2 : Int) (l m : List Int) (hl : l.length ≤ 9223372036854775807) : Ev (fun k => matrix_Same.f k R C l R2 C2 m) (decide (R = R2 ∧ C = C2 ∧ l = m)) := by
  unfold matrix_Same.f
  by_cases h1 : R = R2
  · by_cases h2 : C = C2
    · simp only [if_pos h1, if_pos h2]
      have e2 : decide (R = R2 ∧ C = C2 ∧ l = m) = decide (l = m) := by
        rw [decide_eq_decide]
        exact ⟨fun h => h.2.2, fun h => ⟨h1, h2, h⟩⟩
      rw [e2]
      refine Ev.bind ?_ (Ev.now _)
      unfold slices_Equal_int_int.f
      by_cases h3 : (l.length : Int) = (m.length : Int)
      · simp only [if_pos h3]
        exact same_loop2 l m hl (by omega) l.length 0 (by omega) fun i hi => absurd hi (by omega)
      · simp only [if_neg h3]
        rw [decide_eq_false (fun e => h3 (by rw [e]))]
        exact Ev.now _
    · simp only [if_pos h1, if_neg h2]
      rw [decide_eq_false (fun e => h2 e.2.1)]
      exact Ev.now _
  · simp only [if_neg h1]
    rw [decide_eq_false (fun e => h1 e.1)]
    exact Ev.now _
theorem same_two (R C R2 C2 : Int) (l m : List Int) (hl : l.length ≤ 9223372036854775807) : GivesB 28 R C l R2 C2 m (decide (R = R2 ∧ C = C2 ∧ l = m)) ∧ GivesB 15 R C l R2 C2 m (decide (R = R2 ∧ C = C2 ∧ l = m)) := by
  obtain ⟨k1, e1⟩ := Ev.rounds (same_ev2 R C R2 C2 l m hl)
  obtain ⟨k2, e2⟩ := Ev.rounds (rsame_ev R C R2 C2 l m hl)
  exact ⟨fun w A c B d hm hq => matrix_Same.calls k1 R C A c l R2 C2 B d m _ w hm.cells hm.cap hq.cells hq.cap e1, fun w A c B d hm hq => storagebarterref06_Same.calls k2 R C A c l R2 C2 B d m _ w hm.cells hm.cap hq.cells hq.cap e2⟩
end Go.Proofs.Ytbdbfnkjbbbmdaa.MatMatrixDoes
