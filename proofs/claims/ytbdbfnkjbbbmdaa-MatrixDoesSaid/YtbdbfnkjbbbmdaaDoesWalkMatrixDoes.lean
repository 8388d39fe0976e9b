/- The walk of the law MatrixDoes: it answers true at any deck, matrices and list. -/
import Derived.Test.YtbdbfnkjbbbmdaaRefAllMatrixDoes
import Derived.Test.YtbdbfnkjbbbmdaaSaneWalkMatrixDoes
import Derived.Test.YtbdbfnkjbbbmdaaMatMadeMatrixDoes
import Derived.Deep.RegionHeld3
namespace Go.Proofs.Ytbdbfnkjbbbmdaa.MatMatrixDoes
set_option linter.unusedSimpArgs false
set_option linter.unusedVariables false
open Go.RowKit Go.Proofs.Ytbdbfnkjbbbmdaa.PMatrixDoes Go.Proofs.YtbdbfnkjbbbmdaaW.PrintWords Go.Proofs.YtbdbfnkjbbbmdaaW.PrintLast Go.Proofs.Ytbdbfnkjbbbmdaa.Gf Go.Proofs.Ytbdbfnkjbbbmdaa.Lin Go.Proofs.Ytbdbfnkjbbbmdaa.MatMem Go.Proofs.Ytbdbfnkjbbbmdaa.MatData
/-- A list of numbers in memory, apart from the block g. -/
structure FV (w : World) (l : List Int) (A : Option Addr) (c g : Nat) : Prop where
  mv : MV w l A c
  far : ∀ ad, A = some ad → 0 < l.length → ad.block ≠ g
theorem FV.keep {w w' : World} {l : List Int} {A : Option Addr} {c g : Nat} (h : FV w l A c g) (hk : KeepBut w w' g none) : FV w' l A c g :=
  ⟨⟨h.mv.cap, Kd.C_keep (0 : Int) h.mv.cells hk h.far⟩, h.far⟩
theorem FV.below {w w' : World} {l : List Int} {A : Option Addr} {c g : Nat} (h : FV w l A c g) (hb : Below w.heap.size w w') : FV w' l A c g := ⟨h.mv.below hb, h.far⟩
theorem FV.of_R {w : World} {base g : Nat} {v : Value} {l : List Int} (h : Kd.R (Kd.int .i64) 3 w base (fun _ => True) v l) (hg : g < base) : ∃ A c, v = .slice A l.length c ∧ FV w l A c g := by
  obtain ⟨A, c, rfl, hv⟩ := MV.of_R h
  refine ⟨A, c, rfl, hv, ?_⟩
  rintro ad rfl hl e
  have := Kd.R_base h ad.block (by simp [Value.ownBlock])
  omega
/-- A matrix's numbers, and where its cells lie. -/
structure Mx where
  R : Int
  C : Int
  l : List Int
  A : Option Addr
  c : Nat
/-- Four matrices in a row. -/
def four (x0 x1 x2 x3 : Mx) (i : Nat) : Mx := if i = 0 then x0 else if i = 1 then x1 else if i = 2 then x2 else x3
/-- Matrices that lie one behind the other in a block: three cells each. -/
def Row3 (w : World) (b n : Nat) (X : Nat → Mx) : Prop := ∀ i, i < n → w.cell? ⟨b, i * 3, none⟩ = some (.int .i64 (X i).R) ∧ w.cell? ⟨b, i * 3 + 1, none⟩ = some (.int .i64 (X i).C) ∧ w.cell? ⟨b, i * 3 + 2, none⟩ = some (.slice (X i).A (X i).l.length (X i).c)
theorem Row3.grow {w w' : World} {b n : Nat} {X : Nat → Mx} (h : Row3 w b n X) (hb : Below w.heap.size w w') : Row3 w' b n X := fun i hi => by
  obtain ⟨h1, h2, h3⟩ := h i hi
  exact ⟨(hb.cell (p := ⟨b, i * 3, none⟩) (World.block_lt_of_cell? _ _ h1)).trans h1, (hb.cell (p := ⟨b, i * 3 + 1, none⟩) (World.block_lt_of_cell? _ _ h2)).trans h2, (hb.cell (p := ⟨b, i * 3 + 2, none⟩) (World.block_lt_of_cell? _ _ h3)).trans h3⟩
def All3 (w : World) (n : Nat) (X : Nat → Mx) : Prop := ∀ i, i < n → MV w (X i).l (X i).A (X i).c ∧ (X i).l.length ≤ 140737488355328
theorem All3.grow {w w' : World} {n : Nat} {X : Nat → Mx} (h : All3 w n X) (hb : Below w.heap.size w w') : All3 w' n X := fun i hi => ⟨(h i hi).1.below hb, (h i hi).2⟩
theorem row3_new (w : World) (x0 x1 x2 x3 : Mx) : Row3 (w.alloc (.cells #[.int .i64 x0.R, .int .i64 x0.C, .slice x0.A x0.l.length x0.c, .int .i64 x1.R, .int .i64 x1.C, .slice x1.A x1.l.length x1.c, .int .i64 x2.R, .int .i64 x2.C, .slice x2.A x2.l.length x2.c, .int .i64 x3.R, .int .i64 x3.C, .slice x3.A x3.l.length x3.c] 26)) w.heap.size 4 (four x0 x1 x2 x3) := by
  intro i hi
  rcases i with _ | _ | _ | _ | i
  all_goals first
    | omega
    | (simp [World.cell?_alloc_new, four])
theorem row3_new3 (w : World) (x0 x1 x2 : Mx) : Row3 (w.alloc (.cells #[.int .i64 x0.R, .int .i64 x0.C, .slice x0.A x0.l.length x0.c, .int .i64 x1.R, .int .i64 x1.C, .slice x1.A x1.l.length x1.c, .int .i64 x2.R, .int .i64 x2.C, .slice x2.A x2.l.length x2.c] 26)) w.heap.size 3 (four x0 x1 x2 x2) := by
  intro i hi
  rcases i with _ | _ | _ | i
  all_goals first
    | omega
    | (simp [World.cell?_alloc_new, four])
theorem all3_of {w : World} {n : Nat} (x0 x1 x2 x3 : Mx) (h0 : MV w x0.l x0.A x0.c ∧ x0.l.length ≤ 140737488355328) (h1 : MV w x1.l x1.A x1.c ∧ x1.l.length ≤ 140737488355328) (h2 : MV w x2.l x2.A x2.c ∧ x2.l.length ≤ 140737488355328) (h3 : MV w x3.l x3.A x3.c ∧ x3.l.length ≤ 140737488355328) : All3 w n (four x0 x1 x2 x3) := by
  intro i hi
  unfold four
  split
  · exact h0
  · split
    · exact h1
    · split
      · exact h2
      · exact h3
/-- A list of numbers, and where it lies. -/
structure Lx where
  l : List Int
  A : Option Addr
  c : Nat
def two (x0 x1 : Lx) (i : Nat) : Lx := if i = 0 then x0 else x1
def Row1 (w : World) (b n : Nat) (X : Nat → Lx) : Prop := ∀ i, i < n → w.cell? ⟨b, i, none⟩ = some (.slice (X i).A (X i).l.length (X i).c)
theorem Row1.grow {w w' : World} {b n : Nat} {X : Nat → Lx} (h : Row1 w b n X) (hb : Below w.heap.size w w') : Row1 w' b n X := fun i hi =>
  (hb.cell (p := ⟨b, i, none⟩) (World.block_lt_of_cell? _ _ (h i hi))).trans (h i hi)
theorem row1_new (w : World) (x0 x1 : Lx) : Row1 (w.alloc (.cells #[.slice x0.A x0.l.length x0.c, .slice x1.A x1.l.length x1.c] 24)) w.heap.size 2 (two x0 x1) := by
  intro i hi
  rcases i with _ | _ | i
  all_goals first
    | omega
    | (simp [World.cell?_alloc_new, two])
/-- A matrix in a box. -/
def Box (w : World) (b : Nat) (R C : Int) (l : List Int) (A : Option Addr) (c : Nat) : Prop := w.heap[b]? = some (.cells #[.int .i64 R, .int .i64 C, .slice A l.length c] 26 (0, 0))
theorem Box.keep {w w' : World} {b : Nat} {R C : Int} {l : List Int} {A : Option Addr} {c g : Nat} (h : Box w b R C l A c) (hk : KeepBut w w' g none) (hne : b ≠ g) : Box w' b R C l A c := KeepBut.blk hk h hne (by simp)
theorem Box.below {w w' : World} {b B : Nat} {R C : Int} {l : List Int} {A : Option Addr} {c : Nat} (h : Box w b R C l A c) (hb : Below B w w') (hB : b < B) : Box w' b R C l A c := (hb.block b hB).trans h
theorem Box.grow {w w' : World} {b : Nat} {R C : Int} {l : List Int} {A : Option Addr} {c : Nat} (h : Box w b R C l A c) (hb : Below w.heap.size w w') : Box w' b R C l A c := h.below hb (blk_lt h)
theorem Box.cells {w : World} {b : Nat} {R C : Int} {l : List Int} {A : Option Addr} {c : Nat} (h : Box w b R C l A c) : w.cell? ⟨b, 0, none⟩ = some (.int .i64 R) ∧ w.cell? ⟨b, 1, none⟩ = some (.int .i64 C) ∧ w.cell? ⟨b, 2, none⟩ = some (.slice A l.length c) := by
  obtain ⟨h1, h2, h3, _⟩ := blk_cell3 h
  exact ⟨h1, h2, h3⟩
theorem Box.new (w : World) (R C : Int) (l : List Int) (A : Option Addr) (c : Nat) : Box (w.alloc (.cells #[.int .i64 R, .int .i64 C, .slice A l.length c] 26)) w.heap.size R C l A c := heap_alloc_new w _
theorem Box.ne_deck {w0 w : World} {b g : Nat} {R C : Int} {l s : List Int} {p : Int} {A : Option Addr} {c : Nat} (h : Box w b R C l A c) (hi : IsS56 w0 w g s p) : b ≠ g := by
  rintro rfl
  obtain ⟨_, _, hb, _⟩ := hi
  unfold Box at h
  rw [hb] at h
  injection h with h
  injection h with _ h
  exact absurd h (by decide)
theorem IsS56.lt' {w0 w : World} {g : Nat} {s : List Int} {p : Int} (hi : IsS56 w0 w g s p) : g < w.heap.size := by
  obtain ⟨_, _, hb, _⟩ := hi
  exact blk_lt hb
/-- What a draw of a matrix leaves. -/
def MkEnd (g : Nat) (s : List Int) (p : Int) (R C : Int) (l : List Int) (w0 w : World) (e : Ending) (w' : World) : Prop :=
  ∃ (A : Option Addr) (c : Nat), e = .returned (.agg #[.int .i64 R, .int .i64 C, .slice A l.length c]) ∧ FV w' l A c g ∧ IsS56 w0 w' g s p ∧ Below w0.heap.size w0 w' ∧ KeepBut w w' g none
theorem mk_any (k g : Nat) (s : List Int) (p R C : Int) (l : List Int) (p' : Int) (w0 w : World) (hI : IsS56 w0 w g s p) (hB : Below w0.heap.size w0 w) (h : storagebartermake_Matrix.f k s p R C = some (R, C, l, p')) :
    Calls Try.prog 21 #[.pointer (some ⟨g, 0, none⟩), .int .i64 R, .int .i64 C] w (MkEnd g s p' R C l w0 w) := by
  refine (storagebartermake_Matrix.calls k g s p R C R C l p' w0 w hI hB h).mono ?_
  rintro e w' ⟨v, rfl, hr, hi, hb, hk⟩
  obtain ⟨A, c, rfl, hf⟩ := FV.of_R hr (IsS56.lt' hI)
  exact ⟨A, c, rfl, hf, hi, hb, hk⟩
theorem next_any (g : Nat) (s : List Int) (p a t p' : Int) (w0 w : World) (hI : IsS56 w0 w g s p) (hB : Below w0.heap.size w0 w) (h : storagebartermake_Deck_Next.f s p a = some (t, p')) :
    Calls Try.prog 22 #[.pointer (some ⟨g, 0, none⟩), .int .i64 a] w fun e w' => e = .returned (.int .i64 t) ∧ IsS56 w0 w' g s p' ∧ Below w0.heap.size w0 w' ∧ KeepBut w w' g none := storagebartermake_Deck_Next.calls g s p a t p' w0 w hI hB h
theorem draw5 {s : List Int} (hs : s.length ≤ 500) {p : Int} (hp : 0 ≤ p) : ∃ (t p' : Int) (m : Nat), storagebartermake_Deck_Next.f s p 5 = some (t, p') ∧ wrap64 (1 + t) = (m : Int) ∧ 0 < m ∧ m ≤ 5 ∧ 0 ≤ p' := by
  obtain ⟨t, p', h, t0, t1, hp'⟩ := next_ok (a := 5) hs hp (by decide) (by decide)
  exact ⟨t, p', (1 + t).toNat, h, by unfold wrap64; omega, by omega, by omega, hp'⟩
theorem draws (s : List Int) (hs : s.length ≤ 500) : ∃ (t1 t2 t3 p1 p2 p3 p4 p5 p6 : Int) (m r c : Nat) (a b q : List Int) (k : Nat), storagebartermake_Deck_Next.f s 0 5 = some (t1, p1) ∧ wrap64 (1 + t1) = (m : Int) ∧ storagebartermake_Deck_Next.f s p1 5 = some (t2, p2) ∧ wrap64 (1 + t2) = (r : Int) ∧ storagebartermake_Matrix.f k s p2 (r : Int) (m : Int) = some ((r : Int), (m : Int), a, p3) ∧
    storagebartermake_Deck_Next.f s p3 5 = some (t3, p4) ∧ wrap64 (1 + t3) = (c : Int) ∧ storagebartermake_Matrix.f k s p4 (m : Int) (c : Int) = some ((m : Int), (c : Int), b, p5) ∧ storagebartermake_Matrix.f k s p5 (m : Int) (m : Int) = some ((m : Int), (m : Int), q, p6) ∧ 0 < r ∧ r ≤ 5 ∧ a.length ≤ 1000 ∧ b.length ≤ 1000 ∧ q.length ≤ 1000 := by
  obtain ⟨t1, p1, m, e1, w1, m0, m5, hp1⟩ := draw5 hs (p := 0) (by decide)
  obtain ⟨t2, p2, r, e2, w2, r0, r5, hp2⟩ := draw5 hs hp1
  obtain ⟨a, p3, va, hp3, ea⟩ := made_ev hs hp2 r0 (Nat.le_trans r5 (by decide)) m0 (Nat.le_trans m5 (by decide))
  obtain ⟨t3, p4, c, e3, w3, c0, c5, hp4⟩ := draw5 hs hp3
  obtain ⟨b, p5, vb, hp5, eb⟩ := made_ev hs hp4 m0 (Nat.le_trans m5 (by decide)) c0 (Nat.le_trans c5 (by decide))
  obtain ⟨q, p6, vq, hp6, eq⟩ := made_ev hs hp5 m0 (Nat.le_trans m5 (by decide)) m0 (Nat.le_trans m5 (by decide))
  obtain ⟨k, h⟩ := Ev.rounds (Ev.bind ea (f := fun k x => (storagebartermake_Matrix.f k s p4 (m : Int) (c : Int)).bind fun y => (storagebartermake_Matrix.f k s p5 (m : Int) (m : Int)).bind fun z => some (x, y, z)) (Ev.bind eb (Ev.bind eq (Ev.now _))))
  obtain ⟨x, hx, h⟩ := Option.bind_eq_some_iff.1 h
  obtain ⟨y, hy, h⟩ := Option.bind_eq_some_iff.1 h
  obtain ⟨z, hz, h⟩ := Option.bind_eq_some_iff.1 h
  injection h with h
  injection h with h1 h
  injection h with h2 h3
  subst h1 h2 h3
  exact ⟨t1, t2, t3, p1, p2, p3, p4, p5, p6, m, r, c, a, b, q, k, e1, w1, e2, w2, hx, e3, w3, hy, hz, r0, r5, valid_len va, valid_len vb, valid_len vq⟩
def DoesEnd (w : World) (e : Ending) (w' : World) : Prop := e = .returned (.bool true) ∧ Below w.heap.size w w'
set_option maxHeartbeats 4000000 in
set_option maxRecDepth 100000 in
theorem does_any (A0 : Option Addr) (c0 : Nat) (s : List Int) (R1 C1 : Int) (A1 : Option Addr) (c1 : Nat) (l1 : List Int) (R2 C2 : Int) (A2 : Option Addr) (cc2 : Nat) (l2 : List Int) (A3 : Option Addr) (c3 : Nat) (q : List Int) (w : World)
    (h0 : MV w s A0 c0) (h1 : MV w l1 A1 c1) (h2 : MV w l2 A2 cc2) (h3 : MV w q A3 c3) :
    Calls Try.prog 10 #[.slice A0 s.length c0, .agg #[.int .i64 R1, .int .i64 C1, .slice A1 l1.length c1], .agg #[.int .i64 R2, .int .i64 C2, .slice A2 l2.length cc2], .slice A3 q.length c3] w (DoesEnd w) := by
  have H0 := Aside0.mk h0
  have H1 := Aside0.mk h1
  have H2 := Aside0.mk h2
  have H3 := Aside0.mk h3
  clear h0 h1 h2 h3
  have few : ∀ X, Below w.heap.size w X → Calls Try.prog 19 #[.slice A0 s.length c0] X fun e w' => e = .returned (.bool (decide ((s.length : Int) ≤ 500))) ∧ Drawn0 X w' := fun X hX => storagebartermake_Few.calls A0 c0 s _ X (Kd.C_below H0.out.cells hX) H0.out.cap rfl
  have small1 : ∀ X, Below w.heap.size w X → Calls Try.prog 29 #[.agg #[.int .i64 R1, .int .i64 C1, .slice A1 l1.length c1]] X fun e w' => e = .returned (.bool (decide ((l1.length : Int) ≤ 400))) ∧ Below X.heap.size X w' := fun X hX => storagebarterlaw06_small.calls R1 C1 A1 c1 l1 _ X (Kd.C_below H1.out.cells hX) H1.out.cap rfl
  have small2 : ∀ X, Below w.heap.size w X → Calls Try.prog 29 #[.agg #[.int .i64 R2, .int .i64 C2, .slice A2 l2.length cc2]] X fun e w' => e = .returned (.bool (decide ((l2.length : Int) ≤ 400))) ∧ Below X.heap.size X w' := fun X hX => storagebarterlaw06_small.calls R2 C2 A2 cc2 l2 _ X (Kd.C_below H2.out.cells hX) H2.out.cap rfl
  have FEW := Aside0.mk few
  have SM1 := Aside0.mk small1
  have SM2 := Aside0.mk small2
  clear few small1 small2
  go_enter Try.func10, Try.ntmps10
  go_upto_region 1 with fail
  obtain ⟨w1, hw1⟩ : ∃ w1, w1 = (w.alloc (.cells #[.int .i64 R1, .int .i64 C1, .slice A1 l1.length c1] 26)).alloc (.cells #[.int .i64 R2, .int .i64 C2, .slice A2 l2.length cc2] 26) := ⟨_, rfl⟩
  rw [← hw1]
  have HB1 := Aside0.mk (show Below w.heap.size w w1 by rw [hw1]; exact ((Below.refl _ _).alloc (Nat.le_refl _) _).alloc (by simp) _)
  have HR1 := Aside0.mk (show Box w1 w.heap.size R1 C1 l1 A1 c1 by rw [hw1]; exact (Box.new w R1 C1 l1 A1 c1).grow ((Below.refl _ _).alloc (Nat.le_refl _) _))
  have HO1 := Aside0.mk (show Box w1 (w.heap.size + 1) R2 C2 l2 A2 cc2 by
    rw [hw1]
    have := Box.new (w.alloc (.cells #[.int .i64 R1, .int .i64 C1, .slice A1 l1.length c1] 26)) R2 C2 l2 A2 cc2
    simpa using this)
  clear hw1
  go_upto_region 3 with (go_at_call 11; (with_reducible refine (sane_any _).mono ?_); rintro e w2 ⟨rfl, hb⟩; have HX := Aside0.mk hb; clear hb)
  have HB2 := Aside0.mk (HB1.out.trans (HX.out.mono HB1.out.size))
  have HR2 := Aside0.mk (HR1.out.grow HX.out)
  have HO2 := Aside0.mk (HO1.out.grow HX.out)
  clear HB1 HR1 HO1 HX
  obtain ⟨a0, a1, a2⟩ := HR2.out.cells
  obtain ⟨b0, b1, b2⟩ := HO2.out.cells
  by_cases k1 : (s.length : Int) ≤ 500
  · have e1 : decide ((s.length : Int) ≤ 500) = true := decide_eq_true k1
    have hs : s.length ≤ 500 := by omega
    have HS := Aside0.mk hs
    clear k1 hs
    by_cases k2 : (l1.length : Int) ≤ 400
    · have e2 : decide ((l1.length : Int) ≤ 400) = true := decide_eq_true k2
      have HK2 := Aside0.mk k2
      clear k2
      by_cases k3 : (l2.length : Int) ≤ 400
      · have e3 : decide ((l2.length : Int) ≤ 400) = true := decide_eq_true k3
        have HK3 := Aside0.mk k3
        clear k3
        by_cases k4 : (q.length : Int) > 100
        · have e4 : decide ((100 : Int) < (q.length : Int)) = true := decide_eq_true k4
          have HK4 := Aside0.mk k4
          clear k4
          go_wp2_with (first | (go_at_call 19; (with_reducible refine (FEW.out _ HB2.out).mono ?_); rw [e1]; rintro e w' ⟨rfl, ⟨nd, rfl⟩⟩) | (go_at_call 29; (with_reducible refine (SM1.out _ (belowN HB2.out _)).mono ?_); rw [e2]; rintro e w3 ⟨rfl, hb⟩; obtain ⟨d0, d1, d2⟩ := (Box.grow (w := w2.drewN nd) HO2.out hb).cells; have HX := Aside0.mk hb; clear hb) | (go_at_call 29; (refine (SM2.out _ ((belowN HB2.out nd).trans (HX.out.mono HB2.out.size))).mono ?_); rw [e3]; rintro e w4 ⟨rfl, hb⟩; have HY := Aside0.mk hb; clear hb))
          go_ret
          exact ⟨rfl, ((belowN HB2.out nd).trans (HX.out.mono HB2.out.size)).trans (HY.out.mono (Nat.le_trans HB2.out.size HX.out.size))⟩
        · have e4 : decide ((100 : Int) < (q.length : Int)) = false := decide_eq_false k4
          have HK4 := Aside0.mk k4
          clear k4
          go_upto_region 5 with (first | (go_at_call 19; (with_reducible refine (FEW.out _ HB2.out).mono ?_); rw [e1]; rintro e w' ⟨rfl, ⟨nd, rfl⟩⟩) | (go_at_call 29; (with_reducible refine (SM1.out _ (belowN HB2.out _)).mono ?_); rw [e2]; rintro e w3 ⟨rfl, hb⟩; obtain ⟨d0, d1, d2⟩ := (Box.grow (w := w2.drewN nd) HO2.out hb).cells; have HX := Aside0.mk hb; clear hb) | (go_at_call 29; (refine (SM2.out _ ((belowN HB2.out nd).trans (HX.out.mono HB2.out.size))).mono ?_); rw [e3]; rintro e w4 ⟨rfl, hb⟩; have HY := Aside0.mk hb; clear hb))
          have HB24 := Aside0.mk (show Below w2.heap.size w2 w4 from ((belowN (Below.refl _ _) nd).trans HX.out).trans (HY.out.mono HX.out.size))
          have HB4 := Aside0.mk (HB2.out.trans (HB24.out.mono HB2.out.size))
          have HR4 := Aside0.mk (HR2.out.grow HB24.out)
          have HO4 := Aside0.mk (HO2.out.grow HB24.out)
          clear HB2 HR2 HO2 HB24 HX HY FEW SM1 SM2 a0 a1 a2 b0 b1 b2 d0 d1 d2 e1 e2 e3 e4
          obtain ⟨t1, t2, t3, p1, p2, p3, p4, p5, p6, m, r, c, a, b, sq, k, n1, v1, n2, v2, n3, n4, v3, n5, n6, r0, r5, la, lb, lq⟩ := draws s HS.out
          have N1 := Aside0.mk (And.intro n1 (And.intro n2 (And.intro n3 (And.intro n4 (And.intro n5 n6)))))
          have LL := Aside0.mk (And.intro r0 (And.intro r5 (And.intro la (And.intro lb lq))))
          clear n1 n2 n3 n4 n5 n6 r0 r5 la lb lq
          go_upto_region 6 with (go_at_call 20; (with_reducible refine (storagebartermake_New.calls A0 c0 s s 0 w _ HB4.out H0.out.cells H0.out.cap rfl).mono ?_); rintro e w5 ⟨g, rfl, hi, hb, hb2⟩; have HD := Aside0.mk (And.intro hi (And.intro hb hb2)); clear hi hb hb2)
          have HB5 := Aside0.mk HD.out.2.1
          have HI5 := Aside0.mk HD.out.1
          have HR5 := Aside0.mk (HR4.out.grow HD.out.2.2)
          have HO5 := Aside0.mk (HO4.out.grow HD.out.2.2)
          have NE1 := Aside0.mk (Box.ne_deck HR5.out HI5.out)
          have NE2 := Aside0.mk (Box.ne_deck HO5.out HI5.out)
          clear HD HB4 HR4 HO4
          go_upto_region 7 with (go_at_call 22; (with_reducible refine (next_any g s 0 5 t1 p1 w _ HI5.out HB5.out N1.out.1).mono ?_); rintro e w6 ⟨rfl, hi, hb, hk⟩; have HX := Aside0.mk (And.intro hi (And.intro hb hk)); clear hi hb hk)
          have HR6 := Aside0.mk (HR5.out.keep HX.out.2.2 NE1.out)
          have HO6 := Aside0.mk (HO5.out.keep HX.out.2.2 NE2.out)
          have HI6 := Aside0.mk HX.out.1
          have HB6 := Aside0.mk HX.out.2.1
          clear HR5 HO5 HI5 HB5 HX
          go_wp2_with fail
          refine (next_any g s p1 5 t2 p2 w _ HI6.out HB6.out N1.out.2.1).mono ?_
          rintro e w7 ⟨rfl, hi, hb, hk⟩
          have HR7 := Aside0.mk (HR6.out.keep hk NE1.out)
          have HO7 := Aside0.mk (HO6.out.keep hk NE2.out)
          have HI7 := Aside0.mk hi
          have HB7 := Aside0.mk hb
          clear hi hb hk HR6 HO6 HI6 HB6
          go_wp2_with fail
          refine (mk_any k g s p2 (r : Int) (m : Int) a p3 w _ HI7.out HB7.out N1.out.2.2.1).mono ?_
          rintro e w8 ⟨Aa, ca, rfl, hf, hi, hb, hk⟩
          have HR8 := Aside0.mk (HR7.out.keep hk NE1.out)
          have HO8 := Aside0.mk (HO7.out.keep hk NE2.out)
          have HI8 := Aside0.mk hi
          have HB8 := Aside0.mk hb
          have FA8 := Aside0.mk hf
          clear hi hb hk hf HR7 HO7 HI7 HB7
          go_wp2_with fail
          refine (next_any g s p3 5 t3 p4 w _ HI8.out HB8.out N1.out.2.2.2.1).mono ?_
          rintro e w9 ⟨rfl, hi, hb, hk⟩
          have HR9 := Aside0.mk (HR8.out.keep hk NE1.out)
          have HO9 := Aside0.mk (HO8.out.keep hk NE2.out)
          have FA9 := Aside0.mk (FA8.out.keep hk)
          have HI9 := Aside0.mk hi
          have HB9 := Aside0.mk hb
          clear hi hb hk HR8 HO8 HI8 HB8 FA8
          go_wp2_with fail
          refine (mk_any k g s p4 (m : Int) (c : Int) b p5 w _ HI9.out HB9.out N1.out.2.2.2.2.1).mono ?_
          rintro e w10 ⟨Ab, cb, rfl, hf, hi, hb, hk⟩
          have HR10 := Aside0.mk (HR9.out.keep hk NE1.out)
          have HO10 := Aside0.mk (HO9.out.keep hk NE2.out)
          have FA10 := Aside0.mk (FA9.out.keep hk)
          have FB10 := Aside0.mk hf
          have HI10 := Aside0.mk hi
          have HB10 := Aside0.mk hb
          clear hi hb hk hf HR9 HO9 HI9 HB9 FA9
          go_upto_region 8 with fail
          obtain ⟨w11, hw11⟩ : ∃ w11, w11 = (w10.alloc (.cells #[.int .i64 (r : Int), .int .i64 (m : Int), .slice Aa a.length ca] 26)).alloc (.cells #[.int .i64 (m : Int), .int .i64 (c : Int), .slice Ab b.length cb] 26) := ⟨_, rfl⟩
          rw [← hw11]
          have hb := (show Below w10.heap.size w10 w11 by rw [hw11]; exact ((Below.refl _ _).alloc (Nat.le_refl _) _).alloc (by simp) _)
          have XA11 := Aside0.mk (show Box w11 w10.heap.size r m a Aa ca by rw [hw11]; exact (Box.new w10 r m a Aa ca).grow ((Below.refl _ _).alloc (Nat.le_refl _) _))
          have XB11 := Aside0.mk (show Box w11 (w10.heap.size + 1) m c b Ab cb by
            rw [hw11]
            have := Box.new (w10.alloc (.cells #[.int .i64 (r : Int), .int .i64 (m : Int), .slice Aa a.length ca] 26)) m c b Ab cb
            simpa using this)
          have HR11 := Aside0.mk (HR10.out.grow hb)
          have HO11 := Aside0.mk (HO10.out.grow hb)
          have FA11 := Aside0.mk (FA10.out.below hb)
          have FB11 := Aside0.mk (FB10.out.below hb)
          have HI11 := Aside0.mk (HI10.out.below hb)
          have HB11 := Aside0.mk (HB10.out.trans (hb.mono HB10.out.size))
          have NE3 := Aside0.mk (Box.ne_deck XA11.out HI11.out)
          have NE4 := Aside0.mk (Box.ne_deck XB11.out HI11.out)
          clear hw11 hb HR10 HO10 FA10 FB10 HI10 HB10
          go_wp2_with fail
          refine (mk_any k g s p5 (m : Int) (m : Int) sq p6 w _ HI11.out HB11.out N1.out.2.2.2.2.2).mono ?_
          rintro e w12 ⟨Aq, cq, rfl, hf, hi, hb, hk⟩
          have HR12 := Aside0.mk (HR11.out.keep hk NE1.out)
          have HO12 := Aside0.mk (HO11.out.keep hk NE2.out)
          have XA12 := Aside0.mk (XA11.out.keep hk NE3.out)
          have XB12 := Aside0.mk (XB11.out.keep hk NE4.out)
          have FA12 := Aside0.mk (FA11.out.keep hk)
          have FB12 := Aside0.mk (FB11.out.keep hk)
          have FQ12 := Aside0.mk hf
          have HB12 := Aside0.mk hb
          clear hi hb hk hf HR11 HO11 HI11 HB11 FA11 FB11 XA11 XB11
          go_upto_region 9 with fail
          obtain ⟨w13, hw13⟩ : ∃ w13, w13 = w12.alloc (.cells #[.int .i64 (m : Int), .int .i64 (m : Int), .slice Aq sq.length cq] 26) := ⟨_, rfl⟩
          rw [← hw13]
          have hb := (show Below w12.heap.size w12 w13 by rw [hw13]; exact (Below.refl _ _).alloc (Nat.le_refl _) _)
          have XQ13 := Aside0.mk (show Box w13 w12.heap.size m m sq Aq cq by rw [hw13]; exact Box.new w12 m m sq Aq cq)
          have HR13 := Aside0.mk (HR12.out.grow hb)
          have HO13 := Aside0.mk (HO12.out.grow hb)
          have XA13 := Aside0.mk (XA12.out.grow hb)
          have XB13 := Aside0.mk (XB12.out.grow hb)
          have MA13 := Aside0.mk (FA12.out.mv.below hb)
          have MB13 := Aside0.mk (FB12.out.mv.below hb)
          have MQ13 := Aside0.mk (FQ12.out.mv.below hb)
          have HB13 := Aside0.mk (HB12.out.trans (hb.mono HB12.out.size))
          clear hw13 hb HR12 HO12 HB12 FA12 FB12 FQ12 XA12 XB12 N1 NE1 NE2 NE3 NE4
          generalize w10.heap.size = ba at XA13 XB13 ⊢
          generalize hbb : ba + 1 = bb at XB13 ⊢
          generalize hbq : w12.heap.size = bq at XQ13 ⊢
          clear hbb hbq v1 v2 v3
          have M1 := Aside0.mk (H1.out.below HB13.out)
          have M2 := Aside0.mk (H2.out.below HB13.out)
          have M3 := Aside0.mk (H3.out.below HB13.out)
          obtain ⟨i3, hi, hz0, hz1, hz2⟩ := info_parts info3'
          have HI := Aside0.mk (And.intro hi (And.intro hz0 (And.intro hz1 hz2)))
          clear hi hz0 hz1 hz2
          have r0 : 0 < r := LL.out.1
          have hq100 : q.length ≤ 100 := by have := HK4.out; omega
          go_wp2
          go_loopg [14, 82] q.length (fun gi v14 v82 wr => ∃ (i : Nat) (rows : List Int), i ≤ q.length ∧ gi = q.length - i ∧ v82 = .int .i64 i ∧ rows.length ≤ i ∧ rows.length ≤ 17 ∧ Aside0 (wr.ownsRow w13.heap.size 3 1 v14 rows.length (nums .i64 rows)) ∧ Aside0 (Below w13.heap.size w13 wr))
          case atStart =>
            go_light
            exact ⟨0, [], Nat.zero_le _, rfl, rfl, Nat.le_refl _, by decide, ⟨own_nil _ _ _ _⟩, ⟨Below.refl _ _⟩⟩
          case round =>
            obtain ⟨i, rows, hi, rfl, rfl, hri, hr17, HO, HB⟩ := hrel
            by_cases hiq : i < q.length
            · have hiq' : (i : Int) < (q.length : Int) := by omega
              obtain ⟨ad, e3, hx⟩ := Kd.at_int M3.out.cells (i : Int) (by omega) (by omega)
              subst e3
              have hx' : wr.cell? (ad.add i) = some (.int .i64 (rd q (i : Int))) := (HB.out.cell (p := ad.add i) (World.block_lt_of_cell? _ _ hx)).trans hx
              clear hx
              obtain ⟨a0, a1, a2⟩ := (XA13.out.grow HB.out).cells
              obtain ⟨y, hy⟩ : ∃ y, storagebartermake_Mod.f (rd q (i : Int)) (r : Int) = some y := by
                unfold storagebartermake_Mod.f
                rw [if_neg (by omega)]
                exact ⟨_, rfl⟩
              have HY := Aside0.mk hy
              clear hy
              by_cases h17 : i < 17
              · have h17' : (i : Int) < 17 := by omega
                go_wp2_with (first | (go_at_call 12; (with_reducible refine (storagebartermake_Mod.calls _ _ y _ HY.out).mono ?_); rintro e w' ⟨rfl, ⟨nd, rfl⟩⟩) | (at_builtin; refine wpList_append_own _ rfl (.tmp 89) (.tmp 94) 24 rfl w13.heap.size 3 i3 (.int .i64 0) 1 8 Try.underlying24 HI.out.1 HI.out.2.1 HI.out.2.2.1 HI.out.2.2.2 rfl Nat.one_pos u14 rows.length (nums .i64 rows) rfl ?c0 ⟨wr.heap.size, 0, none⟩ 1 1 [.int .i64 y] rfl rfl ?c1 ?c2 ?c3 ?c4 ?c5 ?_))
                case c0 => exact World.ownsRow.alloc (own_drewN HO.out _) _
                case c1 =>
                  intro t u hu
                  rw [Addr.add_lit]
                  obtain ⟨rfl, rfl⟩ : t = 0 ∧ u = .int .i64 y := by
                    rcases t with _ | t
                    · exact ⟨rfl, by simpa using hu.symm⟩
                    · simp at hu
                  simp [World.cell?, World.alloc]
                case c2 =>
                  intro u hu
                  rw [List.mem_singleton.1 hu]
                  rfl
                case c3 => simp [maxLen]; omega
                case c4 => omega
                case c5 => have := HB.out.size; simp; omega
                intro v' w4 hown hg hnil
                have HX := Aside0.mk (And.intro hown hg)
                clear hown hg hnil
                go_wp2
                go_roundg (q.length - (i + 1))
                case measure => go_light; omega
                case rel =>
                  go_light
                  have hsz := HB.out.size
                  refine ⟨i + 1, rows ++ [y], by omega, rfl, by go_num, by simp; omega, by simp; omega, ⟨?_⟩, ⟨((belowN HB.out _).alloc (by simp; omega) _).grown HX.out.2 (by simp; omega) (fun k hk => own_base HO.out k hk)⟩⟩
                  have := HX.out.1
                  simpa [nums] using this
              · have h17' : ¬ (i : Int) < 17 := by omega
                go_wp2
                go_roundg (q.length - (i + 1))
                case measure => go_light; omega
                case rel =>
                  go_light
                  exact ⟨i + 1, rows, by omega, rfl, by go_num, by omega, hr17, HO, HB⟩
            · have hiq' : ¬ (i : Int) < (q.length : Int) := by omega
              obtain ⟨A4, c4, rfl, m4⟩ := MV.of_R (R_of_own HO.out)
              have M4 := Aside0.mk m4
              clear m4 hi hri hiq
              obtain ⟨w14, rfl⟩ : ∃ w14 : World, w14 = wr := ⟨_, rfl⟩
              have HR14 := Aside0.mk (HR13.out.grow HB.out)
              have HO14 := Aside0.mk (HO13.out.grow HB.out)
              have XA14 := Aside0.mk (XA13.out.grow HB.out)
              have XB14 := Aside0.mk (XB13.out.grow HB.out)
              have XQ14 := Aside0.mk (XQ13.out.grow HB.out)
              have MA14 := Aside0.mk (MA13.out.below HB.out)
              have MB14 := Aside0.mk (MB13.out.below HB.out)
              have MQ14 := Aside0.mk (MQ13.out.below HB.out)
              have M114 := Aside0.mk (M1.out.below HB.out)
              have M214 := Aside0.mk (M2.out.below HB.out)
              have M314 := Aside0.mk (M3.out.below HB.out)
              have W14 := Aside0.mk (HB13.out.trans (HB.out.mono HB13.out.size))
              clear HB HO HR13 HO13 XA13 XB13 XQ13 MA13 MB13 MQ13 M1 M2 M3 HB13 HI i3 H0 H1 H2 H3
              obtain ⟨x0, x1, x2⟩ := HR14.out.cells
              obtain ⟨x3, x4, x5⟩ := XA14.out.cells
              obtain ⟨x6, x7, x8⟩ := XB14.out.cells
              obtain ⟨x9, x10, x11⟩ := XQ14.out.cells
              have L1 := HK2.out
              have L2 := HK3.out
              have L3 := LL.out.2.2
              have LA := Aside0.mk (all3_of (n := 4) ⟨R1, C1, l1, A1, c1⟩ ⟨r, m, a, Aa, ca⟩ ⟨m, c, b, Ab, cb⟩ ⟨m, m, sq, Aq, cq⟩ ⟨M114.out, by show l1.length ≤ _; omega⟩ ⟨MA14.out, by show a.length ≤ _; omega⟩ ⟨MB14.out, by show b.length ≤ _; omega⟩ ⟨MQ14.out, by show sq.length ≤ _; omega⟩)
              have LB := Aside0.mk (all3_of (n := 3) (w := w14) ⟨R2, C2, l2, A2, cc2⟩ ⟨m, c, b, Ab, cb⟩ ⟨m, m, sq, Aq, cq⟩ ⟨m, m, sq, Aq, cq⟩ ⟨M214.out, by show l2.length ≤ _; omega⟩ ⟨MB14.out, by show b.length ≤ _; omega⟩ ⟨MQ14.out, by show sq.length ≤ _; omega⟩ ⟨MQ14.out, by show sq.length ≤ _; omega⟩)
              have LAA := Aside0.mk (And.intro MA14.out (show a.length ≤ 140737488355328 by omega))
              have HROW := Aside0.mk (row3_new w14 ⟨R1, C1, l1, A1, c1⟩ ⟨r, m, a, Aa, ca⟩ ⟨m, c, b, Ab, cb⟩ ⟨m, m, sq, Aq, cq⟩)
              clear L1 L2 L3 HK2 HK3 HK4 LL hq100 hr17
              go_wp2
              obtain ⟨w15, hw15⟩ : ∃ w15, w15 = w14.alloc (.cells #[.int .i64 R1, .int .i64 C1, .slice A1 l1.length c1, .int .i64 r, .int .i64 m, .slice Aa a.length ca, .int .i64 m, .int .i64 c, .slice Ab b.length cb, .int .i64 m, .int .i64 m, .slice Aq sq.length cq] 26) := ⟨_, rfl⟩
              have hb := (show Below w14.heap.size w14 w15 by rw [hw15]; exact (Below.refl _ _).alloc (Nat.le_refl _) _)
              have HROW15 := Aside0.mk (show Row3 w15 w14.heap.size 4 (four ⟨R1, C1, l1, A1, c1⟩ ⟨r, m, a, Aa, ca⟩ ⟨m, c, b, Ab, cb⟩ ⟨m, m, sq, Aq, cq⟩) by rw [hw15]; exact HROW.out)
              rw [← hw15]
              have HO15 := Aside0.mk (HO14.out.grow hb)
              have XA15 := Aside0.mk (XA14.out.grow hb)
              have XB15 := Aside0.mk (XB14.out.grow hb)
              have XQ15 := Aside0.mk (XQ14.out.grow hb)
              have LA15 := Aside0.mk (LA.out.grow hb)
              have LB15 := Aside0.mk (LB.out.grow hb)
              have LAA15 := Aside0.mk (And.intro (LAA.out.1.below hb) LAA.out.2)
              have M315 := Aside0.mk (M314.out.below hb)
              have M415 := Aside0.mk (M4.out.below hb)
              have W15 := Aside0.mk (W14.out.trans (hb.mono W14.out.size))
              clear hw15 hb HROW W14 HR14 HO14 XA14 XB14 XQ14 MA14 MB14 MQ14 M114 M214 M314 M4 LA LB LAA x0 x1 x2 x3 x4 x5 x6 x7 x8 x9 x10 x11
              generalize w14.heap.size = bx at HROW15 ⊢
              obtain ⟨X, hX⟩ : ∃ X, X = four ⟨R1, C1, l1, A1, c1⟩ ⟨r, m, a, Aa, ca⟩ ⟨m, c, b, Ab, cb⟩ ⟨m, m, sq, Aq, cq⟩ := ⟨_, rfl⟩
              rw [← hX] at HROW15 LA15
              clear hX
              go_loopg [103] 4 (fun gi v103 wr => ∃ i : Nat, i ≤ 4 ∧ gi = 4 - i ∧ v103 = .int .i64 i ∧ Aside0 (Below w15.heap.size w15 wr))
              case atStart =>
                go_light
                exact ⟨0, by decide, rfl, rfl, ⟨Below.refl _ _⟩⟩
              case round =>
                obtain ⟨i, hi, rfl, rfl, HB⟩ := hrel
                by_cases hi4 : i < 4
                · have hi4' : (i : Int) < 4 := by omega
                  obtain ⟨f0, f1, f2⟩ := (HROW15.out.grow HB.out) i hi4
                  obtain ⟨mv, ml⟩ := (LA15.out.grow HB.out) i hi4
                  generalize X i = x at f0 f1 f2 mv ml
                  obtain ⟨R, C, l, A, ck⟩ := x
                  dsimp only at f0 f1 f2 mv ml
                  have MVX := Aside0.mk mv
                  have MLX := Aside0.mk ml
                  clear mv ml
                  obtain ⟨n, e, g1, g2⟩ := rank_two R C l MLX.out
                  obtain ⟨r1, r2, r3, r4, g3, g4⟩ := inv_two R C l MLX.out
                  have G1 := Aside0.mk g1
                  have G2 := Aside0.mk g2
                  have G3 := Aside0.mk g3
                  have G4 := Aside0.mk g4
                  clear g1 g2 g3 g4
                  go_upto_region 19 with fail
                  obtain ⟨w16, hw16⟩ : ∃ w16, w16 = wr.alloc (.cells #[.int .i64 R, .int .i64 C, .slice A l.length ck] 26) := ⟨_, rfl⟩
                  rw [← hw16]
                  have BX := Aside0.mk (show Box w16 wr.heap.size R C l A ck by rw [hw16]; exact Box.new wr R C l A ck)
                  have hb16 := (show Below wr.heap.size wr w16 by rw [hw16]; exact (Below.refl _ _).alloc (Nat.le_refl _) _)
                  have HB16 := Aside0.mk (HB.out.trans (hb16.mono HB.out.size))
                  have MX := Aside0.mk (MVX.out.below hb16)
                  clear hw16 hb16 f0 f1 f2 MVX
                  obtain ⟨bt, hbt⟩ : ∃ bt, bt = wr.heap.size := ⟨_, rfl⟩
                  rw [← hbt] at BX ⊢
                  clear hbt
                  obtain ⟨c0, c1, c2⟩ := BX.out.cells
                  go_upto_region 20 with (go_at_call 25; (with_reducible refine (G1.out w16 A ck MX.out).mono ?_); rintro e w17 ⟨rfl, hb⟩; have HX := Aside0.mk hb; clear hb)
                  clear c0 c1 c2
                  obtain ⟨c0, c1, c2⟩ := (BX.out.grow HX.out).cells
                  have H17 := Aside0.mk HX.out
                  clear HX
                  go_upto_region 21 with (go_at_call 30; (with_reducible refine (G2.out w17 A ck (MX.out.below H17.out)).mono ?_); rintro e w18 ⟨rfl, hb⟩; have HX := Aside0.mk hb; clear hb)
                  have H18 := Aside0.mk (H17.out.trans (HX.out.mono H17.out.size))
                  clear HX H17 c0 c1 c2
                  obtain ⟨c0, c1, c2⟩ := (BX.out.grow H18.out).cells
                  go_upto_region 22 with (go_at_call 26; (with_reducible refine (G3.out w18 A ck (MX.out.below H18.out)).mono ?_); rintro e w19 ⟨Au, cu, rfl, hu, hn3, hb⟩; have LN3 := Aside0.mk hn3; clear hn3; have HX := Aside0.mk (And.intro hu hb); clear hu hb)
                  obtain ⟨w20, hw20⟩ : ∃ w20, w20 = w19.alloc (.cells #[.int .i64 r1, .int .i64 r2, .slice Au r3.length cu] 26) := ⟨_, rfl⟩
                  rw [← hw20]
                  have hb20 := (show Below w19.heap.size w19 w20 by rw [hw20]; exact (Below.refl _ _).alloc (Nat.le_refl _) _)
                  have BU := Aside0.mk (show Box w20 w19.heap.size r1 r2 r3 Au cu by rw [hw20]; exact Box.new w19 r1 r2 r3 Au cu)
                  have MU := Aside0.mk (HX.out.1.below hb20)
                  have H20 := Aside0.mk (H18.out.trans ((HX.out.2.trans (hb20.mono HX.out.2.size)).mono H18.out.size))
                  clear hw20 hb20 HX H18 c0 c1 c2
                  obtain ⟨bu, hbu⟩ : ∃ bu, bu = w19.heap.size := ⟨_, rfl⟩
                  rw [← hbu] at BU ⊢
                  clear hbu
                  obtain ⟨c0, c1, c2⟩ := (BX.out.grow H20.out).cells
                  go_upto_region 23 with (go_at_call 31; (with_reducible refine (G4.out w20 A ck (MX.out.below H20.out)).mono ?_); rintro e w21 ⟨Av, cv, rfl, hv, hn3, hb⟩; clear hn3; have HX := Aside0.mk (And.intro hv hb); clear hv hb)
                  obtain ⟨w22, hw22⟩ : ∃ w22, w22 = w21.alloc (.cells #[.int .i64 r1, .int .i64 r2, .slice Av r3.length cv] 26) := ⟨_, rfl⟩
                  rw [← hw22]
                  have hb22 := (show Below w21.heap.size w21 w22 by rw [hw22]; exact (Below.refl _ _).alloc (Nat.le_refl _) _)
                  have BV := Aside0.mk (show Box w22 w21.heap.size r1 r2 r3 Av cv by rw [hw22]; exact Box.new w21 r1 r2 r3 Av cv)
                  have hb2022 := (HX.out.2.trans (hb22.mono HX.out.2.size))
                  have MW := Aside0.mk (HX.out.1.below hb22)
                  have BU22 := Aside0.mk (BU.out.grow hb2022)
                  have MU22 := Aside0.mk (MU.out.below hb2022)
                  have H22 := Aside0.mk (H20.out.trans (hb2022.mono H20.out.size))
                  clear hw22 hb22 hb2022 HX H20 BU MU c0 c1 c2
                  obtain ⟨bv, hbv⟩ : ∃ bv, bv = w21.heap.size := ⟨_, rfl⟩
                  rw [← hbv] at BV ⊢
                  clear hbv
                  have H1522 := Aside0.mk (HB16.out.trans (H22.out.mono HB16.out.size))
                  obtain ⟨c0, c1, c2⟩ := (BX.out.grow H22.out).cells
                  obtain ⟨u0, u1, u2⟩ := BU22.out.cells
                  obtain ⟨v0, v1, v2⟩ := BV.out.cells
                  obtain ⟨y0, y1, y2⟩ := (XA15.out.grow H1522.out).cells
                  have SALL := Aside0.mk (show ∀ Y, Below w22.heap.size w22 Y → (fun Y => Y.cell? ⟨bt, 0, none⟩ = some (.int .i64 R) ∧ Y.cell? ⟨bt, 1, none⟩ = some (.int .i64 C) ∧ Y.cell? ⟨bt, 2, none⟩ = some (.slice A l.length ck) ∧ Y.cell? ⟨bu, 0, none⟩ = some (.int .i64 r1) ∧ Y.cell? ⟨bu, 1, none⟩ = some (.int .i64 r2) ∧ Y.cell? ⟨bu, 2, none⟩ = some (.slice Au r3.length cu) ∧ Y.cell? ⟨bv, 0, none⟩ = some (.int .i64 r1) ∧ Y.cell? ⟨bv, 1, none⟩ = some (.int .i64 r2) ∧ Y.cell? ⟨bv, 2, none⟩ = some (.slice Av r3.length cv) ∧ Y.cell? ⟨ba, 0, none⟩ = some (.int .i64 (r : Int)) ∧ Y.cell? ⟨ba, 1, none⟩ = some (.int .i64 (m : Int)) ∧ Y.cell? ⟨ba, 2, none⟩ = some (.slice Aa a.length ca)) Y from fun Y hY => by
                    obtain ⟨k0, k1, k2⟩ := ((BX.out.grow H22.out).grow hY).cells
                    obtain ⟨k3, k4, k5⟩ := (BU22.out.grow hY).cells
                    obtain ⟨k6, k7, k8⟩ := (BV.out.grow hY).cells
                    obtain ⟨k9, k10, k11⟩ := ((XA15.out.grow H1522.out).grow hY).cells
                    exact ⟨k0, k1, k2, k3, k4, k5, k6, k7, k8, k9, k10, k11⟩)
                  have QB := Aside0.mk (show Below w22.heap.size w22 w22.drew from (Below.refl _ _).drew)
                  have MX22 := Aside0.mk (MX.out.below H22.out)
                  have MA22 := Aside0.mk (LAA15.out.1.below H1522.out)
                  obtain ⟨s1, s2⟩ := same_two R C r m l a (Nat.le_trans MLX.out (by decide))
                  have s3 := (same_two r1 r2 r1 r2 r3 r3 LN3.out).2
                  rw [decide_eq_true ⟨rfl, rfl, rfl⟩] at s3
                  generalize decide (R = (r : Int) ∧ C = (m : Int) ∧ l = a) = bs at s1 s2
                  have S1 := Aside0.mk s1
                  have S2 := Aside0.mk s2
                  have S3 := Aside0.mk s3
                  clear s1 s2 s3
                  go_cut [161] (fun v161 wc => v161 = .bool false ∧ Aside0 (Below w22.heap.size w22 wc))
                  case first =>
                    go_region_held3 (fun Y => Y.cell? ⟨bt, 0, none⟩ = some (.int .i64 R) ∧ Y.cell? ⟨bt, 1, none⟩ = some (.int .i64 C) ∧ Y.cell? ⟨bt, 2, none⟩ = some (.slice A l.length ck) ∧ Y.cell? ⟨bu, 0, none⟩ = some (.int .i64 r1) ∧ Y.cell? ⟨bu, 1, none⟩ = some (.int .i64 r2) ∧ Y.cell? ⟨bu, 2, none⟩ = some (.slice Au r3.length cu) ∧ Y.cell? ⟨bv, 0, none⟩ = some (.int .i64 r1) ∧ Y.cell? ⟨bv, 1, none⟩ = some (.int .i64 r2) ∧ Y.cell? ⟨bv, 2, none⟩ = some (.slice Av r3.length cv) ∧ Y.cell? ⟨ba, 0, none⟩ = some (.int .i64 (r : Int)) ∧ Y.cell? ⟨ba, 1, none⟩ = some (.int .i64 (m : Int)) ∧ Y.cell? ⟨ba, 2, none⟩ = some (.slice Aa a.length ca)) (first | exact SALL.out _ QB.out | go_keep) (first | (go_at_call 32; (with_reducible refine (check_gives R C l MLX.out _ A ck (MX22.out.below QB.out)).mono ?_); rintro e w23 ⟨rfl, hb⟩; have QB := Aside0.mk (QB.out.trans (hb.mono QB.out.size)); clear hb) | (go_at_call 33; (with_reducible refine (checkR_gives R C l MLX.out _ A ck (MX22.out.below QB.out)).mono ?_); rintro e w24 ⟨rfl, hb⟩; have QB := Aside0.mk (QB.out.trans (hb.mono QB.out.size)); clear hb) | (go_at_call 28; (with_reducible refine (S1.out _ A ck Aa ca (MX22.out.below QB.out) (MA22.out.below QB.out)).mono ?_); rintro e w25 ⟨rfl, hb⟩; have QB := Aside0.mk (QB.out.trans (hb.mono QB.out.size)); clear hb) | (go_at_call 15; (with_reducible refine (S2.out _ A ck Aa ca (MX22.out.below QB.out) (MA22.out.below QB.out)).mono ?_); rintro e w26 ⟨rfl, hb⟩; have QB := Aside0.mk (QB.out.trans (hb.mono QB.out.size)); clear hb) | (go_at_call 15; (with_reducible refine (S3.out _ Au cu Av cv (MU22.out.below QB.out) (MW.out.below QB.out)).mono ?_); rintro e w27 ⟨rfl, hb⟩; have QB := Aside0.mk (QB.out.trans (hb.mono QB.out.size)); clear hb))
                    all_goals
                      go_wp2
                      go_meet
                      case rel =>
                        go_light
                        exact ⟨rfl, QB⟩
                  case rest =>
                    obtain ⟨rfl, HC⟩ := hcut
                    have H15 := Aside0.mk (H1522.out.trans (HC.out.mono H1522.out.size))
                    have BXc := Aside0.mk ((BX.out.grow H22.out).grow HC.out)
                    have MXc := Aside0.mk (MX22.out.below HC.out)
                    clear SALL QB MX22 MA22 S1 S2 S3 BX BU22 BV MU22 MW H22 H1522 HC MX HB16 HB LN3 G1 G2 G3 G4 c0 c1 c2 u0 u1 u2 v0 v1 v2 y0 y1 y2
                    obtain ⟨o0, o1, o2⟩ := (HO15.out.grow H15.out).cells
                    obtain ⟨b0, b1, b2⟩ := (XB15.out.grow H15.out).cells
                    obtain ⟨q0, q1, q2⟩ := (XQ15.out.grow H15.out).cells
                    go_upto_region 26 with fail
                    have HROW := Aside0.mk (row3_new3 wc ⟨R2, C2, l2, A2, cc2⟩ ⟨m, c, b, Ab, cb⟩ ⟨m, m, sq, Aq, cq⟩)
                    obtain ⟨w30, hw30⟩ : ∃ w30, w30 = wc.alloc (.cells #[.int .i64 R2, .int .i64 C2, .slice A2 l2.length cc2, .int .i64 m, .int .i64 c, .slice Ab b.length cb, .int .i64 m, .int .i64 m, .slice Aq sq.length cq] 26) := ⟨_, rfl⟩
                    have hb := (show Below wc.heap.size wc w30 by rw [hw30]; exact (Below.refl _ _).alloc (Nat.le_refl _) _)
                    have HROW30 := Aside0.mk (show Row3 w30 wc.heap.size 3 (four ⟨R2, C2, l2, A2, cc2⟩ ⟨m, c, b, Ab, cb⟩ ⟨m, m, sq, Aq, cq⟩ ⟨m, m, sq, Aq, cq⟩) by rw [hw30]; exact HROW.out)
                    rw [← hw30]
                    have LB30 := Aside0.mk (LB15.out.grow (H15.out.trans (hb.mono H15.out.size)))
                    have BX30 := Aside0.mk (BXc.out.grow hb)
                    have MX30 := Aside0.mk (MXc.out.below hb)
                    have H30 := Aside0.mk (H15.out.trans (hb.mono H15.out.size))
                    clear hw30 hb HROW H15 BXc MXc o0 o1 o2 b0 b1 b2 q0 q1 q2
                    generalize wc.heap.size = b3 at HROW30 ⊢
                    obtain ⟨Y, hY⟩ : ∃ Y, Y = four ⟨R2, C2, l2, A2, cc2⟩ ⟨m, c, b, Ab, cb⟩ ⟨m, m, sq, Aq, cq⟩ ⟨m, m, sq, Aq, cq⟩ := ⟨_, rfl⟩
                    rw [← hY] at HROW30 LB30
                    clear hY
                    go_loopg [167] 3 (fun gk v167 wk => ∃ k : Nat, k ≤ 3 ∧ gk = 3 - k ∧ v167 = .int .i64 k ∧ Aside0 (Below w30.heap.size w30 wk))
                    case atStart =>
                      go_light
                      exact ⟨0, by decide, rfl, rfl, ⟨Below.refl _ _⟩⟩
                    case round =>
                      obtain ⟨k, hk, rfl, rfl, HB⟩ := hrel
                      have HBX := Aside0.mk (BX30.out.grow HB.out)
                      have HMX := Aside0.mk (MX30.out.below HB.out)
                      by_cases hk3 : k < 3
                      · have hk3' : (k : Int) < 3 := by omega
                        obtain ⟨f0, f1, f2⟩ := (HROW30.out.grow HB.out) k hk3
                        obtain ⟨mv, ml⟩ := (LB30.out.grow HB.out) k hk3
                        generalize Y k = y at f0 f1 f2 mv ml
                        obtain ⟨R', C', l', A', ck'⟩ := y
                        dsimp only at f0 f1 f2 mv ml
                        obtain ⟨r1, r2, r3, r4, g3, g4⟩ := prod_two R C R' C' l l' MLX.out ml
                        have G3 := Aside0.mk g3
                        have G4 := Aside0.mk g4
                        have MVY := Aside0.mk mv
                        clear g3 g4 mv ml
                        go_upto_region 28 with fail
                        obtain ⟨w31, hw31⟩ : ∃ w31, w31 = wr.alloc (.cells #[.int .i64 R', .int .i64 C', .slice A' l'.length ck'] 26) := ⟨_, rfl⟩
                        rw [← hw31]
                        have hb := (show Below wr.heap.size wr w31 by rw [hw31]; exact (Below.refl _ _).alloc (Nat.le_refl _) _)
                        have BY := Aside0.mk (show Box w31 wr.heap.size R' C' l' A' ck' by rw [hw31]; exact Box.new wr R' C' l' A' ck')
                        have BX1 := Aside0.mk (HBX.out.grow hb)
                        have MX1 := Aside0.mk (HMX.out.below hb)
                        have MY := Aside0.mk (MVY.out.below hb)
                        have HB31 := Aside0.mk (HB.out.trans (hb.mono HB.out.size))
                        clear hw31 hb f0 f1 f2 HBX HMX MVY
                        obtain ⟨by_, hby⟩ : ∃ by_, by_ = wr.heap.size := ⟨_, rfl⟩
                        rw [← hby] at BY ⊢
                        clear hby
                        obtain ⟨c0, c1, c2⟩ := BX1.out.cells
                        obtain ⟨d0, d1, d2⟩ := BY.out.cells
                        go_upto_region 29 with (go_at_call 27; (with_reducible refine (G3.out w31 A ck A' ck' MX1.out MY.out).mono ?_); rintro e w32 ⟨Au, cu, rfl, hu, hn3, hb⟩; have LN3 := Aside0.mk hn3; clear hn3; have HX := Aside0.mk (And.intro hu hb); clear hu hb)
                        obtain ⟨w33, hw33⟩ : ∃ w33, w33 = w32.alloc (.cells #[.int .i64 r1, .int .i64 r2, .slice Au r3.length cu] 26) := ⟨_, rfl⟩
                        rw [← hw33]
                        have hb := (show Below w32.heap.size w32 w33 by rw [hw33]; exact (Below.refl _ _).alloc (Nat.le_refl _) _)
                        have BU := Aside0.mk (show Box w33 w32.heap.size r1 r2 r3 Au cu by rw [hw33]; exact Box.new w32 r1 r2 r3 Au cu)
                        have MU := Aside0.mk (HX.out.1.below hb)
                        have H33 := Aside0.mk (HX.out.2.trans (hb.mono HX.out.2.size))
                        clear hw33 hb HX c0 c1 c2 d0 d1 d2
                        obtain ⟨bu', hbu⟩ : ∃ bu', bu' = w32.heap.size := ⟨_, rfl⟩
                        rw [← hbu] at BU ⊢
                        clear hbu
                        obtain ⟨c0, c1, c2⟩ := (BX1.out.grow H33.out).cells
                        obtain ⟨d0, d1, d2⟩ := (BY.out.grow H33.out).cells
                        go_upto_region 30 with (go_at_call 34; (with_reducible refine (G4.out w33 A ck A' ck' (MX1.out.below H33.out) (MY.out.below H33.out)).mono ?_); rintro e w34 ⟨Av, cv, rfl, hv, hn3, hb⟩; clear hn3; have HX := Aside0.mk (And.intro hv hb); clear hv hb)
                        obtain ⟨w35, hw35⟩ : ∃ w35, w35 = w34.alloc (.cells #[.int .i64 r1, .int .i64 r2, .slice Av r3.length cv] 26) := ⟨_, rfl⟩
                        rw [← hw35]
                        have hb := (show Below w34.heap.size w34 w35 by rw [hw35]; exact (Below.refl _ _).alloc (Nat.le_refl _) _)
                        have BV := Aside0.mk (show Box w35 w34.heap.size r1 r2 r3 Av cv by rw [hw35]; exact Box.new w34 r1 r2 r3 Av cv)
                        have MW := Aside0.mk (HX.out.1.below hb)
                        have hb2 := HX.out.2.trans (hb.mono HX.out.2.size)
                        have BU2 := Aside0.mk (BU.out.grow hb2)
                        have MU2 := Aside0.mk (MU.out.below hb2)
                        have H35 := Aside0.mk (HB31.out.trans ((H33.out.trans (hb2.mono H33.out.size)).mono HB31.out.size))
                        clear hw35 hb hb2 HX BU MU H33 HB31 c0 c1 c2 d0 d1 d2 G3 G4
                        obtain ⟨bv', hbv⟩ : ∃ bv', bv' = w34.heap.size := ⟨_, rfl⟩
                        rw [← hbv] at BV ⊢
                        clear hbv
                        obtain ⟨u0, u1, u2⟩ := BU2.out.cells
                        obtain ⟨v0, v1, v2⟩ := BV.out.cells
                        have s3 := (same_two r1 r2 r1 r2 r3 r3 LN3.out).2
                        rw [decide_eq_true ⟨rfl, rfl, rfl⟩] at s3
                        have S3 := Aside0.mk s3
                        clear s3
                        go_wp2_with (go_at_call 15; (with_reducible refine (S3.out w35 Au cu Av cv MU2.out MW.out).mono ?_); rintro e w36 ⟨rfl, hb⟩; have HX := Aside0.mk hb; clear hb)
                        go_roundg (3 - (k + 1))
                        case measure => go_light; omega
                        case rel =>
                          go_light
                          exact ⟨k + 1, by omega, rfl, by go_num, ⟨H35.out.trans (HX.out.mono H35.out.size)⟩⟩
                      · have hk3' : ¬ (k : Int) < 3 := by omega
                        have H40 := Aside0.mk (H30.out.trans (HB.out.mono H30.out.size))
                        have M340 := Aside0.mk (M315.out.below H40.out)
                        have M440 := Aside0.mk (M415.out.below H40.out)
                        clear HROW30 LB30 H30 HB BX30 MX30
                        go_upto_region 34 with fail
                        have HROW := Aside0.mk (row1_new wr ⟨q, A3, c3⟩ ⟨rows, A4, c4⟩)
                        obtain ⟨w40, hw40⟩ : ∃ w40, w40 = wr.alloc (.cells #[.slice A3 q.length c3, .slice A4 rows.length c4] 24) := ⟨_, rfl⟩
                        have hb := (show Below wr.heap.size wr w40 by rw [hw40]; exact (Below.refl _ _).alloc (Nat.le_refl _) _)
                        have HROW40 := Aside0.mk (show Row1 w40 wr.heap.size 2 (two ⟨q, A3, c3⟩ ⟨rows, A4, c4⟩) by rw [hw40]; exact HROW.out)
                        rw [← hw40]
                        have LQ40 := Aside0.mk (show ∀ i, i < 2 → MV w40 ((two ⟨q, A3, c3⟩ ⟨rows, A4, c4⟩) i).l ((two ⟨q, A3, c3⟩ ⟨rows, A4, c4⟩) i).A ((two ⟨q, A3, c3⟩ ⟨rows, A4, c4⟩) i).c from fun i _ => by
                          unfold two
                          split
                          · exact M340.out.below hb
                          · exact M440.out.below hb)
                        have BX40 := Aside0.mk (HBX.out.grow hb)
                        have MX40 := Aside0.mk (HMX.out.below hb)
                        have H41 := Aside0.mk (H40.out.trans (hb.mono H40.out.size))
                        clear hw40 hb HROW H40 HBX HMX M340 M440
                        generalize wr.heap.size = b4 at HROW40 ⊢
                        obtain ⟨Z, hZ⟩ : ∃ Z, Z = two ⟨q, A3, c3⟩ ⟨rows, A4, c4⟩ := ⟨_, rfl⟩
                        rw [← hZ] at HROW40 LQ40
                        clear hZ
                        go_loopg [197] 2 (fun gk v197 wk => ∃ k : Nat, k ≤ 2 ∧ gk = 2 - k ∧ v197 = .int .i64 k ∧ Aside0 (Below w40.heap.size w40 wk))
                        case atStart =>
                          go_light
                          exact ⟨0, by decide, rfl, rfl, ⟨Below.refl _ _⟩⟩
                        case round =>
                          obtain ⟨k, hk, rfl, rfl, HB⟩ := hrel
                          have BX1 := Aside0.mk (BX40.out.grow HB.out)
                          have MX1 := Aside0.mk (MX40.out.below HB.out)
                          by_cases hk2 : k < 2
                          · have hk2' : (k : Int) < 2 := by omega
                            have f0 := (HROW40.out.grow HB.out) k hk2
                            have mv := (LQ40.out k hk2).below HB.out
                            generalize Z k = y at f0 mv
                            obtain ⟨l', A', ck'⟩ := y
                            dsimp only at f0 mv
                            obtain ⟨r1, r2, r3, r4, g3, g4⟩ := pick_two R C l l' MLX.out
                            have G3 := Aside0.mk g3
                            have G4 := Aside0.mk g4
                            have MY := Aside0.mk mv
                            clear g3 g4 mv
                            obtain ⟨c0, c1, c2⟩ := BX1.out.cells
                            go_upto_region 37 with (go_at_call 24; (with_reducible refine (G3.out _ A ck A' ck' MX1.out MY.out).mono ?_); rintro e w32 ⟨Au, cu, rfl, hu, hn3, hb⟩; have LN3 := Aside0.mk hn3; clear hn3; have HX := Aside0.mk (And.intro hu hb); clear hu hb)
                            obtain ⟨w33, hw33⟩ : ∃ w33, w33 = w32.alloc (.cells #[.int .i64 r1, .int .i64 r2, .slice Au r3.length cu] 26) := ⟨_, rfl⟩
                            rw [← hw33]
                            have hb := (show Below w32.heap.size w32 w33 by rw [hw33]; exact (Below.refl _ _).alloc (Nat.le_refl _) _)
                            have BU := Aside0.mk (show Box w33 w32.heap.size r1 r2 r3 Au cu by rw [hw33]; exact Box.new w32 r1 r2 r3 Au cu)
                            have MU := Aside0.mk (HX.out.1.below hb)
                            have H33 := Aside0.mk (HX.out.2.trans (hb.mono HX.out.2.size))
                            clear hw33 hb HX c0 c1 c2 f0
                            obtain ⟨bu', hbu⟩ : ∃ bu', bu' = w32.heap.size := ⟨_, rfl⟩
                            rw [← hbu] at BU ⊢
                            clear hbu
                            obtain ⟨c0, c1, c2⟩ := (BX1.out.grow H33.out).cells
                            go_upto_region 38 with (go_at_call 35; (with_reducible refine (G4.out w33 A ck A' ck' (MX1.out.below H33.out) (MY.out.below H33.out)).mono ?_); rintro e w34 ⟨Av, cv, rfl, hv, hn3, hb⟩; clear hn3; have HX := Aside0.mk (And.intro hv hb); clear hv hb)
                            obtain ⟨w35, hw35⟩ : ∃ w35, w35 = w34.alloc (.cells #[.int .i64 r1, .int .i64 r2, .slice Av r3.length cv] 26) := ⟨_, rfl⟩
                            rw [← hw35]
                            have hb := (show Below w34.heap.size w34 w35 by rw [hw35]; exact (Below.refl _ _).alloc (Nat.le_refl _) _)
                            have BV := Aside0.mk (show Box w35 w34.heap.size r1 r2 r3 Av cv by rw [hw35]; exact Box.new w34 r1 r2 r3 Av cv)
                            have MW := Aside0.mk (HX.out.1.below hb)
                            have hb2 := HX.out.2.trans (hb.mono HX.out.2.size)
                            have BU2 := Aside0.mk (BU.out.grow hb2)
                            have MU2 := Aside0.mk (MU.out.below hb2)
                            have H35 := Aside0.mk (HB.out.trans ((H33.out.trans (hb2.mono H33.out.size)).mono HB.out.size))
                            clear hw35 hb hb2 HX BU MU H33 c0 c1 c2 G3 G4
                            obtain ⟨bv', hbv⟩ : ∃ bv', bv' = w34.heap.size := ⟨_, rfl⟩
                            rw [← hbv] at BV ⊢
                            clear hbv
                            obtain ⟨u0, u1, u2⟩ := BU2.out.cells
                            obtain ⟨v0, v1, v2⟩ := BV.out.cells
                            have s3 := (same_two r1 r2 r1 r2 r3 r3 LN3.out).2
                            rw [decide_eq_true ⟨rfl, rfl, rfl⟩] at s3
                            have S3 := Aside0.mk s3
                            clear s3
                            go_wp2_with (go_at_call 15; (with_reducible refine (S3.out w35 Au cu Av cv MU2.out MW.out).mono ?_); rintro e w36 ⟨rfl, hb⟩; have HX := Aside0.mk hb; clear hb)
                            go_roundg (2 - (k + 1))
                            case measure => go_light; omega
                            case rel =>
                              go_light
                              exact ⟨k + 1, by omega, rfl, by go_num, ⟨H35.out.trans (HX.out.mono H35.out.size)⟩⟩
                          · have hk2' : ¬ (k : Int) < 2 := by omega
                            go_wp2
                            go_roundg (4 - (i + 1))
                            case measure => go_light; omega
                            case rel =>
                              go_light
                              exact ⟨i + 1, by omega, rfl, by go_num, ⟨H41.out.trans (HB.out.mono H41.out.size)⟩⟩
                · have hi4' : ¬ (i : Int) < 4 := by omega
                  go_wp2
                  go_ret
                  exact ⟨rfl, W15.out.trans (HB.out.mono W15.out.size)⟩
      · have e3 : decide ((l2.length : Int) ≤ 400) = false := decide_eq_false k3
        have HK3 := Aside0.mk k3
        clear k3
        go_wp2_with (first | (go_at_call 19; (with_reducible refine (FEW.out _ HB2.out).mono ?_); rw [e1]; rintro e w' ⟨rfl, ⟨nd, rfl⟩⟩) | (go_at_call 29; (with_reducible refine (SM1.out _ (belowN HB2.out _)).mono ?_); rw [e2]; rintro e w3 ⟨rfl, hb⟩; obtain ⟨d0, d1, d2⟩ := (Box.grow (w := w2.drewN nd) HO2.out hb).cells; have HX := Aside0.mk hb; clear hb) | (go_at_call 29; (refine (SM2.out _ ((belowN HB2.out nd).trans (HX.out.mono HB2.out.size))).mono ?_); rw [e3]; rintro e w4 ⟨rfl, hb⟩; have HY := Aside0.mk hb; clear hb))
        go_ret
        exact ⟨rfl, ((belowN HB2.out nd).trans (HX.out.mono HB2.out.size)).trans (HY.out.mono (Nat.le_trans HB2.out.size HX.out.size))⟩
    · have e2 : decide ((l1.length : Int) ≤ 400) = false := decide_eq_false k2
      have HK2 := Aside0.mk k2
      clear k2
      go_wp2_with (first | (go_at_call 19; (with_reducible refine (FEW.out _ HB2.out).mono ?_); rw [e1]; rintro e w' ⟨rfl, ⟨nd, rfl⟩⟩) | (go_at_call 29; (with_reducible refine (SM1.out _ (belowN HB2.out _)).mono ?_); rw [e2]; rintro e w3 ⟨rfl, hb⟩; have HX := Aside0.mk hb; clear hb))
      go_ret
      exact ⟨rfl, (belowN HB2.out nd).trans (HX.out.mono HB2.out.size)⟩
  · have e1 : decide ((s.length : Int) ≤ 500) = false := decide_eq_false k1
    have HK := Aside0.mk k1
    clear k1
    go_wp2_with (first | (go_at_call 19; (with_reducible refine (FEW.out _ HB2.out).mono ?_); rw [e1]; rintro e w' ⟨rfl, ⟨nd, rfl⟩⟩))
    go_ret
    exact ⟨rfl, belowN HB2.out _⟩
end Go.Proofs.Ytbdbfnkjbbbmdaa.MatMatrixDoes
