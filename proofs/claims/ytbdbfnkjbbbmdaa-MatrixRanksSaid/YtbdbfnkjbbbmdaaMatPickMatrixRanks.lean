/- The walk of the law's own pick: it chooses different numbers below a limit, by a deck. -/
import Derived.Test.YtbdbfnkjbbbmdaaMatDeckMatrixRanks
import Derived.Test.YtbdbfnkjbbbmdaaMatCloneMatrixRanks
import Derived.Deep.AppendLies
import Derived.Deep.RegionLaw
import Derived.Deep.RegionLawGrows
namespace Go.Proofs.Ytbdbfnkjbbbmdaa.PMatrixRanks
open Go.RowKit Go.Proofs.YtbdbfnkjbbbmdaaW.PrintWords Go.Proofs.YtbdbfnkjbbbmdaaW.PrintLast Go.Proofs.Ytbdbfnkjbbbmdaa.MatMatrixRanks
/-- The numbers chosen, out of those that are left. -/
def pickLoop : Nat → List Int → Int → List Int → List Int → Option (List Int × Int)
  | 0, _, p, _, out => some (out, p)
  | m + 1, s, p, rest, out => (storagebartermake_Deck_Next.f s p (rest.length : Int)).bind fun t => pickLoop m s t.2 (rest.eraseIdx t.1.toNat) (out ++ [rd rest t.1])
def upTo (n : Nat) : List Int := (List.range n).map fun t : Nat => (t : Int)
def storagebarterlaw06_pick.f (s0_0 : List Int) (s0_1 : Int) (a1 : Int) (a2 : Int) : Option (List Int × Int) :=
  if 0 ≤ a2 ∧ a2 ≤ a1 ∧ a1 ≤ 64 then pickLoop a2.toNat s0_0 s0_1 (upTo a1.toNat) [] else none
end Go.Proofs.Ytbdbfnkjbbbmdaa.PMatrixRanks
namespace Go.Proofs.Ytbdbfnkjbbbmdaa.MatMatrixRanks
set_option linter.unusedSimpArgs false
set_option linter.unusedVariables false
open Go.RowKit Go.Proofs.Ytbdbfnkjbbbmdaa.PMatrixRanks Go.Proofs.YtbdbfnkjbbbmdaaW.PrintWords Go.Proofs.YtbdbfnkjbbbmdaaW.PrintLast Go.Proofs.Ytbdbfnkjbbbmdaa.MatMem
/-- What is left to choose from: read alone. -/
structure Held (w : World) (base : Nat) (v : Value) (l : List Int) : Prop where
  form : 0 < l.length → ∃ b c, v = .slice (some ⟨b, 0, none⟩) l.length c ∧ l.length ≤ c ∧ base ≤ b ∧ b < w.heap.size ∧ ∀ j, j < l.length → w.cell? ⟨b, j, none⟩ = some (.int .i64 (l.getD j 0))
theorem Held.same {w w1 : World} {base : Nat} {v : Value} {l : List Int} (h : Held w base v l) (hs : w.heap.size ≤ w1.heap.size) (e : ∀ k, base ≤ k → k < w.heap.size → w1.heap[k]? = w.heap[k]?) : Held w1 base v l := by
  refine ⟨fun hp => ?_⟩
  obtain ⟨b, c, hv, hc, hb, hlt, hcells⟩ := h.form hp
  exact ⟨b, c, hv, hc, hb, by omega, fun j hj => (World.cell?_of_block (w := w) (w' := w1) (a := ⟨b, j, none⟩) (e b hb hlt)).trans (hcells j hj)⟩
theorem Held.of_own {w : World} {base : Nat} {v : Value} {l : List Int} (h : w.ownsRow base 3 1 v l.length (nums .i64 l)) : Held w base v l := by
  refine ⟨fun hp => ?_⟩
  rcases h.2 with ⟨_, h0⟩ | ⟨g, cap, cur, rfl, r1, r2, r3, r4, r5, r6⟩
  · omega
  · refine ⟨g, cap, rfl, r3, r1, (Array.getElem?_eq_some_iff.1 r2).1, fun j hj => ?_⟩
    have := h.cells (g := g) rfl j (.int .i64 (l.getD j 0)) (by simp [nums, List.getD_eq_getElem?_getD, hj])
    rwa [Addr.add_lit, Nat.zero_add] at this
/-- What pick leaves. -/
def PickEnd (g : Nat) (s : List Int) (r1 : List Int) (r2 : Int) (w0 w : World) (e : Ending) (w' : World) : Prop :=
  ∃ v0 : Value, e = .returned v0 ∧ w'.ownsRow w.heap.size 3 1 v0 r1.length (nums .i64 r1) ∧ IsS56 w0 w' g s r2 ∧ Below w0.heap.size w0 w' ∧ KeepBut w w' g none
set_option maxHeartbeats 2000000 in
theorem pick_any (g : Nat) (s : List Int) (p : Int) (L n : Nat) (r1 : List Int) (r2 : Int) (w0 w : World) (hI : IsS56 w0 w g s p) (hB : Below w0.heap.size w0 w) (hL : L ≤ 64) (hn : n ≤ L) (h : pickLoop n s p (upTo L) [] = some (r1, r2)) :
    Calls Try.prog 23 #[.pointer (some ⟨g, 0, none⟩), .int .i64 (L : Int), .int .i64 (n : Int)] w (PickEnd g s r1 r2 w0 w) := by
  have HI := Aside0.mk hI
  have HB := Aside0.mk hB
  have H := Aside0.mk h
  clear hI hB h
  obtain ⟨i3, hi, hz0, hz1, hz2⟩ := info_parts info3'
  have HI3 := Aside0.mk (And.intro hi (And.intro hz0 (And.intro hz1 hz2)))
  clear hi hz0 hz1 hz2
  go_enter Try.func23, Try.ntmps23
  go_upto_block 0 with fail
  go_cut [7] (fun v7 wc => Aside0 (wc.ownsRow w.heap.size 3 1 v7 (upTo L).length (nums .i64 (upTo L))) ∧ Aside0 (Below w.heap.size w wc))
  case first =>
    go_wp2_with fail
    go_loopg [7, 12] L (fun gk v7 v12 wr => ∃ i : Nat, i ≤ L ∧ gk = L - i ∧ v12 = .int .i64 i ∧ Aside0 (wr.ownsRow w.heap.size 3 1 v7 i (nums .i64 (upTo i))) ∧ Aside0 (Below w.heap.size w wr))
    case atStart =>
      go_light
      exact ⟨0, Nat.zero_le _, rfl, rfl, ⟨own_nil _ _ _ _⟩, ⟨Below.refl _ _⟩⟩
    case round =>
      obtain ⟨i, hi, rfl, rfl, HO, HB1⟩ := hrel
      by_cases hiL : i < L
      · have hiL' : (i : Int) < (L : Int) := by omega
        go_wp2_with (at_builtin; refine wpList_append_lies _ rfl (.tmp 15) (.tmp 17) 24 rfl w.heap.size 3 i3 (.int .i64 0) 1 8 Try.underlying24 HI3.out.1 HI3.out.2.1 HI3.out.2.2.1 HI3.out.2.2.2 rfl Nat.one_pos u7 i (nums .i64 (upTo i)) rfl (HO.out.alloc _) ⟨wr.heap.size, 0, none⟩ 1 1 [.int .i64 (i : Int)] rfl rfl ?c1 ?c2 Nat.one_pos ?c3 ?c4 ?c5 _ rfl ?_)
        case c1 =>
          intro j u hu
          rw [Addr.add_lit]
          obtain ⟨rfl, rfl⟩ : j = 0 ∧ u = .int .i64 (i : Int) := by
            rcases j with _ | j
            · exact ⟨rfl, by simpa using hu.symm⟩
            · simp at hu
          simp [World.cell?_alloc_new]
        case c2 =>
          intro u hu
          rw [List.mem_singleton.1 hu]
          rfl
        case c3 => simp [maxLen]; omega
        case c4 => omega
        case c5 => have := HB1.out.size; simp; omega
        intro g1 cap1 w1 hown hgr hat hlt
        have HX := Aside0.mk (And.intro hown hgr)
        clear hown hgr hat hlt
        go_wp2
        go_roundg (L - (i + 1))
        case measure => go_light; omega
        case rel =>
          go_light
          obtain ⟨hown, hgr⟩ := HX.out
          refine ⟨i + 1, by omega, rfl, by go_num, ⟨?_⟩, ⟨(HB1.out.alloc HB1.out.size _).grown hgr (by have := HB1.out.size; simp; omega) (fun k hk => own_base HO.out k hk)⟩⟩
          have e : nums .i64 (upTo (i + 1)) = nums .i64 (upTo i) ++ [.int .i64 (i : Int)] := by simp [nums, upTo, List.range_succ]
          rw [e]
          exact hown
      · have hiL' : ¬ (i : Int) < (L : Int) := by omega
        go_wp2
        go_meet
        case rel =>
          go_light
          obtain rfl : i = L := by omega
          have e : (upTo i).length = i := by simp [upTo]
          rw [e]
          exact ⟨HO, HB1⟩
  case rest =>
    obtain ⟨HO, HB1⟩ := hcut
    go_wp2_with fail
    go_loopg [7, 8] n (fun m v7 v8 wr => ∃ (q : Int) (rest out : List Int) (A7 A8 : Option Addr) (c7 c8 : Nat), Aside0 (pickLoop m s q rest out = some (r1, r2)) ∧ m + out.length = n ∧ rest.length + out.length = L ∧ v7 = .slice A7 rest.length c7 ∧ v8 = .slice A8 out.length c8 ∧ Aside0 (Held wr w.heap.size (.slice A7 rest.length c7) rest) ∧ Aside0 (∀ b, A7 = some ⟨b, 0, none⟩ → (Value.slice A8 out.length c8).ownBlock ≠ some b) ∧ Aside0 (wr.ownsRow w.heap.size 3 1 (.slice A8 out.length c8) out.length (nums .i64 out)) ∧ Aside0 (IsS56 w0 wr g s q) ∧ Aside0 (Below w0.heap.size w0 wr) ∧ Aside0 (KeepBut w wr g none))
    case atStart =>
      go_light
      have e : (upTo L).length = L := by simp [upTo]
      have hk : ∃ A c, u7 = Value.slice A (upTo L).length c := by
        rcases HO.out.2 with ⟨hv, h0⟩ | ⟨g', cap, cur, hv, _⟩
        · exact ⟨none, 0, by rw [hv, h0]⟩
        · exact ⟨_, cap, hv⟩
      obtain ⟨A, c, rfl⟩ := hk
      exact ⟨p, upTo L, [], A, none, c, 0, H, rfl, by simp [e], rfl, rfl, ⟨Held.of_own HO.out⟩, ⟨fun b _ => by simp [Value.ownBlock]⟩, ⟨own_nil _ _ _ _⟩, ⟨HI.out.below (HB1.out)⟩, ⟨HB.out.trans (HB1.out.mono HB.out.size)⟩, ⟨KeepBut.of_below HB1.out g none⟩⟩
    case round =>
      clear HO HB1 H
      obtain ⟨q, rest, out, A7, A8, c7, c8, HA, hm, hr, rfl, rfl, HH, HNE, HO2, HI2, HB2, HK2⟩ := hrel
      cases gk with
      | zero =>
        have hx : ¬ (out.length : Int) < (n : Int) := by omega
        go_wp2
        go_ret
        go_light
        have hA := HA.out
        simp only [pickLoop, Option.some.injEq, Prod.mk.injEq] at hA
        obtain ⟨rfl, rfl⟩ := hA
        exact ⟨_, rfl, HO2.out, HI2.out, HB2.out, HK2.out⟩
      | succ m =>
        have hx : (out.length : Int) < (n : Int) := by omega
        obtain ⟨b, c, hv, hc, hb, hlt, hcells⟩ := HH.out.form (by omega)
        cases hv
        have hA := HA.out
        simp only [pickLoop] at hA
        obtain ⟨⟨t, q'⟩, hN, hA⟩ := Option.bind_eq_some_iff.1 hA
        have HA' := Aside0.mk hA
        have HN := Aside0.mk hN
        obtain ⟨ht0, ht1⟩ := next_lt (by omega) (by omega) hN
        obtain ⟨j, rfl⟩ : ∃ j : Nat, t = j := ⟨t.toNat, by omega⟩
        have hj : j < rest.length := by omega
        have HC := Aside0.mk hcells
        have HCC := Aside0.mk (And.intro hc (And.intro hb hlt))
        clear hA hN hcells hc hb hlt HA HH
        have hgw := IsS56.lt HI.out
        have HGW := Aside0.mk hgw
        clear hgw
        go_upto_region 9 with (go_at_call 22; (with_reducible refine (storagebartermake_Deck_Next.calls g s q (rest.length : Int) (j : Int) q' w0 _ HI2.out HB2.out HN.out).mono ?_); rintro e w' ⟨rfl, hI', hB', hK'⟩; have HX := Aside0.mk (And.intro hI' (And.intro hB' hK')); clear hI' hB' hK')
        have hbg : b ≠ g := by
          have h1 := HGW.out
          have h2 := HCC.out.2.1
          have h3 := HK2.out.1
          omega
        have hown : w'.ownsRow w.heap.size 3 1 (.slice A8 out.length c8) out.length (nums .i64 out) := by
          refine HX.out.2.2.own HO2.out (fun e => ?_) ?_
          · have h1 := own_base HO2.out g e
            have h2 := HGW.out
            omega
          · cases hov : (Value.slice A8 out.length c8).ownBlock with
            | none => exact .inl rfl
            | some k => exact .inr (by simp)
        have hsz : wr.heap.size ≤ w'.heap.size := HX.out.2.2.1
        have hwz : w.heap.size ≤ wr.heap.size := HK2.out.1
        have HOW := Aside0.mk hown
        have HCW := Aside0.mk (show ∀ i, i < rest.length → w'.cell? ⟨b, i, none⟩ = some (.int .i64 (rest.getD i 0)) from fun i hi => (World.cell?_of_block (w := wr) (w' := w') (a := ⟨b, i, none⟩) (HX.out.2.2.2 b HCC.out.2.2 hbg (by simp))).trans (HC.out i hi))
        have HSZ := Aside0.mk (And.intro hsz hwz)
        obtain ⟨x, hx1⟩ : ∃ x, rest.getD j 0 = x := ⟨_, rfl⟩
        have k1 := HCW.out j hj
        rw [hx1] at k1
        have HX0 := Aside0.mk hx1
        clear hx1
        have HBG := Aside0.mk hbg
        clear hown hsz hwz hbg HC HI2 HB2
        have hjL : (j : Int) < (rest.length : Int) := by omega
        have hj0 : 0 ≤ (j : Int) := by omega
        go_upto_region 10 with (at_builtin; (refine wpList_append_lies _ rfl (.tmp 28) (.tmp 33) 24 rfl w.heap.size 3 i3 (.int .i64 0) 1 8 Try.underlying24 HI3.out.1 HI3.out.2.1 HI3.out.2.2.1 HI3.out.2.2.2 rfl Nat.one_pos (.slice A8 out.length c8) out.length (nums .i64 out) rfl (HOW.out.alloc _) ⟨w'.heap.size, 0, none⟩ 1 1 [.int .i64 x] rfl rfl ?c1 ?c2 Nat.one_pos ?c3 ?c4 ?c5 _ rfl ?_))
        case c1 =>
          intro i u hu
          rw [Addr.add_lit]
          obtain ⟨rfl, rfl⟩ : i = 0 ∧ u = .int .i64 x := by
            rcases i with _ | i
            · exact ⟨rfl, by simpa using hu.symm⟩
            · simp at hu
          simp [World.cell?_alloc_new]
        case c2 =>
          intro u hu
          rw [List.mem_singleton.1 hu]
          rfl
        case c3 => simp [maxLen]; omega
        case c4 => omega
        case c5 => have := HSZ.out; simp; omega
        intro g1 cap1 w1 hown1 hgr1 hat1 hlt1
        have HX1 := Aside0.mk (And.intro hown1 (And.intro hgr1 (And.intro hat1 hlt1)))
        clear hown1 hgr1 hat1 hlt1 k1
        have hg1b : g1 ≠ b := by
          intro e
          rcases HX1.out.2.2.1 with h1 | h1
          · exact HNE.out b rfl (by rw [h1, e])
          · have h2 := HCC.out.2.2
            have h3 := HSZ.out.1
            omega
        have HC1 := Aside0.mk (show ∀ i, i < rest.length → w1.cell? ⟨b, i, none⟩ = some (.int .i64 (rest.getD i 0)) from fun i hi => by
          have h2 := HCC.out.2.2
          have h3 := HSZ.out.1
          have e : w1.heap[b]? = (w'.alloc (.cells #[.int .i64 x] 3)).heap[b]? := HX1.out.2.1.block b (by simp; omega) (fun h => HNE.out b rfl h.symm)
          rw [World.cell?_of_block (w := w'.alloc (.cells #[.int .i64 x] 3)) (w' := w1) (a := ⟨b, i, none⟩) e, World.cell?_alloc_old _ _ _ (by show b ≠ w'.heap.size; omega)]
          exact HCW.out i hi)
        have COM := Aside0.mk (show IsS56 w0 w1 g s q' ∧ Below w0.heap.size w0 w1 ∧ KeepBut w w1 g none by
          have hlow : ∀ k, (Value.slice A8 out.length c8).ownBlock = some k → w.heap.size ≤ k := fun k hk => own_base HO2.out k hk
          have h1 := HGW.out
          have h2 := HB.out.size
          have h3 := HSZ.out
          refine ⟨(HX.out.1.alloc _).grown HX1.out.2.1 (fun e => ?_), (HX.out.2.1.alloc HX.out.2.1.size _).grown HX1.out.2.1 ?_ (fun k hk => ?_), ?_⟩
          · have := hlow g e.symm
            omega
          · have := HX.out.2.1.size
            simp; omega
          · have := hlow k hk
            omega
          · refine KeepBut.trans (keep_alloc (HK2.out.trans HX.out.2.2 (.inl rfl)) _) (KeepBut.of_grown HX1.out.2.1 g) ?_
            cases hov : (Value.slice A8 out.length c8).ownBlock with
            | none => exact .inl rfl
            | some k => exact .inr ⟨k, rfl, hlow k hov⟩)
        have hs1 : w'.heap.size + 1 ≤ w1.heap.size := by have := HX1.out.2.1.size; simpa using this
        have HS1 := Aside0.mk hs1
        have HG1 := Aside0.mk hg1b
        clear hg1b hs1
        have hjc : j ≤ c7 := by have := HCC.out.1; omega
        have hrc : rest.length ≤ c7 := HCC.out.1
        have hwr : IntKind.i64.wrap ((j : Int) + 1) = (j : Int) + 1 := by rw [IntKind.wrap_i64]; omega
        have hp0 : (0 : Int) ≤ (j : Int) + 1 := by omega
        have hp1 : (j : Int) + 1 ≤ (rest.length : Int) := by omega
        have hp2 : ((j : Int) + 1).toNat = j + 1 := by omega
        obtain ⟨A, hA⟩ : ∃ A : Option Addr, A = (if c7 = j + 1 then some ⟨b, 0, none⟩ else some ⟨b, j + 1, none⟩) := ⟨_, rfl⟩
        go_upto_region 10 with fail
        by_cases hlast : j + 1 < rest.length
        · have hne1 : ¬ c7 = j + 1 := by omega
          rw [if_neg hne1] at hA
          subst hA
          have holds : Aside0 (∀ b', (some (⟨b, 0, none⟩ : Addr)) = some b' → ∀ i u, (nums .i64 (rest.take j))[i]? = some u → w1.drew.cell? (b'.add i) = some u) := by
            refine ⟨fun b' e i u hu => ?_⟩
            cases e
            rw [Addr.add_lit, Nat.zero_add]
            have hi : i < j := by have := (List.getElem?_eq_some_iff.1 hu).1; simp [nums] at this; omega
            rw [show w1.drew.cell? ⟨b, i, none⟩ = w1.cell? ⟨b, i, none⟩ from rfl, HC1.out i (by omega), ← hu]
            simp [nums, List.getD_eq_getElem?_getD, hi, show i < rest.length by omega]
          have hnews : Aside0 (∀ i u, (nums .i64 (rest.drop (j + 1)))[i]? = some u → w1.drew.cell? ((⟨b, j + 1, none⟩ : Addr).add i) = some u) := by
            refine ⟨fun i u hu => ?_⟩
            rw [Addr.add_lit]
            have hi : i < rest.length - (j + 1) := by have := (List.getElem?_eq_some_iff.1 hu).1; simpa [nums] using this
            rw [show w1.drew.cell? ⟨b, j + 1 + i, none⟩ = w1.cell? ⟨b, j + 1 + i, none⟩ from rfl, HC1.out (j + 1 + i) (by omega), ← hu]
            simp [nums, List.getD_eq_getElem?_getD, show j + 1 + i < rest.length by omega]
          have hone : Aside0 (∀ u ∈ nums .i64 (rest.drop (j + 1)), u.oneCell' = true) := ⟨fun u hu => by
            obtain ⟨y, _, rfl⟩ := List.mem_map.1 hu
            rfl⟩
          go_region_law (refine step_append_grows rfl (.tmp 38) (.tmp 42) 24 rfl 3 i3 (.int .i64 0) 1 8 Try.underlying24 HI3.out.1 HI3.out.2.1 HI3.out.2.2.1 HI3.out.2.2.2 rfl Nat.one_pos (some ⟨b, 0, none⟩) j j (nums .i64 (rest.take j)) (by simp [Act.eval, Act.put]) (fun e => by cases e) (by simp [nums]; omega) holds.out ⟨b, j + 1, none⟩ (rest.length - (j + 1)) (c7 - (j + 1)) (nums .i64 (rest.drop (j + 1))) (by simp [Act.eval, Act.put, hne1]) (by simp [nums]) hnews.out hone.out (by omega) (by simp [maxLen]; omega) (by omega) ?_; intro v3 w3 hown3 hgr3; have HX3 := Aside0.mk (And.intro hown3 hgr3); clear hown3 hgr3)
          go_wp2
          go_roundg m
          case measure => go_light; omega
          case rel =>
            go_light
            obtain ⟨hown3, hgr3⟩ := HX3.out
            have her : rest.take j ++ rest.drop (j + 1) = rest.eraseIdx j := (List.eraseIdx_eq_take_drop_succ rest j).symm
            have hlen : (rest.eraseIdx j).length = j + (rest.length - (j + 1)) := by
              rw [List.length_eraseIdx_of_lt hj]; omega
            have hown4 : w3.ownsRow w1.heap.size 3 1 v3 (rest.eraseIdx j).length (nums .i64 (rest.eraseIdx j)) := by
              rw [hlen, ← her]
              have e : nums .i64 (rest.take j ++ rest.drop (j + 1)) = nums .i64 (rest.take j) ++ nums .i64 (rest.drop (j + 1)) := by simp [nums]
              rw [e]
              exact hown3
            have hsw : w.heap.size ≤ w1.heap.size := by
              have a1 := HS1.out
              have a2 := HSZ.out
              omega
            obtain ⟨b3, cap3, hv3, hb3, hlt3⟩ := hown4.form (by rw [hlen]; omega)
            refine ⟨q', rest.eraseIdx j, out ++ [x], some ⟨b3, 0, none⟩, some ⟨g1, 0, none⟩, cap3, cap1, ?_, by simp; omega, by simp; omega, hv3, by simp, ⟨?_⟩, ⟨fun b4 hb4 => ?_⟩, ⟨?_⟩, ⟨?_⟩, ⟨?_⟩, ⟨?_⟩⟩
            · have a := HA'.out
              have e : rd rest (j : Int) = x := HX0.out
              rw [e] at a
              exact ⟨a⟩
            · rw [← hv3]
              exact Held.of_own (own_weaken hown4 hsw)
            · cases hb4
              have a := HX1.out.2.2.2
              simp [Value.ownBlock]
              omega
            · have e : nums .i64 (out ++ [x]) = nums .i64 out ++ [.int .i64 x] := by simp [nums]
              rw [e, List.length_append]
              exact (HX1.out.1.drew).kept hgr3 (.inr (by simp [Value.ownBlock]))
            · exact COM.out.1.drew.grown hgr3 (by simp)
            · exact COM.out.2.1.drew.grown hgr3 COM.out.2.1.size (fun k hk => by cases hk)
            · exact KeepBut.trans (keep_drew COM.out.2.2) (KeepBut.of_grown hgr3 g) (.inl rfl)
        · obtain hje : j + 1 = rest.length := by omega
          by_cases hcc : c7 = j + 1
          · have hcc2 : c7 = rest.length := by omega
            have hjr : j ≤ rest.length := by omega
            go_region_law (refine step_append_room rfl (.tmp 38) (.tmp 42) 24 rfl 3 i3 1 Try.underlying24 HI3.out.1 HI3.out.2.2.1 b 0 j j (by simp [Act.eval, Act.put]) ⟨b, 0, none⟩ 0 (c7 - (j + 1)) [] (by simp [Act.eval, Act.put, hje, hcc2]) rfl (fun i u hu => by simp at hu) (fun u hu => by simp at hu) (Nat.le_refl _) (fun i hi => by simp at hi) ?_)
            go_wp2
            go_roundg m
            case measure => go_light; omega
            case rel =>
              go_light
              have her : rest.eraseIdx j = rest.take j := by
                rw [List.eraseIdx_eq_take_drop_succ, List.drop_eq_nil_of_le (by omega), List.append_nil]
              have hlen : (rest.eraseIdx j).length = j := by
                rw [List.length_eraseIdx_of_lt hj]; omega
              have hsw : w.heap.size ≤ w1.heap.size := by
                have a1 := HS1.out
                have a2 := HSZ.out
                omega
              have hwc : w1.drew.setCells b j [] = w1.drew := rfl
              rw [hwc]
              refine ⟨q', rest.eraseIdx j, out ++ [x], some ⟨b, 0, none⟩, some ⟨g1, 0, none⟩, j, cap1, ?_, by simp; omega, by simp; omega, by rw [hlen], by simp, ⟨?_⟩, ⟨fun b4 hb4 => ?_⟩, ⟨?_⟩, ⟨COM.out.1.drew⟩, ⟨COM.out.2.1.drew⟩, ⟨keep_drew COM.out.2.2⟩⟩
              · have a := HA'.out
                have e : rd rest (j : Int) = x := HX0.out
                rw [e] at a
                exact ⟨a⟩
              · refine ⟨fun hp => ⟨b, j, rfl, by rw [hlen]; exact Nat.le_refl _, HCC.out.2.1, ?_, fun i hi => ?_⟩⟩
                · have a1 := HS1.out
                  have a2 := HSZ.out
                  have a3 := HCC.out.2.2
                  show b < w1.heap.size
                  omega
                · rw [hlen] at hi
                  show w1.cell? ⟨b, i, none⟩ = _
                  rw [HC1.out i (by omega), her]
                  simp [List.getD_eq_getElem?_getD, hi]
              · cases hb4
                have a := HG1.out
                simp [Value.ownBlock]
                exact a
              · have e : nums .i64 (out ++ [x]) = nums .i64 out ++ [.int .i64 x] := by simp [nums]
                rw [e, List.length_append]
                exact HX1.out.1.drew
          · have hcc2 : ¬ c7 = rest.length := by omega
            go_region_law (refine step_append_room rfl (.tmp 38) (.tmp 42) 24 rfl 3 i3 1 Try.underlying24 HI3.out.1 HI3.out.2.2.1 b 0 j j (by simp [Act.eval, Act.put]) ⟨b, j + 1, none⟩ 0 (c7 - (j + 1)) [] (by simp [Act.eval, Act.put, hje, hcc2]) rfl (fun i u hu => by simp at hu) (fun u hu => by simp at hu) (Nat.le_refl _) (fun i hi => by simp at hi) ?_)
            go_wp2
            go_roundg m
            case measure => go_light; omega
            case rel =>
              go_light
              have her : rest.eraseIdx j = rest.take j := by
                rw [List.eraseIdx_eq_take_drop_succ, List.drop_eq_nil_of_le (by omega), List.append_nil]
              have hlen : (rest.eraseIdx j).length = j := by
                rw [List.length_eraseIdx_of_lt hj]; omega
              have hsw : w.heap.size ≤ w1.heap.size := by
                have a1 := HS1.out
                have a2 := HSZ.out
                omega
              have hwc : w1.drew.setCells b j [] = w1.drew := rfl
              rw [hwc]
              refine ⟨q', rest.eraseIdx j, out ++ [x], some ⟨b, 0, none⟩, some ⟨g1, 0, none⟩, j, cap1, ?_, by simp; omega, by simp; omega, by rw [hlen], by simp, ⟨?_⟩, ⟨fun b4 hb4 => ?_⟩, ⟨?_⟩, ⟨COM.out.1.drew⟩, ⟨COM.out.2.1.drew⟩, ⟨keep_drew COM.out.2.2⟩⟩
              · have a := HA'.out
                have e : rd rest (j : Int) = x := HX0.out
                rw [e] at a
                exact ⟨a⟩
              · refine ⟨fun hp => ⟨b, j, rfl, by rw [hlen]; exact Nat.le_refl _, HCC.out.2.1, ?_, fun i hi => ?_⟩⟩
                · have a1 := HS1.out
                  have a2 := HSZ.out
                  have a3 := HCC.out.2.2
                  show b < w1.heap.size
                  omega
                · rw [hlen] at hi
                  show w1.cell? ⟨b, i, none⟩ = _
                  rw [HC1.out i (by omega), her]
                  simp [List.getD_eq_getElem?_getD, hi]
              · cases hb4
                have a := HG1.out
                simp [Value.ownBlock]
                exact a
              · have e : nums .i64 (out ++ [x]) = nums .i64 out ++ [.int .i64 x] := by simp [nums]
                rw [e, List.length_append]
                exact HX1.out.1.drew
end Go.Proofs.Ytbdbfnkjbbbmdaa.MatMatrixRanks
namespace Go.Proofs.Ytbdbfnkjbbbmdaa.PMatrixRanks
open Go.RowKit Go.Proofs.YtbdbfnkjbbbmdaaW.PrintWords Go.Proofs.YtbdbfnkjbbbmdaaW.PrintLast Go.Proofs.Ytbdbfnkjbbbmdaa.MatMatrixRanks
theorem storagebarterlaw06_pick.calls (g : Nat) (s0_0 : List Int) (s0_1 : Int) (a1 : Int) (a2 : Int) (r1 : List Int) (r2 : Int) (w0 w : World) (hI : IsS56 w0 w g s0_0 s0_1) (hB : Below w0.heap.size w0 w) (h : storagebarterlaw06_pick.f s0_0 s0_1 a1 a2 = some (r1, r2)) :
    Calls Try.prog 23 #[.pointer (some ⟨g, 0, none⟩), .int .i64 a1, .int .i64 a2] w fun e w' => ∃ v0_ : Value, e = .returned (v0_) ∧ Kd.R (Kd.int .i64) 3 w' w.heap.size (fun _ => True) v0_ r1 ∧ IsS56 w0 w' g s0_0 r2 ∧ Below w0.heap.size w0 w' ∧ KeepBut w w' g none := by
  unfold storagebarterlaw06_pick.f at h
  by_cases hc : 0 ≤ a2 ∧ a2 ≤ a1 ∧ a1 ≤ 64
  · rw [if_pos hc] at h
    obtain ⟨L, rfl⟩ : ∃ L : Nat, a1 = L := ⟨a1.toNat, by omega⟩
    obtain ⟨n, rfl⟩ : ∃ n : Nat, a2 = n := ⟨a2.toNat, by omega⟩
    refine (pick_any g s0_0 s0_1 L n r1 r2 w0 w hI hB (by omega) (by omega) (by simpa using h)).mono ?_
    rintro e w' ⟨v0, rfl, hown, hI', hB', hK'⟩
    exact ⟨v0, rfl, R_of_own hown, hI', hB', hK'⟩
  · rw [if_neg hc] at h
    cases h
end Go.Proofs.Ytbdbfnkjbbbmdaa.PMatrixRanks
