/- The walk of ref06.reduce: it brings a matrix, with a second one beside it, to the reduced form, and returns the rank. -/
import Derived.Test.YtbdbfnkjbbbmdaaRefRowsMatrixDoes
namespace Go.Proofs.Ytbdbfnkjbbbmdaa.MatMatrixDoes
set_option linter.unusedSimpArgs false
set_option linter.unusedVariables false
open Go.RowKit Go.Proofs.Ytbdbfnkjbbbmdaa.PMatrixDoes Go.Proofs.YtbdbfnkjbbbmdaaW.PrintWords Go.Proofs.YtbdbfnkjbbbmdaaW.PrintLast Go.Proofs.Ytbdbfnkjbbbmdaa.Gf Go.Proofs.Ytbdbfnkjbbbmdaa.Lin Go.Proofs.Ytbdbfnkjbbbmdaa.MatMem
/-- The rows beside a matrix: what reduce asks of them. S: they lie in memory as U tells, at the addresses A; Q: the blocks that they may use; g2: the block of their heads. -/
structure Side (Q : Nat → Prop) (g2 n W2 : Nat) (S : World → (Nat → Option Addr) → (Nat → Nat) → (Nat → Nat → F) → Prop) : Prop where
  foot : Q g2
  head : ∀ {w A cp U i}, S w A cp U → i < n → w.cell? ⟨g2, i, none⟩ = some (.slice (A i) W2 (cp i))
  frozen : ∀ {w A cp U} (i : Nat), S w A cp U → w.frozen? ⟨g2, i, none⟩ = false
  but : ∀ {w w' A cp U} {P : Nat → Prop}, S w A cp U → But P w w' → (∀ k, P k → ¬ Q k) → S w' A cp U
  swap : ∀ {w A cp U p q}, S w A cp U → p < n → q < n → S ((w.setCell ⟨g2, p, none⟩ (.slice (A q) W2 (cp q))).setCell ⟨g2, q, none⟩ (.slice (A p) W2 (cp p))) (fun i => A (swp p q i)) (fun i => cp (swp p q i)) (fun i j => U (swp p q i) j)
  scale : ∀ {w A cp U i} (y : F), S w A cp U → i < n → Calls Try.prog 50 #[.slice (A i) W2 (cp i), .int .i64 (y.val : Int)] w (fun e w' => e = .returned (.tuple #[]) ∧ S w' A cp (fun a b => if a = i then mul (U a b) y else U a b) ∧ But Q w w')
  take : ∀ {w A cp U i r} (y : F), S w A cp U → i < n → r < n → r ≠ i → Calls Try.prog 51 #[.slice (A i) W2 (cp i), .slice (A r) W2 (cp r), .int .i64 (y.val : Int)] w (fun e w' => e = .returned (.tuple #[]) ∧ S w' A cp (fun a b => if a = i then add (U a b) (mul (U r b) y) else U a b) ∧ But Q w w')
/-- The matrix and what is beside it, as one. -/
def joined (W : Nat) (M U : Nat → Nat → F) (i j : Nat) : F := if j < W then M i j else U i (j - W)
theorem Mat.but {w w1 : World} {base g cap n W : Nat} {hb cp : Nat → Nat} {M : Nat → Nat → F} {P Q : Nat → Prop} (h : Mat w base g cap n W hb cp M) (hb1 : But Q w w1) (hg : P g) (hp : ∀ i, i < n → P (hb i)) (hd : ∀ k, Q k → ¬ P k) : Mat w1 base g cap n W hb cp M :=
  ⟨mrow.but h.top hb1 (fun k => hd _ k hg), fun i hi => mrow.but (h.row i hi) hb1 (fun k => hd _ k (hp i hi)), h.base_g, h.base_h, h.ne, h.inj⟩
/-- One row is another one now. -/
theorem Mat.newRow {w w1 : World} {base g cap n W a : Nat} {hb cp : Nat → Nat} {M : Nat → Nat → F} {f : Nat → F} (h : Mat w base g cap n W hb cp M) (ha : a < n) (hb1 : But (· = hb a) w w1) (hr : mrow w1 (hb a) 3 (cp a) W (fun j => .int .i64 ((f j).val : Int))) :
    Mat w1 base g cap n W hb cp (fun i j => if i = a then f j else M i j) := by
  refine ⟨mrow.but h.top hb1 (Ne.symm (h.ne a ha)), fun i hi => ?_, h.base_g, h.base_h, h.ne, h.inj⟩
  by_cases e : i = a
  · subst e
    simpa using hr
  · simp only [if_neg e]
    exact mrow.but (h.row i hi) hb1 (fun k => e (h.inj i hi a ha k))
theorem swp_comm (p q i : Nat) : swp p q i = swp q p i := by
  unfold swp
  by_cases h1 : i = p
  · by_cases h2 : i = q
    · simp [h1, h2 ▸ h1]
    · simp [h1, h1 ▸ h2]
  · by_cases h2 : i = q <;> simp [h1, h2]
/-- What reduce leaves. -/
def ReduceREnd (P Q : Nat → Prop) (base g cap n W W2 : Nat) (S : World → (Nat → Option Addr) → (Nat → Nat) → (Nat → Nat → F) → Prop) (M U : Nat → Nat → F) (w : World) (e : Ending) (w' : World) : Prop :=
  ∃ (r k : Nat) (hb' cp' : Nat → Nat) (A' : Nat → Option Addr) (cp2' : Nat → Nat) (M' U' : Nat → Nat → F), e = .returned (.int .i64 (r : Int)) ∧ Mat w' base g cap n W hb' cp' M' ∧ S w' A' cp2' U' ∧ Inv n (W + W2) (joined W M U) (joined W M' U') r k ∧ r ≤ n ∧ k ≤ W ∧ (k = W ∨ r = n) ∧ But (fun q => P q ∨ Q q) w w'
set_option maxHeartbeats 4000000 in
set_option maxRecDepth 100000 in
theorem reduceR_any (P Q : Nat → Prop) (base g cap n W g2 cap2 W2 : Nat) (S : World → (Nat → Option Addr) → (Nat → Nat) → (Nat → Nat → F) → Prop) (hS : Side Q g2 n W2 S) (hPQ : ∀ k, P k → ¬ Q k) (hPg : P g)
    (hb cp : Nat → Nat) (A : Nat → Option Addr) (cp2 : Nat → Nat) (M U : Nat → Nat → F) (w : World) (hM : Mat w base g cap n W hb cp M) (hP : ∀ i, i < n → P (hb i)) (hU : S w A cp2 U) (hn0 : 0 < n) (hn : n ≤ 16) (hW : W ≤ 32) (hn2 : n ≤ cap2) :
    Calls Try.prog 44 #[.slice (some ⟨g, 0, none⟩) n cap, .slice (some ⟨g2, 0, none⟩) n cap2] w (ReduceREnd P Q base g cap n W W2 S M U w) := by
  have HM := Aside0.mk hM
  have HP := Aside0.mk hP
  have HU := Aside0.mk hU
  have HS := Aside0.mk hS
  have HD := Aside0.mk hPQ
  have HD' := Aside0.mk (show ∀ k, Q k → ¬ P k from fun k h1 h2 => hPQ k h2 h1)
  have HG := Aside0.mk hPg
  have H0 : Aside0 (Inv n (W + W2) (joined W M U) (joined W M U) 0 0) := ⟨Inv.start n (W + W2) (joined W M U)⟩
  have HB := Aside0.mk (But.refl (fun q => P q ∨ Q q) w)
  clear hM hP hU hS hPQ hPg
  go_enter Try.func44, Try.ntmps44
  go_wp2
  go_loopg [5, 6] W (fun gk v5 v6 wr => ∃ (k r : Nat) (hb' cp' : Nat → Nat) (A' : Nat → Option Addr) (cp2' : Nat → Nat) (M' U' : Nat → Nat → F), k ≤ W ∧ gk = W - k ∧ v6 = .int .i64 k ∧ v5 = .int .i64 r ∧ r ≤ n ∧ Aside0 (Mat wr base g cap n W hb' cp' M') ∧ Aside0 (∀ i, i < n → P (hb' i)) ∧ Aside0 (S wr A' cp2' U') ∧ Aside0 (Inv n (W + W2) (joined W M U) (joined W M' U') r k) ∧ Aside0 (But (fun q => P q ∨ Q q) w wr))
  case atStart => exact ⟨0, 0, hb, cp, A, cp2, M, U, Nat.zero_le _, rfl, rfl, rfl, Nat.zero_le _, HM, HP, HU, H0, HB⟩
  case round =>
    clear HM HP HU H0 HB
    obtain ⟨k, r, hb', cp', A', cp2', M', U', hk, rfl, rfl, rfl, hr, HM, HP, HU, HI, HB⟩ := hrel
    have hn0' : (0 : Int) < (n : Int) := by omega
    have c0 := HM.out.head hn0
    by_cases hkW : k < W
    · have hkW' : (k : Int) < (W : Int) := by omega
      by_cases hrn : r < n
      · have hrn' : (r : Int) < (n : Int) := by omega
        go_wp2
        go_loopg [7] (n - r) (fun gi v7 wi => wi = wr ∧ ∃ i : Nat, r ≤ i ∧ i ≤ n ∧ v7 = .int .i64 i ∧ gi = n - i ∧ Aside0 (∀ t, r ≤ t → t < i → M' t k = 0))
        case atStart => exact ⟨rfl, r, Nat.le_refl _, hr, rfl, rfl, ⟨fun t a b => absurd a (by omega)⟩⟩
        case round =>
          obtain ⟨rfl, i, hri, hin, rfl, rfl, HZ⟩ := hrel
          by_cases hi : i < n
          · have hi' : (i : Int) < (n : Int) := by omega
            have c1 := HM.out.head hi
            have c2 := HM.out.elem hi hkW
            by_cases hz : M' i k = 0
            · have hzb := val_zero hz
              go_wp2
              go_roundg (n - (i + 1))
              case measure => go_light; omega
              case rel =>
                go_light
                refine ⟨rfl, i + 1, by omega, by omega, by go_num, rfl, ⟨fun t a b => ?_⟩⟩
                by_cases e : t = i
                · subst e; exact hz
                · exact HZ.out t a (by omega)
            · have hzb := val_ne hz
              have hi3 : ((i : Int) == (n : Int)) = false := by rw [beq_eq_false_iff_ne]; omega
              have c3 := HM.out.head hrn
              have f1 := HM.out.top.frozen i
              have f2 := HM.out.top.frozen r
              go_upto_region 9 with fail
              go_cut [] (fun wc => Aside0 (Mat wc base g cap n W (fun t => hb' (swp i r t)) (fun t => cp' (swp i r t)) (fun a b => M' (swp i r a) b)) ∧ Aside0 (S wc A' cp2' U') ∧ Aside0 (But (fun q => P q ∨ Q q) w wc))
              case first =>
                have HU2 := Aside0.mk (fun (w1 : World) (h : But P wr w1) => HS.out.but HU.out h HD.out)
                by_cases e : i = r
                · subst e
                  go_region
                  go_wp2
                  go_meet
                  case rel =>
                    go_light
                    refine ⟨⟨(HM.out.swap hi hi).drew⟩, ⟨HU2.out _ ?_⟩, ⟨((HB.out.set (a := ⟨g, i, none⟩) (.inl HG.out) _).set (a := ⟨g, i, none⟩) (.inl HG.out) _).drew⟩⟩
                    exact (((But.refl P _).set (a := ⟨g, i, none⟩) HG.out _).set (a := ⟨g, i, none⟩) HG.out _).drew
                · go_region
                  go_wp2
                  go_meet
                  case rel =>
                    go_light
                    refine ⟨⟨(HM.out.swap hi hrn).drew⟩, ⟨HU2.out _ ?_⟩, ⟨((HB.out.set (a := ⟨g, i, none⟩) (.inl HG.out) _).set (a := ⟨g, r, none⟩) (.inl HG.out) _).drew⟩⟩
                    exact (((But.refl P _).set (a := ⟨g, i, none⟩) HG.out _).set (a := ⟨g, r, none⟩) HG.out _).drew
              case rest =>
                obtain ⟨HM2, HU2, HB2⟩ := hcut
                obtain ⟨M2, hM2⟩ : ∃ f, f = fun a b => M' (swp i r a) b := ⟨_, rfl⟩
                rw [← hM2] at HM2
                obtain ⟨hb2, hhb2⟩ : ∃ f, f = fun t => hb' (swp i r t) := ⟨_, rfl⟩
                rw [← hhb2] at HM2
                have HP2 := Aside0.mk (show ∀ t, t < n → P (hb2 t) from fun t ht => by rw [hhb2]; exact HP.out _ (swp_lt hi hrn ht))
                clear hhb2
                generalize (fun t => cp' (swp i r t)) = cpm at HM2
                have E2 := Aside0.mk hM2
                have hne : M2 r k ≠ 0 := by
                  rw [hM2]
                  show M' (swp i r r) k ≠ 0
                  have : swp i r r = i := by rw [swp_comm]; unfold swp; rw [if_pos rfl]
                  rw [this]; exact hz
                have HNE := Aside0.mk hne
                clear hM2 hne HM HP HU HB c0 c1 c2 c3 f1 f2 hz hzb
                have d1 := HS.out.head HU2.out hi
                have d2 := HS.out.head HU2.out hrn
                have f3 := HS.out.frozen i HU2.out
                have f4 := HS.out.frozen r HU2.out
                go_upto_region 10 with fail
                go_cut [] (fun wc => Aside0 (Mat wc base g cap n W hb2 cpm M2) ∧ Aside0 (S wc (fun t => A' (swp i r t)) (fun t => cp2' (swp i r t)) (fun a b => U' (swp i r a) b)) ∧ Aside0 (But (fun q => P q ∨ Q q) w wc))
                case first =>
                  have HM3 := Aside0.mk (fun (w1 : World) (h : But Q wc w1) => Mat.but HM2.out h HG.out HP2.out HD'.out)
                  have hQ := HS.out.foot
                  have HQ := Aside0.mk hQ
                  clear hQ
                  by_cases e : i = r
                  · subst e
                    go_region
                    go_wp2
                    go_meet
                    case rel =>
                      go_light
                      refine ⟨⟨HM3.out _ ?_⟩, ⟨HS.out.but (HS.out.swap HU2.out hi hi) ((But.refl (fun _ => False) _).drew) (fun _ h => h.elim)⟩, ⟨((HB2.out.set (a := ⟨g2, i, none⟩) (.inr HQ.out) _).set (a := ⟨g2, i, none⟩) (.inr HQ.out) _).drew⟩⟩
                      exact (((But.refl Q _).set (a := ⟨g2, i, none⟩) HQ.out _).set (a := ⟨g2, i, none⟩) HQ.out _).drew
                  · go_region
                    go_wp2
                    go_meet
                    case rel =>
                      go_light
                      refine ⟨⟨HM3.out _ ?_⟩, ⟨HS.out.but (HS.out.swap HU2.out hi hrn) ((But.refl (fun _ => False) _).drew) (fun _ h => h.elim)⟩, ⟨((HB2.out.set (a := ⟨g2, i, none⟩) (.inr HQ.out) _).set (a := ⟨g2, r, none⟩) (.inr HQ.out) _).drew⟩⟩
                      exact (((But.refl Q _).set (a := ⟨g2, i, none⟩) HQ.out _).set (a := ⟨g2, r, none⟩) HQ.out _).drew
                case rest =>
                  clear HM2 HU2 HB2 d1 d2 f3 f4
                  obtain ⟨HM2, HU2, HB2⟩ := hcut
                  obtain ⟨U2, hU2⟩ : ∃ f, f = fun a b => U' (swp i r a) b := ⟨_, rfl⟩
                  rw [← hU2] at HU2
                  have EU2 := Aside0.mk hU2
                  clear hU2
                  generalize (fun t => A' (swp i r t)) = A2 at HU2
                  generalize (fun t => cp2' (swp i r t)) = cps at HU2
                  have c3 := HM2.out.head hrn
                  have c4 := HM2.out.elem hrn hkW
                  go_upto_region 12 with (go_at_call 37; (with_reducible refine (invR_any _ HNE.out _).mono ?_); rintro e w' ⟨rfl, ⟨nd, rfl⟩⟩)
                  go_upto_region 13 with (go_at_call 50; (refine (scale_any (hb2 r) (cpm r) W (fun j => M2 r j) (inv (M2 r k)) _ ((HM2.out.row r hrn).drewN _) hW).mono ?_); rintro e w1 ⟨rfl, hr1, hb1⟩; have HX := Aside0.mk (And.intro hr1 hb1); clear hr1 hb1)
                  have HM3 := Aside0.mk (Mat.newRow (HM2.out.drewN _) hrn HX.out.2 HX.out.1)
                  have HU3 := Aside0.mk (HS.out.but HU2.out (((But.refl P _).drewN _).trans (HX.out.2.mono (fun q e => by rw [e]; exact HP2.out r hrn))) HD.out)
                  have HB3 := Aside0.mk ((HB2.out.drewN _).trans (HX.out.2.mono (fun q e => .inl (by rw [e]; exact HP2.out r hrn))))
                  clear HM2 HU2 HB2 HX c3 c4
                  have d1 := HS.out.head HU3.out hrn
                  go_upto_region 14 with (go_at_call 50; (refine (HS.out.scale (inv (M2 r k)) HU3.out hrn).mono ?_); rintro e w2 ⟨rfl, hu2, hb3⟩; have HX := Aside0.mk (And.intro hu2 hb3); clear hu2 hb3)
                  have HM2 := Aside0.mk (Mat.but HM3.out HX.out.2 HG.out HP2.out HD'.out)
                  have HU2 := Aside0.mk HX.out.1
                  have HB2 := Aside0.mk (HB3.out.trans (HX.out.2.mono fun q e => .inr e))
                  clear HM3 HU3 HB3 HX d1
                  obtain ⟨M3, hM3⟩ : ∃ f : Nat → Nat → F, f = fun a b => if a = r then mul (M2 r b) (inv (M2 r k)) else M2 a b := ⟨_, rfl⟩
                  rw [← hM3] at HM2
                  have E3 := Aside0.mk hM3
                  clear hM3
                  obtain ⟨U3, hU3⟩ : ∃ f : Nat → Nat → F, f = fun a b => if a = r then mul (U2 a b) (inv (M2 r k)) else U2 a b := ⟨_, rfl⟩
                  rw [← hU3] at HU2
                  have EU3 := Aside0.mk hU3
                  clear hU3
                  go_upto_block 4 with fail
                  go_cut [] (fun wc => Aside0 (Mat wc base g cap n W hb2 cpm (fun a b => if a = r ∨ n ≤ a then M3 a b else add (M3 a b) (mul (M3 r b) (M3 a k)))) ∧ Aside0 (S wc A2 cps (fun a b => if a = r ∨ n ≤ a then U3 a b else add (U3 a b) (mul (U3 r b) (M3 a k)))) ∧ Aside0 (But (fun q => P q ∨ Q q) w wc))
                  case first =>
                    go_wp2_with fail
                    go_loopg [105] n (fun gt v105 wt => ∃ t : Nat, t ≤ n ∧ gt = n - t ∧ v105 = .int .i64 t ∧ Aside0 (Mat wt base g cap n W hb2 cpm (fun a b => if a = r ∨ t ≤ a then M3 a b else add (M3 a b) (mul (M3 r b) (M3 a k)))) ∧ Aside0 (S wt A2 cps (fun a b => if a = r ∨ t ≤ a then U3 a b else add (U3 a b) (mul (U3 r b) (M3 a k)))) ∧ Aside0 (But (fun q => P q ∨ Q q) w wt))
                    case atStart =>
                      go_light
                      refine ⟨0, Nat.zero_le _, rfl, rfl, ⟨HM2.out.congr fun a _ b _ => by simp⟩, ⟨?_⟩, HB2⟩
                      have : (fun a b => if a = r ∨ 0 ≤ a then U3 a b else add (U3 a b) (mul (U3 r b) (M3 a k))) = U3 := by funext a b; simp
                      rw [this]
                      exact HU2.out
                    case round =>
                      clear HM2 HU2 HB2
                      obtain ⟨t, ht, rfl, rfl, HM4, HU4, HB4⟩ := hrel
                      by_cases htn : t < n
                      · have htn' : (t : Int) < (n : Int) := by omega
                        obtain ⟨M4, hM4⟩ : ∃ f, f = fun a b => if a = r ∨ t ≤ a then M3 a b else add (M3 a b) (mul (M3 r b) (M3 a k)) := ⟨_, rfl⟩
                        rw [← hM4] at HM4
                        obtain ⟨U4, hU4⟩ : ∃ f, f = fun a b => if a = r ∨ t ≤ a then U3 a b else add (U3 a b) (mul (U3 r b) (M3 a k)) := ⟨_, rfl⟩
                        rw [← hU4] at HU4
                        have m4t : ∀ b, M4 t b = M3 t b := fun b => by rw [hM4]; simp
                        have m4r : ∀ b, M4 r b = M3 r b := fun b => by rw [hM4]; simp
                        have E4 := Aside0.mk hM4
                        have EU4 := Aside0.mk hU4
                        have c7 := HM4.out.head htn
                        have c8 : wr.cell? ⟨hb2 t, k, none⟩ = some (.int .i64 ((M3 t k).val : Int)) := by
                          have := HM4.out.elem htn hkW
                          rwa [m4t] at this
                        have M4T := Aside0.mk m4t
                        have M4R := Aside0.mk m4r
                        clear hM4 hU4 m4t m4r
                        by_cases htr : t = r
                        · have htr' : ((t : Int) != (r : Int)) = false := by rw [bne_eq_false_iff_eq]; omega
                          have HTR := Aside0.mk htr
                          clear htr
                          go_wp2
                          go_roundg (n - (t + 1))
                          case measure => go_light; omega
                          case rel =>
                            go_light
                            have htr := HTR.out
                            have key : ∀ (X3 : Nat → Nat → F), (fun a b => if a = r ∨ t + 1 ≤ a then X3 a b else add (X3 a b) (mul (X3 r b) (M3 a k))) = fun a b => if a = r ∨ t ≤ a then X3 a b else add (X3 a b) (mul (X3 r b) (M3 a k)) := by
                              intro X3
                              funext a b
                              by_cases ea : a = r
                              · simp [ea]
                              · by_cases lt : t ≤ a
                                · simp [ea, lt, show t + 1 ≤ a by omega]
                                · simp [ea, lt, show ¬ t + 1 ≤ a by omega]
                            refine ⟨t + 1, by omega, rfl, by go_num, ⟨?_⟩, ⟨?_⟩, HB4⟩
                            · rw [key, ← E4.out]; exact HM4.out
                            · rw [key, ← EU4.out]; exact HU4.out
                        · have htr' : ((t : Int) != (r : Int)) = true := by rw [bne_iff_ne]; omega
                          by_cases hz : M3 t k = 0
                          · have hz' : ((((M3 t k).val : Nat) : Int) != 0) = false := by rw [hz]; rfl
                            have HZ2 := Aside0.mk hz
                            clear hz
                            go_wp2
                            go_roundg (n - (t + 1))
                            case measure => go_light; omega
                            case rel =>
                              go_light
                              have hz := HZ2.out
                              have key : ∀ (X3 : Nat → Nat → F), (fun a b => if a = r ∨ t + 1 ≤ a then X3 a b else add (X3 a b) (mul (X3 r b) (M3 a k))) = fun a b => if a = r ∨ t ≤ a then X3 a b else add (X3 a b) (mul (X3 r b) (M3 a k)) := by
                                intro X3
                                funext a b
                                by_cases ea : a = r
                                · simp [ea]
                                · by_cases et : a = t
                                  · subst et
                                    simp [ea, show ¬ a + 1 ≤ a by omega, hz, mul_zero, add_zero]
                                  · by_cases lt : t ≤ a
                                    · simp [ea, lt, show t + 1 ≤ a by omega]
                                    · simp [ea, lt, show ¬ t + 1 ≤ a by omega]
                              refine ⟨t + 1, by omega, rfl, by go_num, ⟨?_⟩, ⟨?_⟩, HB4⟩
                              · rw [key, ← E4.out]; exact HM4.out
                              · rw [key, ← EU4.out]; exact HU4.out
                          · have hz' : ((((M3 t k).val : Nat) : Int) != 0) = true := by
                              rw [bne_iff_ne]
                              intro h
                              exact hz (Fin.ext (by simpa using h))
                            have c9 := HM4.out.head hrn
                            have HTR := Aside0.mk htr
                            clear hz htr
                            go_upto_region 19 with fail
                            go_cut [] (fun wc => Aside0 (Mat wc base g cap n W hb2 cpm (fun a b => if a = t then add (M4 t b) (mul (M4 r b) (M3 t k)) else M4 a b)) ∧ Aside0 (S wc A2 cps U4) ∧ Aside0 (But (fun q => P q ∨ Q q) w wc))
                            case first =>
                              go_region_with (go_at_call 51; (refine (take_any (hb2 t) (cpm t) (hb2 r) (cpm r) W (fun j => M4 t j) (fun j => M4 r j) (M3 t k) _ (HM4.out.drew.row t htn) (HM4.out.drew.row r hrn) (fun e => HTR.out (HM4.out.inj _ hrn _ htn e).symm) hW).mono ?_); rintro e w3 ⟨rfl, hr1, hb1⟩; have HX := Aside0.mk (And.intro hr1 hb1); clear hr1 hb1)
                              all_goals
                                go_wp2
                                go_meet
                                case rel =>
                                  go_light
                                  have hb := HX.out.2
                                  refine ⟨⟨Mat.newRow HM4.out.drew htn HX.out.2 HX.out.1⟩, ⟨HS.out.but HU4.out (((But.refl P _).drew).trans (hb.mono (fun q e => by rw [e]; exact HP2.out t htn))) HD.out⟩, ⟨HB4.out.drew.trans (hb.mono (fun q e => .inl (by rw [e]; exact HP2.out t htn)))⟩⟩
                            case rest =>
                              clear HM4 HU4 HB4 c7 c8 c9
                              obtain ⟨HM4, HU4, HB4⟩ := hcut
                              have d1 := HS.out.head HU4.out htn
                              have d2 := HS.out.head HU4.out hrn
                              go_upto_region 20 with fail
                              have HU5 := Aside0.mk (HS.out.but HU4.out ((But.refl (fun _ => False) _).drew) (fun _ h => h.elim))
                              go_region_with (go_at_call 51; (refine (HS.out.take (M3 t k) HU5.out htn hrn (fun e => HTR.out e.symm)).mono ?_); rintro e w3 ⟨rfl, hu1, hb1⟩; have HX := Aside0.mk (And.intro hu1 hb1); clear hu1 hb1)
                              all_goals
                                have HM6 := Aside0.mk (Mat.but HM4.out.drew HX.out.2 HG.out HP2.out HD'.out)
                                have HU6 := Aside0.mk HX.out.1
                                have HB6 := Aside0.mk (HB4.out.drew.trans (HX.out.2.mono fun q e => .inr e))
                                clear HM4 HU4 HB4 HU5 HX d1 d2
                                go_wp2
                                go_roundg (n - (t + 1))
                                case measure => go_light; omega
                                case rel =>
                                  go_light
                                  have htr := HTR.out
                                  have key : ∀ (X3 X4 : Nat → Nat → F), X4 = (fun a b => if a = r ∨ t ≤ a then X3 a b else add (X3 a b) (mul (X3 r b) (M3 a k))) → (fun a b => if a = r ∨ t + 1 ≤ a then X3 a b else add (X3 a b) (mul (X3 r b) (M3 a k))) = fun a b => if a = t then add (X4 a b) (mul (X4 r b) (M3 t k)) else X4 a b := by
                                    intro X3 X4 e4
                                    rw [e4]
                                    funext a b
                                    by_cases et : a = t
                                    · subst et
                                      simp [htr, show ¬ a + 1 ≤ a by omega]
                                    · by_cases ea : a = r
                                      · subst ea
                                        simp [et]
                                      · by_cases lt : t ≤ a
                                        · simp [ea, et, lt, show t + 1 ≤ a by omega]
                                        · simp [ea, et, lt, show ¬ t + 1 ≤ a by omega]
                                  refine ⟨t + 1, by omega, rfl, by go_num, ⟨?_⟩, ⟨?_⟩, HB6⟩
                                  · rw [key M3 M4 E4.out]
                                    exact HM6.out.congr fun a _ b _ => by
                                      by_cases ea : a = t
                                      · subst ea; rfl
                                      · simp [ea]
                                  · rw [key U3 U4 EU4.out]; exact HU6.out
                      · have htn' : ¬ (t : Int) < (n : Int) := by omega
                        obtain rfl : t = n := by omega
                        go_wp2
                        go_meet
                        case rel =>
                          go_light
                          exact ⟨HM4, HU4, HB4⟩
                  case rest =>
                    clear HM2 HU2 HB2
                    obtain ⟨HM2, HU2, HB2⟩ := hcut
                    go_wp2
                    go_roundg (W - (k + 1))
                    case measure => go_light; omega
                    case rel =>
                      go_light
                      refine ⟨k + 1, r + 1, hb2, cpm, A2, cps, _, _, by omega, rfl, by go_num, by go_num, by omega, HM2, HP2, HU2, ⟨HI.out.pivot (q := i) (by omega) hri hi ?_ fun a ha b hb => ?_⟩, HB2⟩
                      · unfold joined
                        rw [if_pos hkW]
                        have := HNE.out
                        rw [E2.out] at this
                        have e : swp i r r = i := by rw [swp_comm]; unfold swp; rw [if_pos rfl]
                        simpa [e] using this
                      · have e : swp i r r = i := by rw [swp_comm]; unfold swp; rw [if_pos rfl]
                        unfold joined
                        simp only [if_pos hkW]
                        rw [swp_comm r i a]
                        by_cases hbW : b < W
                        · simp only [if_pos hbW]
                          rw [E3.out, E2.out]
                          by_cases ea : a = r
                          · subst ea
                            simp [e]
                          · simp [ea, e, show ¬ n ≤ a by omega]
                        · simp only [if_neg hbW]
                          rw [EU3.out, E3.out, E2.out, EU2.out]
                          by_cases ea : a = r
                          · subst ea
                            simp [e]
                          · simp [ea, e, show ¬ n ≤ a by omega]
          · have hi' : ¬ (i : Int) < (n : Int) := by omega
            have hi2 : ((i : Int) == (n : Int)) = true := by rw [beq_iff_eq]; omega
            go_wp2
            go_roundg (W - (k + 1))
            case measure => go_light; omega
            case rel =>
              go_light
              exact ⟨k + 1, r, hb', cp', A', cp2', M', U', by omega, rfl, by go_num, rfl, hr, HM, HP, HU, ⟨HI.out.next fun t a b => by unfold joined; rw [if_pos hkW]; exact HZ.out t a (by omega)⟩, HB⟩
      · have hrn' : ¬ (r : Int) < (n : Int) := by omega
        go_wp2
        go_ret
        go_light
        exact ⟨r, k, hb', cp', A', cp2', M', U', rfl, HM.out, HU.out, HI.out, hr, hk, .inr (by omega), HB.out⟩
    · have hkW' : ¬ (k : Int) < (W : Int) := by omega
      go_wp2
      go_ret
      go_light
      exact ⟨r, k, hb', cp', A', cp2', M', U', rfl, HM.out, HU.out, HI.out, hr, hk, .inl (by omega), HB.out⟩
end Go.Proofs.Ytbdbfnkjbbbmdaa.MatMatrixDoes
