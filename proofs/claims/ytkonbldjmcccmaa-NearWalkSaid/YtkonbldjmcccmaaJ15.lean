/- The law NearWalk; The law NearGap. -/
import Derived.Test.YtkonbldjmcccmaaJ14
import Derived.Test.YtkonbldjmcccmaaJ10
import Derived.Deep.Cut
import Derived.Deep.CutRange
set_option linter.unusedVariables false
set_option linter.unusedSimpArgs false
/- The law NearWalk. -/
namespace Go.Proofs.Ytkonbldjmcccmaa
open Go.RowKit
theorem slt_gt {s t : List Nat} (h : slt s t) : bcmp t s = 1 := by
  rcases bcmp_three t s with ⟨h2, _⟩ | ⟨h2, _⟩ | ⟨_, e⟩
  · exact absurd (slt_trans h h2) (slt_irrefl _)
  · subst h2; exact absurd h (slt_irrefl _)
  · exact e
theorem near_up {l : PL} (hs : PSrt l) {i : Nat} (hi : i < l.length) : upL true (l.getD i ([], 0)).1 l = atO l ((i + 1 : Nat) : Int) := by
  refine ((upto_floor hs (m := i + 1) (by omega) (fun j hj => ?_) (fun h => ?_)).1).symm
  · by_cases e : j = i
    · subst e; rw [bcmp_self]; exact Int.le_refl _
    · have : bcmp (l.getD j ([], 0)).1 (l.getD i ([], 0)).1 = -1 := srt_at hs (by omega) hi
      rw [this]; omega
  · rw [slt_gt (srt_at hs (i := i) (j := i + 1) (by omega) h)]; omega
theorem near_dn {l : PL} (hs : PSrt l) {i : Nat} (hi : i < l.length) : dnL true (l.getD i ([], 0)).1 l = atO l ((i : Int) - 1) := by
  refine ((ahead_ceil hs (m := i) (by omega) (fun j hj => ?_) (fun h => ?_)).2).symm
  · have : bcmp (l.getD j ([], 0)).1 (l.getD i ([], 0)).1 = -1 := srt_at hs hj hi
    rw [this]; omega
  · rw [bcmp_self]; omega
theorem atO_in {l : PL} {i : Nat} (h : i < l.length) : atO l (i : Int) = some (l.getD i ([], 0)) := by
  unfold atO; rw [if_pos ⟨by omega, by omega⟩]; rfl
/-- two boxes -/
structure Q2 (w3 : World) (g1 g2 : Nat) (b1 b2 : Bx) (W : World) : Prop where
  since : Below w3.heap.size w3 W
  x1 : BxC apT W g1 b1
  x2 : BxC apT W g2 b2
  ge : w3.heap.size ≤ g1
  l1 : g1 < g2
section
variable {w3 W W' : World} {g1 g2 : Nat} {b1 b2 : Bx}
theorem Q2.below (h : Q2 w3 g1 g2 b1 b2 W) (hb : Below W.heap.size W W') : Q2 w3 g1 g2 b1 b2 W' :=
  ⟨h.since.trans (hb.mono h.since.size), h.x1.below hb, h.x2.below hb, h.ge, h.l1⟩
theorem Q2.put1 (h : Q2 w3 g1 g2 b1 b2 W) {a : Option Addr} {m c : Nat} {k : List Nat} (s : Sl W a m c k) (y : Int) : Q2 w3 g1 g2 ⟨a, m, c, y, k⟩ b2 (bst W g1 a m c y) :=
  ⟨Q4.st h.since h.ge _ _ _ _, h.x1.put s y, h.x1.other h.x2 (by have := h.l1; omega) _ _ _ _, h.ge, h.l1⟩
theorem Q2.put2 (h : Q2 w3 g1 g2 b1 b2 W) {a : Option Addr} {m c : Nat} {k : List Nat} (s : Sl W a m c k) (y : Int) : Q2 w3 g1 g2 b1 ⟨a, m, c, y, k⟩ (bst W g2 a m c y) :=
  ⟨Q4.st h.since (by have := h.ge; have := h.l1; omega) _ _ _ _, h.x2.other h.x1 (by have := h.l1; omega) _ _ _ _, h.x2.put s y, h.ge, h.l1⟩
end
set_option maxHeartbeats 8000000 in
set_option maxRecDepth 100000 in
theorem NearWalk_any (w : World) (a : Option Addr) (n c : Nat) (l : PL) (h : Prs w a n c l) : Calls Try.prog 8 #[.slice a n c] w (truePost w) := by
  have hF := Lib.hid (far_17 w a n c l h 150 (by omega))
  have hal := Lib.hid (fun w => alive17 w)
  cases hb : (decide (150 < n) || farL 300 l) with
  | true =>
    rw [hb] at hF
    clear h hb
    go_enter Try.func8, Try.ntmps8
    go_wp2_with (first
      | (go_at_call 48; refine hF.out.mono ?_; rintro e w1 ⟨rfl, z1⟩; have B1 := Lib.hid z1; clear z1)
      | (go_at_call 49; refine (hal.out _).mono ?_; rintro e w2 ⟨rfl, z1⟩; have B2 := Lib.hid (B1.out.trans (z1.mono B1.out.size)); clear z1))
    go_ret
    exact ⟨rfl, B2.out⟩
  | false =>
    obtain ⟨h1, h3⟩ := far_m hb
    rw [hb] at hF
    have hnn : Hid (n ≤ 150) := h1
    have hso := Lib.hid (fun w1 (b1 : Below w.heap.size w w1) => sort_near (h.below b1) (by omega) h3)
    clear h hb h3 h1
    go_enter Try.func8, Try.ntmps8
    go_wp2_with (first
      | (go_at_call 53; refine (hX.out.mx _ V5.out).mono ?_; rintro e w6 ⟨a6, m6, c6, rfl, s6, z⟩
         have zz := z.alloc z.size (.cells #[.slice a6 m6 c6, .int .u64 (l0.getLast?.getD ([], 0)).2] apT)
         have Q := Lib.hid (Q2.mk ((Z5.out.trans (zz.mono Z5.out.size))) (K1.out.below zz) (bxc_new (y := (l0.getLast?.getD ([], 0)).2) apT s6) G1.out (Nat.lt_of_lt_of_le K1.out.lt z.size))
         clear z zz s6)
      | (go_at_call 51; refine (hX.out.mn _ V4.out).mono ?_; rintro e w5 ⟨a5, m5, c5, rfl, s5, z⟩
         have zz := z.alloc z.size (.cells #[.slice a5 m5 c5, .int .u64 (l0.head?.getD ([], 0)).2] apT)
         have G1 : Hid (w4.heap.size ≤ w5.heap.size) := z.size
         have K1 := Lib.hid (bxc_new (y := (l0.head?.getD ([], 0)).2) apT s5)
         have Z5 := Lib.hid zz
         have V5 := Lib.hid (V4.out.trans (zz.mono V4.out.size))
         clear z zz s5)
      | (go_at_call 46; refine hLs.out.mono ?_; rintro e w4 ⟨a4, c4, rfl, z1, z2⟩
         have HPL := Lib.hid z1
         have V4 := Lib.hid z2
         clear z1 z2)
      | (go_at_call 50; refine hT.out.mono ?_; rintro e w3 ⟨at_, t, Q, rfl, z1, z2, z3, z4, z5, z6, z7⟩
         have BX := Lib.hid (B2.out.trans (z1.mono B2.out.size))
         have hX := Lib.hid z2
         have hl0 : l0.length ≤ 150 := by have := Hmn.out; have := hnn.out; have := HP.out.len; omega
         have hLs := list_any z3 z4 z5 z7 (by rw [z6]; omega)
         rw [z6] at hLs
         have hLs := Lib.hid hLs
         clear z1 z2 hT z3 z4 z5 z6 z7)
      | (go_at_call 37; refine (hso.out _ B1.out).mono ?_; rintro e w2 ⟨a2, m, c2, l0, rfl, z4, z6, z7, z8, z9, z5⟩; have Hsh := Lib.hid z9; clear z9; have B2 := Lib.hid (B1.out.trans (z4.mono B1.out.size)); have HP := Lib.hid z6; have HSr := Lib.hid z7; have Hmn := Lib.hid z8; have hT := Lib.hid z5; clear z4 z5 z6 z7 z8)
      | (go_at_call 48; refine hF.out.mono ?_; rintro e w1 ⟨rfl, z1⟩; have B1 := Lib.hid z1; clear z1))
    have hPm := HPL.out.len
    obtain ⟨M, hM⟩ : ∃ M, M = l0.length := ⟨_, rfl⟩
    have HM := Lib.hid hM
    have hM150 : M ≤ 150 := by rw [hM]; exact hl0
    obtain ⟨A1, hA1⟩ : ∃ A1 : Nat → PO, A1 = fun i => atO l0 ((i : Nat) : Int) := ⟨_, rfl⟩
    obtain ⟨A2, hA2⟩ : ∃ A2 : Nat → PO, A2 = fun i => atO l0 ((M : Int) - 1 - ((i : Nat) : Int)) := ⟨_, rfl⟩
    have a10 : l0.head? = A1 0 := by rw [hA1]; exact (atO_head l0).symm
    have a20 : l0.getLast? = A2 0 := by rw [hA2, hM]; show _ = atO l0 ((l0.length : Int) - 1 - ((0 : Nat) : Int)); rw [show (l0.length : Int) - 1 - ((0 : Nat) : Int) = (l0.length : Int) - 1 by omega, atO_last]
    have a1s : Hid (∀ i, i < M → A1 i = some (l0.getD i ([], 0))) := fun i hi => by rw [hA1]; exact atO_in (by rw [← hM]; exact hi)
    have a2s : Hid (∀ i, i < M → A2 i = some (l0.getD (M - 1 - i) ([], 0))) := fun i hi => by rw [hA2]; show atO l0 ((M : Int) - 1 - (i : Int)) = _; rw [show (M : Int) - 1 - (i : Int) = ((M - 1 - i : Nat) : Int) by omega]; exact atO_in (by rw [← hM]; omega)
    have a1n : Hid (A1 M = none) := by show _ = _; rw [hA1]; show atO l0 (M : Int) = none; unfold atO; rw [if_neg (by omega)]
    have a2n : Hid (A2 M = none) := by show _ = _; rw [hA2]; show atO l0 ((M : Int) - 1 - (M : Int)) = none; unfold atO; rw [if_neg (by omega)]
    have hHi : Hid (∀ i, i < M → ∀ X, Below w3.heap.size w3 X → ∀ {ka : Option Addr} {kn kc : Nat}, Sl X ka kn kc (l0.getD i ([], 0)).1 → Calls Try.prog 62 #[.pointer at_, .slice ka kn kc] X (npPost (A1 (i + 1)) X)) := fun i hi X hb _ _ _ hs => by
      have := hX.out.hi X hb hs (by have := Hsh.out (l0.getD i ([], 0)) (mem_getD (by rw [← hM]; exact hi)); rw [hs.len] at this; omega)
      rw [near_up HSr.out (by rw [← hM]; exact hi)] at this
      rw [hA1]; exact this
    have hLo : Hid (∀ i, i < M → ∀ X, Below w3.heap.size w3 X → ∀ {ka : Option Addr} {kn kc : Nat}, Sl X ka kn kc (l0.getD (M - 1 - i) ([], 0)).1 → Calls Try.prog 60 #[.pointer at_, .slice ka kn kc] X (npPost (A2 (i + 1)) X)) := fun i hi X hb _ _ _ hs => by
      have := hX.out.lo X hb hs (by have := Hsh.out (l0.getD (M - 1 - i) ([], 0)) (mem_getD (by rw [← hM]; omega)); rw [hs.len] at this; omega)
      rw [near_dn HSr.out (by rw [← hM]; omega)] at this
      rw [hA2]
      show Calls _ _ _ _ (npPost (atO l0 ((M : Int) - 1 - ((i + 1 : Nat) : Int))) X)
      rw [show (M : Int) - 1 - ((i + 1 : Nat) : Int) = ((M - 1 - i : Nat) : Int) - 1 by omega]
      exact this
    have hq0 : Hid (∃ b1 b2, Q2 w4 w5.heap.size w6.heap.size b1 b2 (w6.alloc (.cells #[.slice a6 m6 c6, .int .u64 (l0.getLast?.getD ([], 0)).2] apT)) ∧ (b1.k = ((A1 0).getD ([], 0)).1 ∧ b1.y = ((A1 0).getD ([], 0)).2) ∧ (b2.k = ((A2 0).getD ([], 0)).1 ∧ b2.y = ((A2 0).getD ([], 0)).2)) := ⟨_, _, Q.out, by rw [a10]; exact ⟨rfl, rfl⟩, by rw [a20]; exact ⟨rfl, rfl⟩⟩
    have V4' : Hid (Below w3.heap.size w3 w4) := V4.out
    clear Q K1 G1 V5 Z5 hLs hF hX hso
    rw [a10, a20] at *
    rw [← hM]
    clear a10 a20 hA1 hA2 hM
    go_loopw [31, 6, 8] (fun v31 v6 v8 wr => ∃ (i : Nat) (b1 b2 : Bx), v31 = .int .i64 (i : Nat) ∧ v6 = .bool (A1 i).isSome ∧ v8 = .bool (A2 i).isSome ∧ i ≤ M ∧ Hid (Q2 w4 w5.heap.size w6.heap.size b1 b2 wr) ∧ Hid (b1.k = ((A1 i).getD ([], 0)).1 ∧ b1.y = ((A1 i).getD ([], 0)).2) ∧ Hid (b2.k = ((A2 i).getD ([], 0)).1 ∧ b2.y = ((A2 i).getD ([], 0)).2)) (fun v31 _ _ _ => (M - intOf v31).toNat)
    case atStart =>
      obtain ⟨b1, b2, q1, q2, q3⟩ := hq0.out
      exact ⟨0, b1, b2, rfl, rfl, rfl, Nat.zero_le _, q1, q2, q3⟩
    case round =>
      clear hq0
      obtain ⟨i, b1, b2, rfl, rfl, rfl, hi, hQ, hb1, hb2⟩ := hrel
      obtain ⟨d1, n1, e1, v1, k1⟩ := b1
      obtain ⟨d2, n2, e2, v2, k2⟩ := b2
      have hb1a : k1 = ((A1 i).getD ([], 0)).1 := hb1.out.1
      have hb1b : v1 = ((A1 i).getD ([], 0)).2 := hb1.out.2
      have hb2a : k2 = ((A2 i).getD ([], 0)).1 := hb2.out.1
      have hb2b : v2 = ((A2 i).getD ([], 0)).2 := hb2.out.2
      clear hb1 hb2
      by_cases hlt : i < M
      · have l1 : (i : Int) < (M : Int) := by omega
        obtain ⟨j, hj⟩ : ∃ j, j = M - 1 - i := ⟨_, rfl⟩
        have hjM : j < M := by omega
        rw [a1s.out i hlt] at hb1a hb1b
        rw [a2s.out i hlt, ← hj] at hb2a hb2b
        simp only [Option.getD_some] at hb1a hb1b hb2a hb2b
        have x1 := hQ.out.x1.facts
        have x2 := hQ.out.x2.facts
        have hP2 := HPL.out.below hQ.out.since
        rw [← HM.out] at hP2
        obtain ⟨p, a7, n7, c7, rfl, q1, q2, q3⟩ := prs_row hP2 hlt
        obtain ⟨p', a8, n8, c8, hpp, r1, r2, r3⟩ := prs_row hP2 hjM
        obtain rfl : p = p' := by simpa using hpp
        obtain ⟨M1, hM1⟩ : ∃ M1, M1 = M - 1 := ⟨_, rfl⟩
        have hwa : IntKind.i64.wrap ((M : Int) - 1) = (M1 : Nat) := by rw [show (M : Int) - 1 = ((M1 : Nat) : Int) by omega]; exact IntWalk.i64_in _ (by omega)
        have hwb : IntKind.i64.wrap ((M1 : Int) - (i : Int)) = (j : Nat) := by rw [show (M1 : Int) - (i : Int) = ((j : Nat) : Int) by omega]; exact IntWalk.i64_in _ (by omega)
        have hw8 : IntKind.i64.wrap (((i : Nat) : Int) + 1) = ((i + 1 : Nat) : Int) := by rw [show ((i : Nat) : Int) + 1 = ((i + 1 : Nat) : Int) by omega]; exact IntWalk.i64_in _ (by omega)
        have j0 : (0 : Int) ≤ (j : Int) := by omega
        have j1 : (j : Int) < (M : Int) := by omega
        have i0 : (0 : Int) ≤ (i : Int) := by omega
        have hsi : (A1 i).isSome = true := by rw [a1s.out i hlt]; rfl
        have hsj : (A2 i).isSome = true := by rw [a2s.out i hlt]; rfl
        have hHi2 := Lib.hid (hHi.out i hlt)
        have hLo2 := Lib.hid (fun X => hLo.out i hlt X)
        rw [← hj] at hLo2
        rw [hsi, hsj]
        obtain ⟨ki, hki⟩ : ∃ ki, ki = (l0.getD i ([], 0)).1 := ⟨_, rfl⟩
        obtain ⟨kj, hkj⟩ : ∃ kj, kj = (l0.getD j ([], 0)).1 := ⟨_, rfl⟩
        obtain ⟨yi, hyi⟩ : ∃ yi, yi = (l0.getD i ([], 0)).2 := ⟨_, rfl⟩
        obtain ⟨yj, hyj⟩ : ∃ yj, yj = (l0.getD j ([], 0)).2 := ⟨_, rfl⟩
        rw [← hki] at hb1a q3 hHi2
        rw [← hkj] at hb2a r3 hLo2
        rw [← hyi] at hb1b q2
        rw [← hyj] at hb2b r2
        subst hb1a hb1b hb2a hb2b
        have hAl : Below wr.heap.size wr (wr.alloc (.cells #[.slice a8 n8 c8, .int .u64 v2] apT)) := below_al _ _
        have hQ2 := Lib.hid (hQ.out.below hAl)
        have hC1 := Lib.hid (fun q => quiet_same hQ2.out.x1.cells.2.2.2.2 (q3.below hAl) q)
        have hC2 := Lib.hid (fun q => quiet_same hQ2.out.x2.cells.2.2.2.2 (r3.below hAl) q)
        have t1 : decide (k1 = k1) = true := decide_eq_true rfl
        have t2 : decide (k2 = k2) = true := decide_eq_true rfl
        obtain ⟨f1, f2, _⟩ := hQ2.out.x1.cells
        obtain ⟨f3, f4, _⟩ := hQ2.out.x2.cells
        obtain ⟨f5, f6, _⟩ := (bxc_new (y := v2) apT r3).cells
        have g1 := (hAl.cell (cell_lt q1)).trans q1
        have g2 := (hAl.cell (cell_lt q2)).trans q2
        clear hki hkj hyi hyj hj hpp hP2 hQ x1 x2 hsi hsj hM1
        go_upto_region 11 with fail
        generalize wr.alloc (.cells #[.slice a8 n8 c8, .int .u64 v2] apT) = W at *
        go_quiet ((go_at_call 47; first | exact Calls.quiet_of (hC1.out _) | exact Calls.quiet_of (hC2.out _)))
        have hQ3 := Lib.hid (hQ2.out.below (below_drewN (Below.refl _ _) nq))
        generalize W.drewN nq = W2 at *
        obtain ⟨f1, f2, f7, f8, _⟩ := hQ3.out.x1.cells
        obtain ⟨f3, f4, f9, f10, _⟩ := hQ3.out.x2.cells
        go_wp2_with (first
          | (go_at_call 62; refine (hHi2.out _ (V4'.out.trans (hQ3.out.since.mono V4'.out.size)) hQ3.out.x1.sl).mono ?_; rintro e w7 ⟨a9, m9, c9, rfl, s9, z⟩
             have q := hQ3.out.below z
             obtain ⟨p0, p1, p2, p3, _⟩ := q.x1.cells
             have Q := Lib.hid (q.put1 s9 ((A1 (i + 1)).getD ([], 0)).2)
             obtain ⟨p4, p5, p6, p7, _⟩ := Q.out.x2.cells
             clear s9 z q)
          | (go_at_call 60; refine (hLo2.out _ (V4'.out.trans (Q.out.since.mono V4'.out.size)) Q.out.x2.sl).mono ?_; rintro e w8 ⟨a10, m10, c10, rfl, s10, z⟩
             have q := Q.out.below z
             obtain ⟨p0, p1, p2, p3, _⟩ := q.x2.cells
             have Q := Lib.hid (q.put2 s10 ((A2 (i + 1)).getD ([], 0)).2)
             clear s10 z q))
        go_roundw
        case rel => exact ⟨i + 1, _, _, (by first | rfl | go_num), rfl, rfl, by omega, Q, ⟨rfl, rfl⟩, ⟨rfl, rfl⟩⟩
        case measure => (simp [intOf]) <;> omega
      · obtain rfl : i = M := by omega
        have l1 : ¬ (i : Int) < (i : Int) := by omega
        rw [a1n.out] at hb1a hb1b
        rw [a2n.out] at hb2a hb2b
        simp only [Option.getD_none] at hb1a hb1b hb2a hb2b
        subst hb1a hb1b hb2a hb2b
        have hsi : (A1 i).isSome = false := by rw [a1n.out]; rfl
        have hsj : (A2 i).isSome = false := by rw [a2n.out]; rfl
        rw [hsi, hsj]
        obtain rfl : 0 = n1 := hQ.out.x1.sl.len
        obtain rfl : 0 = n2 := hQ.out.x2.sl.len
        obtain ⟨f1, f2, _⟩ := hQ.out.x1.cells
        obtain ⟨f3, f4, _⟩ := hQ.out.x2.cells
        clear hsi hsj
        go_wp2_with (go_at_call 49; refine (hal.out _).mono ?_; rintro e w8 ⟨rfl, z1⟩; have B8 := Lib.hid (hQ.out.since.trans (z1.mono hQ.out.since.size)); clear z1)
        go_ret
        exact ⟨rfl, (BX.out.trans (V4'.out.mono BX.out.size)).trans (B8.out.mono (Nat.le_trans BX.out.size V4'.out.size))⟩
end Go.Proofs.Ytkonbldjmcccmaa
/- The law NearGap. -/
namespace Go.Proofs.Ytkonbldjmcccmaa
open Go.RowKit
theorem split_at {α : Type} (d : α) (P : α → Prop) : ∀ l : List α, ∃ m, m ≤ l.length ∧ (∀ j, j < m → P (l.getD j d)) ∧ (m < l.length → ¬ P (l.getD m d))
  | [] => ⟨0, Nat.le_refl _, fun j h => absurd h (by omega), fun h => absurd h (by simp)⟩
  | x :: l => by
    by_cases hx : P x
    · obtain ⟨m, h1, h2, h3⟩ := split_at d P l
      refine ⟨m + 1, by simpa using h1, fun j hj => ?_, fun h => ?_⟩
      · cases j with
        | zero => simpa using hx
        | succ j => have := h2 j (by omega); simpa using this
      · have := h3 (by simpa using h); simpa using this
    · exact ⟨0, by simp, fun j h => absurd h (by omega), fun _ => by simpa using hx⟩
theorem srt_le {l : PL} (hs : PSrt l) {i j : Nat} (h : i ≤ j) (hj : j < l.length) : ¬ 0 < bcmp (l.getD i ([], 0)).1 (l.getD j ([], 0)).1 := by
  by_cases e : i = j
  · subst e; rw [bcmp_self]; omega
  · have : bcmp (l.getD i ([], 0)).1 (l.getD j ([], 0)).1 = -1 := srt_at hs (by omega) hj
    rw [this]; omega
theorem srt_ge {l : PL} (hs : PSrt l) {i j : Nat} (h : i ≤ j) (hj : j < l.length) : ¬ bcmp (l.getD j ([], 0)).1 (l.getD i ([], 0)).1 < 0 := by
  by_cases e : i = j
  · subst e; rw [bcmp_self]; omega
  · rw [slt_gt (srt_at hs (i := i) (j := j) (by omega) hj)]; omega
theorem find_same {α : Type} {f g : α → Bool} : ∀ {l : List α}, (∀ x ∈ l, f x = g x) → l.find? f = l.find? g
  | [], _ => rfl
  | x :: l, h => by
    rw [List.find?_cons, List.find?_cons, h x (by simp), find_same fun y hy => h y (by simp [hy])]
def thereB (l : PL) (k : List Nat) (i : Nat) : Bool := (l.take i).any fun p => bcmp p.1 k == 0
/-- what the law leans on -/
structure GapF (l : PL) (k : List Nat) (iLo iFl iCe iHi : Bool) (klo kfl kce khi : List Nat) (ylo yfl yce yhi : Int) : Prop where
  c1 : iLo = true → ¬ 0 ≤ bcmp klo k
  c2 : iFl = true → ¬ 0 < bcmp kfl k
  c3 : iCe = true → ¬ bcmp kce k < 0
  c4 : iHi = true → ¬ bcmp khi k ≤ 0
  lo : ∀ i, i < l.length → bcmp (l.getD i ([], 0)).1 k = -1 → iLo = true ∧ ¬ 0 < bcmp (l.getD i ([], 0)).1 klo
  hi : ∀ i, i < l.length → bcmp (l.getD i ([], 0)).1 k = 1 → iHi = true ∧ ¬ bcmp (l.getD i ([], 0)).1 khi < 0
  yes : thereB l k l.length = true → iFl = true ∧ iCe = true ∧ kfl = k ∧ kce = k ∧ yfl = yce
  no : thereB l k l.length = false → iFl = iLo ∧ iCe = iHi ∧ kfl = klo ∧ kce = khi
theorem gap_of {l : PL} (hs : PSrt l) (k : List Nat) : GapF l k (dnL true k l).isSome (dnL false k l).isSome (upL false k l).isSome (upL true k l).isSome ((dnL true k l).getD ([], 0)).1 ((dnL false k l).getD ([], 0)).1 ((upL false k l).getD ([], 0)).1 ((upL true k l).getD ([], 0)).1 ((dnL true k l).getD ([], 0)).2 ((dnL false k l).getD ([], 0)).2 ((upL false k l).getD ([], 0)).2 ((upL true k l).getD ([], 0)).2 where
  c1 := fun h => by
    obtain ⟨p, e⟩ := Option.isSome_iff_exists.1 h
    have := List.find?_some (show l.reverse.find? _ = some p from e)
    rw [e]
    simp only [dnB, if_true, beq_iff_eq] at this
    simp only [Option.getD_some]
    omega
  c2 := fun h => by
    obtain ⟨p, e⟩ := Option.isSome_iff_exists.1 h
    have := List.find?_some (show l.reverse.find? _ = some p from e)
    rw [e]
    simp only [dnB, Bool.false_eq_true, if_false, Bool.not_eq_true', beq_eq_false_iff_ne] at this
    simp only [Option.getD_some]
    rcases bcmp_three p.1 k with ⟨_, q⟩ | ⟨_, q⟩ | ⟨_, q⟩ <;> omega
  c3 := fun h => by
    obtain ⟨p, e⟩ := Option.isSome_iff_exists.1 h
    have := List.find?_some (show l.find? _ = some p from e)
    rw [e]
    simp only [upB, Bool.false_eq_true, if_false, Bool.not_eq_true', beq_eq_false_iff_ne] at this
    simp only [Option.getD_some]
    rcases bcmp_three p.1 k with ⟨_, q⟩ | ⟨_, q⟩ | ⟨_, q⟩ <;> omega
  c4 := fun h => by
    obtain ⟨p, e⟩ := Option.isSome_iff_exists.1 h
    have := List.find?_some (show l.find? _ = some p from e)
    rw [e]
    simp only [upB, if_true, beq_iff_eq] at this
    simp only [Option.getD_some]
    omega
  lo := fun i hi hv => by
    obtain ⟨m, h1, h2, h3⟩ := split_at ([], 0) (fun p : List Nat × Int => bcmp p.1 k < 0) l
    obtain ⟨_, e⟩ := ahead_ceil (k := k) hs h1 h2 h3
    have him : i < m := by
      rcases Nat.lt_or_ge i m with q | q
      · exact q
      · exfalso
        have hm : m < l.length := by omega
        have h4 := h3 hm
        by_cases em : m = i
        · subst em; rw [hv] at h4; omega
        · have q1 : slt (l.getD m ([], 0)).1 (l.getD i ([], 0)).1 := srt_at hs (by omega) hi
          have q2 : slt (l.getD m ([], 0)).1 k := slt_trans q1 hv
          have q2 : bcmp (l.getD m ([], 0)).1 k = -1 := q2
          rw [q2] at h4; omega
    have e2 : atO l ((m : Int) - 1) = some (l.getD (m - 1) ([], 0)) := by rw [show (m : Int) - 1 = ((m - 1 : Nat) : Int) by omega]; exact atO_in (by omega)
    rw [← e, e2]
    exact ⟨rfl, srt_le hs (by omega) (by omega)⟩
  hi := fun i hi hv => by
    obtain ⟨m, h1, h2, h3⟩ := split_at ([], 0) (fun p : List Nat × Int => bcmp p.1 k ≤ 0) l
    obtain ⟨e, _⟩ := upto_floor (k := k) hs h1 h2 h3
    have him : m ≤ i := by
      rcases Nat.lt_or_ge i m with q | q
      · have := h2 i q; rw [hv] at this; omega
      · exact q
    rw [← e, atO_in (show m < l.length by omega)]
    exact ⟨rfl, srt_ge hs him hi⟩
  yes := fun h => by
    unfold thereB at h
    rw [List.take_length, List.any_eq_true] at h
    obtain ⟨p, hp, hz⟩ := h
    have hz : bcmp p.1 k = 0 := by simpa using hz
    obtain ⟨i, hi, e⟩ := List.getElem_of_mem hp
    have hpk : p.1 = k := (bcmp_zero _ _).1 hz
    have eg : l.getD i ([], 0) = p := by rw [getD_of_lt hi]; exact e
    have e1 : dnL false k l = some p := by
      have := find_last (f := fun q => dnB false k q.1) ([], 0) (l := l) (m := i + 1) (fun j hj => dnB_ngt fun q => ?_) (by omega) (fun j h3 h4 => dnB_gt ?_)
      · unfold dnL; rw [this, if_pos (by omega), Nat.add_sub_cancel, eg]
      · have := srt_le hs (show j ≤ i by omega) hi
        rw [eg, hpk] at this
        exact this (by rw [q]; omega)
      · have := slt_gt (srt_at hs (show i < j by omega) h4)
        rw [eg, hpk] at this
        exact this
    have e2 : upL false k l = some p := by
      have := find_first (f := fun q => upB false k q.1) ([], 0) (l := l) (m := i) (fun j hj => upB_lt ?_) (by omega) (fun _ => upB_nlt ?_)
      · unfold upL; rw [this, if_pos hi, eg]
      · have : bcmp (l.getD j ([], 0)).1 (l.getD i ([], 0)).1 = -1 := srt_at hs hj hi
        rw [eg, hpk] at this
        exact this
      · rw [eg, hz]; omega
    rw [e1, e2]
    exact ⟨rfl, rfl, hpk, hpk, rfl⟩
  no := fun h => by
    unfold thereB at h
    rw [List.take_length, List.any_eq_false] at h
    have hne : ∀ p ∈ l, bcmp p.1 k ≠ 0 := fun p hp => by have := h p hp; simpa using this
    have e1 : dnL false k l = dnL true k l := by
      unfold dnL
      refine find_same fun p hp => ?_
      have := hne p (List.mem_reverse.1 hp)
      rcases bcmp_three p.1 k with ⟨_, q⟩ | ⟨_, q⟩ | ⟨_, q⟩ <;> simp [dnB, q] at this ⊢
    have e2 : upL false k l = upL true k l := by
      unfold upL
      refine find_same fun p hp => ?_
      have := hne p hp
      rcases bcmp_three p.1 k with ⟨_, q⟩ | ⟨_, q⟩ | ⟨_, q⟩ <;> simp [upB, q] at this ⊢
    rw [e1, e2]
    exact ⟨rfl, rfl, rfl, rfl⟩
theorem thereB_succ {l : PL} {k : List Nat} {i : Nat} (hi : i < l.length) : thereB l k (i + 1) = (thereB l k i || bcmp (l.getD i ([], 0)).1 k == 0) := by
  unfold thereB
  rw [List.take_succ_eq_append_getElem hi, List.any_append, getD_of_lt hi]
  simp
set_option maxHeartbeats 8000000 in
set_option maxRecDepth 100000 in
theorem NearGap_any (w : World) (a : Option Addr) (n c : Nat) (l : PL) (h : Prs w a n c l) (ka : Option Addr) (kn kc : Nat) (k : List Nat) (hK : Sl w ka kn kc k) : Calls Try.prog 9 #[.slice a n c, .slice ka kn kc] w (truePost w) := by
  have hF := Lib.hid (far_17 w a n c l h 300 (by omega))
  have hal := Lib.hid (fun w => alive17 w)
  cases hb : (decide (300 < n) || farL 300 l) with
  | true =>
    rw [hb] at hF
    clear h hK hb
    go_enter Try.func9, Try.ntmps9
    go_wp2_with (first
      | (go_at_call 48; refine hF.out.mono ?_; rintro e w1 ⟨rfl, z1⟩; have B1 := Lib.hid z1; clear z1)
      | (go_at_call 49; refine (hal.out _).mono ?_; rintro e w2 ⟨rfl, z1⟩; have B2 := Lib.hid (B1.out.trans (z1.mono B1.out.size)); clear z1))
    go_ret
    exact ⟨rfl, B2.out⟩
  | false =>
    obtain ⟨h1, h3⟩ := far_m hb
    rw [hb] at hF
    by_cases h2 : 600 < kn
    · have j2 : (600 : Int) < (kn : Int) := by omega
      clear h hK hb h3
      go_enter Try.func9, Try.ntmps9
      go_wp2_with (first
        | (go_at_call 48; refine hF.out.mono ?_; rintro e w1 ⟨rfl, z1⟩; have B1 := Lib.hid z1; clear z1)
        | (go_at_call 49; refine (hal.out _).mono ?_; rintro e w2 ⟨rfl, z1⟩; have B2 := Lib.hid (B1.out.trans (z1.mono B1.out.size)); clear z1))
      go_ret
      exact ⟨rfl, B2.out⟩
    · have j2 : ¬ (600 : Int) < (kn : Int) := by omega
      have HK := Lib.hid hK
      have hkn : Hid (kn ≤ 1000) := by show _ ≤ _; omega
      have hnn : Hid (n ≤ 300) := h1
      have hso := Lib.hid (fun w1 (b1 : Below w.heap.size w w1) => sort_near (h.below b1) h1 h3)
      have hCmp : Hid (∀ X a n c s b m d t, Sl X a n c s → Sl X b m d t → Calls Try.prog 64 #[.slice a n c, .slice b m d] X fun e w' => e = .returned (.int .i64 (bcmp s t)) ∧ Below X.heap.size X w') := fun X a n c s b m d t h1 h2 => (quiet_cmp h1 h2 0).mono fun e w' ⟨q1, p, q2⟩ => ⟨q1, by rw [q2]; exact below_drewN (Below.refl _ _) _⟩
      have hSame : Hid (∀ X a n c s b m d, Sl X a n c s → Sl X b m d s → Calls Try.prog 47 #[.slice a n c, .slice b m d] X (belowPost (.bool true) X)) := fun X a n c s b m d h1 h2 => same_true h1 h2
      clear h hK hb h3 h1 h2
      go_enter Try.func9, Try.ntmps9
      go_upto_region 8 with (first
        | (go_at_call 62; refine (hX.out.hi _ V3.out (HK.out.below (BX.out.trans (V3.out.mono BX.out.size))) hkn.out).mono ?_; rintro e w7 ⟨a7, m7, c7, rfl, s7, z⟩
           have zz := z.alloc z.size (.cells #[.slice a7 m7 c7, .int .u64 ((upL true k l0).getD ([], 0)).2] apT)
           have KA1 := Lib.hid (K1.out.below zz)
           have KA2 := Lib.hid (K2.out.below zz)
           have KA3 := Lib.hid (K3.out.below zz)
           have KA4 := Lib.hid (bxc_new (y := ((upL true k l0).getD ([], 0)).2) apT s7)
           have V4 := Lib.hid (V3.out.trans (zz.mono V3.out.size))
           clear z zz s7)
        | (go_at_call 58; refine (hX.out.ce _ V2.out (HK.out.below (BX.out.trans (V2.out.mono BX.out.size))) hkn.out).mono ?_; rintro e w6 ⟨a6, m6, c6, rfl, s6, z⟩
           have zz := z.alloc z.size (.cells #[.slice a6 m6 c6, .int .u64 ((upL false k l0).getD ([], 0)).2] apT)
           have K1 := Lib.hid (K1.out.below zz)
           have K2 := Lib.hid (K2.out.below zz)
           have K3 := Lib.hid (bxc_new (y := ((upL false k l0).getD ([], 0)).2) apT s6)
           have V3 := Lib.hid (V2.out.trans (zz.mono V2.out.size))
           clear z zz s6)
        | (go_at_call 56; refine (hX.out.fl _ V1.out (HK.out.below (BX.out.trans (V1.out.mono BX.out.size))) hkn.out).mono ?_; rintro e w5 ⟨a5, m5, c5, rfl, s5, z⟩
           have zz := z.alloc z.size (.cells #[.slice a5 m5 c5, .int .u64 ((dnL false k l0).getD ([], 0)).2] apT)
           have K1 := Lib.hid (K1.out.below zz)
           have K2 := Lib.hid (bxc_new (y := ((dnL false k l0).getD ([], 0)).2) apT s5)
           have V2 := Lib.hid (V1.out.trans (zz.mono V1.out.size))
           clear z zz s5)
        | (go_at_call 60; refine (hX.out.lo _ (Below.refl _ _) (HK.out.below BX.out) hkn.out).mono ?_; rintro e w4 ⟨a4, m4, c4, rfl, s4, z⟩
           have zz := z.alloc z.size (.cells #[.slice a4 m4 c4, .int .u64 ((dnL true k l0).getD ([], 0)).2] apT)
           have K1 := Lib.hid (bxc_new (y := ((dnL true k l0).getD ([], 0)).2) apT s4)
           have V1 := Lib.hid zz
           clear z zz s4)
        | (go_at_call 50; refine hT.out.mono ?_; rintro e w3 ⟨at_, t, Q, rfl, z1, z2, z3, z4, z5, z6, z7⟩
           have BX := Lib.hid (B2.out.trans (z1.mono B2.out.size))
           have hX := Lib.hid z2
           have hl0 : Hid (l0.length ≤ 300) := (by show _ ≤ _; have := Hmn.out; have := hnn.out; have := HP.out.len; omega)
           have hLs : Hid (∀ X, Below w3.heap.size w3 X → Calls Try.prog 46 #[.pointer at_] X (prsPost l0 X)) := fun X hb => (by
             have := list_any (z3.below hb) z4 z5 z7 (by rw [z6]; have := hl0.out; omega)
             rw [z6] at this
             exact this)
           have hG := Lib.hid (gap_of HSr.out k)
           clear z1 z2 hT z3 z4 z5 z6 z7)
        | (go_at_call 37; refine (hso.out _ B1.out).mono ?_; rintro e w2 ⟨a2, m, c2, l0, rfl, z4, z6, z7, z8, _, z5⟩; have B2 := Lib.hid (B1.out.trans (z4.mono B1.out.size)); have HP := Lib.hid z6; have HSr := Lib.hid z7; have Hmn := Lib.hid z8; have hT := Lib.hid z5; clear z4 z5 z6 z7 z8)
        | (go_at_call 48; refine hF.out.mono ?_; rintro e w1 ⟨rfl, z1⟩; have B1 := Lib.hid z1; clear z1))
      clear hX HP HSr Hmn hso hF V1 V2 V3
      generalize w7.alloc (.cells #[.slice a7 m7 c7, .int .u64 ((upL true k l0).getD ([], 0)).2] apT) = W0 at *
      generalize (dnL true k l0).isSome = iLo at *
      generalize (dnL false k l0).isSome = iFl at *
      generalize (upL false k l0).isSome = iCe at *
      generalize (upL true k l0).isSome = iHi at *
      generalize ((dnL true k l0).getD ([], 0)).1 = klo at *
      generalize ((dnL false k l0).getD ([], 0)).1 = kfl at *
      generalize ((upL false k l0).getD ([], 0)).1 = kce at *
      generalize ((upL true k l0).getD ([], 0)).1 = khi at *
      generalize ((dnL true k l0).getD ([], 0)).2 = ylo at *
      generalize ((dnL false k l0).getD ([], 0)).2 = yfl at *
      generalize ((upL false k l0).getD ([], 0)).2 = yce at *
      generalize ((upL true k l0).getD ([], 0)).2 = yhi at *
      have BW := Lib.hid (BX.out.trans (V4.out.mono BX.out.size))
      have hall : Hid (∀ X, Below W0.heap.size W0 X → X.cell? ⟨w4.heap.size, 0, none⟩ = some (.slice a4 m4 c4) ∧ X.cell? ⟨w4.heap.size, 1, none⟩ = some (.int .u64 ylo) ∧ X.cell? ⟨w5.heap.size, 0, none⟩ = some (.slice a5 m5 c5) ∧ X.cell? ⟨w5.heap.size, 1, none⟩ = some (.int .u64 yfl) ∧ X.cell? ⟨w6.heap.size, 0, none⟩ = some (.slice a6 m6 c6) ∧ X.cell? ⟨w6.heap.size, 1, none⟩ = some (.int .u64 yce) ∧ X.cell? ⟨w7.heap.size, 0, none⟩ = some (.slice a7 m7 c7) ∧ X.cell? ⟨w7.heap.size, 1, none⟩ = some (.int .u64 yhi)) := fun X hb =>
        ⟨(KA1.out.below hb).cells.1, (KA1.out.below hb).cells.2.1, (KA2.out.below hb).cells.1, (KA2.out.below hb).cells.2.1, (KA3.out.below hb).cells.1, (KA3.out.below hb).cells.2.1, (KA4.out.below hb).cells.1, (KA4.out.below hb).cells.2.1⟩
      have S1 : Hid (∀ X, Below W0.heap.size W0 X → Sl X a4 m4 c4 klo) := fun X hb => (KA1.out.below hb).cells.2.2.2.2
      have S2 : Hid (∀ X, Below W0.heap.size W0 X → Sl X a5 m5 c5 kfl) := fun X hb => (KA2.out.below hb).cells.2.2.2.2
      have S3 : Hid (∀ X, Below W0.heap.size W0 X → Sl X a6 m6 c6 kce) := fun X hb => (KA3.out.below hb).cells.2.2.2.2
      have S4 : Hid (∀ X, Below W0.heap.size W0 X → Sl X a7 m7 c7 khi) := fun X hb => (KA4.out.below hb).cells.2.2.2.2
      have SK : Hid (∀ X, Below W0.heap.size W0 X → Sl X ka kn kc k) := fun X hb => HK.out.below (BW.out.trans (hb.mono BW.out.size))
      have BC := Lib.hid (Below.refl W0.heap.size W0)
      obtain ⟨f1, f2, f3, f4, f5, f6, f7, f8⟩ := hall.out W0 BC.out
      clear KA1 KA2 KA3 KA4 K1 K2 K3
      go_cut [90] from 53 to 89 (fun s90 w' => s90 = .bool false ∧ Hid (Below W0.heap.size W0 w'))
      case first =>
        have c1 := Lib.hid hG.out.c1
        have c2 := Lib.hid hG.out.c2
        have c3 := Lib.hid hG.out.c3
        have c4 := Lib.hid hG.out.c4
        clear hG
        cases iLo <;> cases iFl <;> cases iCe <;> cases iHi
        all_goals
          (try have e1 := c1.out rfl)
          (try have e2 := c2.out rfl)
          (try have e3 := c3.out rfl)
          (try have e4 := c4.out rfl)
          go_wp2_with (first
            | (go_at_call 64; refine (hCmp.out _ _ _ _ _ _ _ _ _ (by first | exact S1.out _ BC.out | exact S2.out _ BC.out | exact S3.out _ BC.out | exact S4.out _ BC.out) (SK.out _ BC.out)).mono ?_; rintro e w8 ⟨rfl, z⟩
               have BC := Lib.hid (BC.out.trans (z.mono BC.out.size))
               obtain ⟨f1, f2, f3, f4, f5, f6, f7, f8⟩ := hall.out w8 BC.out
               clear z))
          go_meet
        all_goals
          refine ⟨?_, BC.out⟩
          first
            | rfl
            | (simp only [Value.bool.injEq, Bool.or_eq_false_iff, decide_eq_false_iff_not]; omega)
      case rest =>
        obtain ⟨rfl, hBC⟩ := hcut
        have BC := hBC
        obtain ⟨f1, f2, f3, f4, f5, f6, f7, f8⟩ := hall.out wc BC.out
        have hLc := Lib.hid (hLs.out wc (V4.out.trans (BC.out.mono V4.out.size)))
        clear hLs
        go_wp2_with (go_at_call 46; refine hLc.out.mono ?_; rintro e w9 ⟨a9, c9, rfl, z1, z2⟩; have HPL := Lib.hid z1; have B9 := Lib.hid (BC.out.trans (z2.mono BC.out.size)); clear z1 z2)
        obtain ⟨M, hM⟩ : ∃ M, M = l0.length := ⟨_, rfl⟩
        have HM := Lib.hid hM
        have hM300 : M ≤ 300 := by rw [hM]; exact hl0.out
        have t0 : Hid (thereB l0 k 0 = false) := by show _ = _; simp [thereB]
        have tS : Hid (∀ i, i < M → thereB l0 k (i + 1) = (thereB l0 k i || bcmp (l0.getD i ([], 0)).1 k == 0)) := fun i hi => thereB_succ (by rw [← hM]; exact hi)
        have gLo : Hid (∀ i, i < M → bcmp (l0.getD i ([], 0)).1 k = -1 → iLo = true ∧ ¬ 0 < bcmp (l0.getD i ([], 0)).1 klo) := fun i hi => hG.out.lo i (by rw [← hM]; exact hi)
        have gHi : Hid (∀ i, i < M → bcmp (l0.getD i ([], 0)).1 k = 1 → iHi = true ∧ ¬ bcmp (l0.getD i ([], 0)).1 khi < 0) := fun i hi => hG.out.hi i (by rw [← hM]; exact hi)
        have gY : Hid (thereB l0 k M = true → iFl = true ∧ iCe = true ∧ kfl = k ∧ kce = k ∧ yfl = yce) := fun q => hG.out.yes (by rw [← hM]; exact q)
        have gN : Hid (thereB l0 k M = false → iFl = iLo ∧ iCe = iHi ∧ kfl = klo ∧ kce = khi) := fun q => hG.out.no (by rw [← hM]; exact q)
        rw [← hM] at HPL ⊢
        obtain ⟨T, hT⟩ : ∃ T : Nat → Bool, T = thereB l0 k := ⟨_, rfl⟩
        rw [← hT] at t0 tS gY gN
        clear hG hM hT hLc f1 f2 f3 f4 f5 f6 f7 f8
        go_loopw [94, 14] (fun v94 v14 wr => ∃ i : Nat, v94 = .int .i64 (i : Nat) ∧ v14 = .bool (T i) ∧ i ≤ M ∧ Hid (Below w9.heap.size w9 wr)) (fun v94 _ _ => (M - intOf v94).toNat)
        case atStart => exact ⟨0, rfl, by rw [t0.out], Nat.zero_le _, Below.refl _ _⟩
        case round =>
          obtain ⟨i, rfl, rfl, hi, hB⟩ := hrel
          have BCr := Lib.hid (B9.out.trans (hB.out.mono B9.out.size))
          by_cases hlt : i < M
          · have l1 : (i : Int) < (M : Int) := by omega
            obtain ⟨p, a3, n3, c3, rfl, q1, q2, q3⟩ := prs_row (HPL.out.below hB.out) hlt
            have hts := tS.out i hlt
            have glo := gLo.out i hlt
            have ghi := gHi.out i hlt
            have hw8 : IntKind.i64.wrap (((i : Nat) : Int) + 1) = ((i + 1 : Nat) : Int) := by rw [show ((i : Nat) : Int) + 1 = ((i + 1 : Nat) : Int) by omega]; exact IntWalk.i64_in _ (by omega)
            generalize (l0.getD i ([], 0)).2 = yi at *
            generalize (l0.getD i ([], 0)).1 = ki at *
            have hAl : Below wr.heap.size wr (wr.alloc (.cells #[.slice a3 n3 c3, .int .u64 yi] apT)) := below_al _ _
            have hP9 := Lib.hid (bxc_new (y := yi) apT q3)
            have BD : Hid (Below w9.heap.size w9 (wr.alloc (.cells #[.slice a3 n3 c3, .int .u64 yi] apT))) := hB.out.alloc hB.out.size _
            have BE := Lib.hid (B9.out.trans (BD.out.mono B9.out.size))
            obtain ⟨g1, g2, _⟩ := hP9.out.cells
            obtain ⟨f1, f2, f3, f4, f5, f6, f7, f8⟩ := hall.out _ BE.out
            have HTS := Lib.hid hts
            clear q3 hAl hts
            have hV : bcmp ki k = -1 ∨ bcmp ki k = 0 ∨ bcmp ki k = 1 := by rcases bcmp_three ki k with ⟨_, q⟩ | ⟨_, q⟩ | ⟨_, q⟩ <;> simp [q]
            obtain ⟨ti, hti⟩ : ∃ ti, ti = T i := ⟨_, rfl⟩
            rw [← hti] at HTS ⊢
            clear hti
            rcases hV with hV | hV | hV
            · obtain ⟨hu1, hu2⟩ := glo hV
              have HT2 : Hid (ti = T (i + 1)) := by show _ = _; rw [HTS.out, hV]; simp
              subst hu1
              clear glo ghi HTS
              cases ti
              all_goals
                go_wp2_with (first
                  | (go_at_call 64; refine (hCmp.out _ _ _ _ _ _ _ _ _ (hP9.out.cells.2.2.2.2) (by first | exact SK.out _ BE.out | exact S1.out _ BE.out | exact S4.out _ BE.out)).mono ?_; rintro e w8 ⟨rfl, z⟩
                     have BD := Lib.hid (BD.out.trans (z.mono BD.out.size))
                     have BE := Lib.hid (BE.out.trans (z.mono BE.out.size))
                     have hP9 := Lib.hid (hP9.out.below z)
                     obtain ⟨g1, g2, _⟩ := hP9.out.cells
                     obtain ⟨f1, f2, f3, f4, f5, f6, f7, f8⟩ := hall.out w8 BE.out
                     clear z))
                go_roundw
                case rel => exact ⟨i + 1, (by first | rfl | go_num), by rw [HT2.out], by omega, BD⟩
                case measure => (simp [intOf]) <;> omega
            · have HT2 : Hid (true = T (i + 1)) := by show _ = _; rw [HTS.out, hV]; simp
              clear glo ghi HTS
              cases ti
              all_goals
                go_wp2_with (first
                  | (go_at_call 64; refine (hCmp.out _ _ _ _ _ _ _ _ _ (hP9.out.cells.2.2.2.2) (by first | exact SK.out _ BE.out | exact S1.out _ BE.out | exact S4.out _ BE.out)).mono ?_; rintro e w8 ⟨rfl, z⟩
                     have BD := Lib.hid (BD.out.trans (z.mono BD.out.size))
                     have BE := Lib.hid (BE.out.trans (z.mono BE.out.size))
                     have hP9 := Lib.hid (hP9.out.below z)
                     obtain ⟨g1, g2, _⟩ := hP9.out.cells
                     obtain ⟨f1, f2, f3, f4, f5, f6, f7, f8⟩ := hall.out w8 BE.out
                     clear z))
                go_roundw
                case rel => exact ⟨i + 1, (by first | rfl | go_num), by rw [HT2.out], by omega, BD⟩
                case measure => (simp [intOf]) <;> omega
            · obtain ⟨hu1, hu2⟩ := ghi hV
              have HT2 : Hid (ti = T (i + 1)) := by show _ = _; rw [HTS.out, hV]; simp
              subst hu1
              clear glo ghi HTS
              cases ti
              all_goals
                go_wp2_with (first
                  | (go_at_call 64; refine (hCmp.out _ _ _ _ _ _ _ _ _ (hP9.out.cells.2.2.2.2) (by first | exact SK.out _ BE.out | exact S1.out _ BE.out | exact S4.out _ BE.out)).mono ?_; rintro e w8 ⟨rfl, z⟩
                     have BD := Lib.hid (BD.out.trans (z.mono BD.out.size))
                     have BE := Lib.hid (BE.out.trans (z.mono BE.out.size))
                     have hP9 := Lib.hid (hP9.out.below z)
                     obtain ⟨g1, g2, _⟩ := hP9.out.cells
                     obtain ⟨f1, f2, f3, f4, f5, f6, f7, f8⟩ := hall.out w8 BE.out
                     clear z))
                go_roundw
                case rel => exact ⟨i + 1, (by first | rfl | go_num), by rw [HT2.out], by omega, BD⟩
                case measure => (simp [intOf]) <;> omega
          · obtain rfl : i = M := by omega
            have l1 : ¬ (i : Int) < (i : Int) := by omega
            obtain ⟨f1, f2, f3, f4, f5, f6, f7, f8⟩ := hall.out wr BCr.out
            cases hti : T i with
            | true =>
              obtain ⟨h1, h2, h3, h4, h5⟩ := gY.out hti
              clear hti gY gN gLo gHi tS t0
              subst h1 h2 h3 h4 h5
              go_wp2_with (first
                | (go_at_call 47; refine (hSame.out _ _ _ _ _ _ _ _ (by first | exact S2.out _ BCr.out | exact S3.out _ BCr.out) (SK.out _ BCr.out)).mono ?_; rintro e w8 ⟨rfl, z⟩
                   have BCr := Lib.hid (BCr.out.trans (z.mono BCr.out.size))
                   obtain ⟨f1, f2, f3, f4, f5, f6, f7, f8⟩ := hall.out w8 BCr.out
                   clear z)
                | (go_at_call 49; refine (hal.out _).mono ?_; rintro e w8 ⟨rfl, z⟩; have BCr := Lib.hid (BCr.out.trans (z.mono BCr.out.size)); clear z))
              go_ret
              exact ⟨rfl, BW.out.trans (BCr.out.mono BW.out.size)⟩
            | false =>
              obtain ⟨h1, h2, h3, h4⟩ := gN.out hti
              clear hti gY gN gLo gHi tS t0
              subst h1 h2 h3 h4
              go_wp2_with (first
                | (go_at_call 47; refine (hSame.out _ _ _ _ _ _ _ _ (by first | exact S2.out _ BCr.out | exact S3.out _ BCr.out) (by first | exact S1.out _ BCr.out | exact S4.out _ BCr.out)).mono ?_; rintro e w8 ⟨rfl, z⟩
                   have BCr := Lib.hid (BCr.out.trans (z.mono BCr.out.size))
                   obtain ⟨f1, f2, f3, f4, f5, f6, f7, f8⟩ := hall.out w8 BCr.out
                   clear z)
                | (go_at_call 49; refine (hal.out _).mono ?_; rintro e w8 ⟨rfl, z⟩; have BCr := Lib.hid (BCr.out.trans (z.mono BCr.out.size)); clear z))
              go_ret
              exact ⟨rfl, BW.out.trans (BCr.out.mono BW.out.size)⟩
end Go.Proofs.Ytkonbldjmcccmaa
