/- The law BoundsSpans. -/
import Derived.Test.YtehamfhblpokbaaDoorU11B
import Derived.StillTailTactics
import Derived.Deep.RegionHeld3
set_option linter.unusedVariables false
set_option linter.unusedSimpArgs false
namespace Go.Proofs.YtehamfhblpokbaaDoor
open Go.RowKit
set_option maxHeartbeats 40000000 in
set_option maxRecDepth 100000 in
theorem BoundsSpans_any (w : World) (a1 a2 a3 a4 a0 : Option Addr) (n0 c0 n1 c1 n2 c2 n3 c3 n4 c4 : Nat) (k f t f' t' : List Nat) (o o' : Bool) (h1 : Sl w a1 n1 c1 f) (h2 : Sl w a2 n2 c2 t) (h3 : Sl w a3 n3 c3 f') (h4 : Sl w a4 n4 c4 t') (h0 : Sl w a0 n0 c0 k) :
    Calls Tryd.prog 3 #[.agg #[.slice a1 n1 c1, .slice a2 n2 c2, .bool o], .agg #[.slice a3 n3 c3, .slice a4 n4 c4, .bool o'], .slice a0 n0 c0] w (LawPost w) := by
  obtain ⟨w3, hw3⟩ : ∃ w3, w3 = ((w.alloc (.cells #[.slice a1 n1 c1, .slice a2 n2 c2, .bool o] rsT)).alloc (.cells #[.slice a3 n3 c3, .slice a4 n4 c4, .bool o'] rsT)).alloc (.cells #[.slice a1 n1 c1, .slice a2 n2 c2, .bool o, .slice a3 n3 c3, .slice a4 n4 c4, .bool o'] rsT) := ⟨_, rfl⟩
  obtain ⟨hF, hB3, hC⟩ := far_at w o o' w3 hw3
  have hF := Lib.hid hF
  have HB3 := Lib.hid hB3
  have HC := Lib.hid hC
  have hal := Lib.hid (fun w => aliveB_any w)
  have hall := Lib.hid (fun w4 (b : Below w3.heap.size w3 w4) (m : n1 ≤ 300 ∧ n2 ≤ 300 ∧ n3 ≤ 300 ∧ n4 ≤ 300) (m0 : n0 ≤ 300) => bds_of ((h1.below hB3).below b) ((h2.below hB3).below b) o ((h3.below hB3).below b) ((h4.below hB3).below b) o' ((h0.below hB3).below b) m.1 m.2.1 m.2.2.1 m.2.2.2 m0)
  clear h1 h2 h3 h4 h0 hB3 hC
  have hfm := Lib.hid (farB_no (n1 := n1) (n2 := n2) (n3 := n3) (n4 := n4))
  generalize hV : farB n1 n2 n3 n4 = V at hF
  generalize hasB f t o k = H at *
  generalize (!o && decide (0 ≤ bcmp f t)) = Em at *
  generalize (decide (f = f') && (o == o' && (o || decide (t = t')))) = Sm at *
  have HV := Lib.hid hV
  clear hV
  go_enter Tryd.func3, Tryd.ntmps3
  go_wp2_with fail
  rw [← hw3]
  clear hw3
  cases V with
  | true =>
    go_wp2_with (first
      | (go_at_call 7; refine (hal.out _).mono ?_; rintro e w5 ⟨rfl, z1⟩; have B5 := Lib.hid (B4.out.trans (z1.mono B4.out.size)); clear z1)
      | (go_at_call 6; refine hF.out.mono ?_; rintro e w4 ⟨rfl, z1⟩; have B4 := Lib.hid (HB3.out.trans (z1.mono HB3.out.size)); clear z1))
    go_ret
    exact ⟨rfl, B5.out⟩
  | false =>
    by_cases hk : 300 < n0
    · have hk2 : (300 : Int) < (n0 : Int) := by omega
      go_wp2_with (first
        | (go_at_call 7; refine (hal.out _).mono ?_; rintro e w5 ⟨rfl, z1⟩; have B5 := Lib.hid (B4.out.trans (z1.mono B4.out.size)); clear z1)
        | (go_at_call 6; refine hF.out.mono ?_; rintro e w4 ⟨rfl, z1⟩; have B4 := Lib.hid (HB3.out.trans (z1.mono HB3.out.size)); clear z1))
      go_ret
      exact ⟨rfl, B5.out⟩
    · have hk2 : ¬ (300 : Int) < (n0 : Int) := by omega
      go_wp2_with (go_at_call 6; refine hF.out.mono ?_; rintro e w4 ⟨rfl, z1⟩; have B4 := Lib.hid (HB3.out.trans (z1.mono HB3.out.size)); have HD := Lib.hid (hall.out w4 z1 (hfm.out HV.out) (by omega)); have hc := Lib.hid (fun w' (b : Below w4.heap.size w4 w') => HC.out w' (z1.trans (b.mono z1.size))); clear z1)
      clear hall HC hF hfm HB3 hal
      obtain ⟨f0, f1, f2, f3, f4, f5⟩ := hc.out w4 (Below.refl _ _)
      have BC := Lib.hid (Below.refl w4.heap.size w4)
      go_region_held3 (fun w' => w'.cell? ⟨w.heap.size, 0, none⟩ = some (.slice a1 n1 c1) ∧ w'.cell? ⟨w.heap.size, 1, none⟩ = some (.slice a2 n2 c2) ∧ w'.cell? ⟨w.heap.size, 2, none⟩ = some (.bool o) ∧ w'.cell? ⟨w.heap.size + 1, 0, none⟩ = some (.slice a3 n3 c3) ∧ w'.cell? ⟨w.heap.size + 1, 1, none⟩ = some (.slice a4 n4 c4) ∧ w'.cell? ⟨w.heap.size + 1, 2, none⟩ = some (.bool o')) (first | go_keep)
        (first
          | (go_at_call 7; refine (HD.out.alive _ (by first | exact BC.out | exact BC.out.drew | exact below_drewN BC.out _)).mono ?_; rintro e w5 ⟨rfl, z1⟩; have BC := Lib.hid z1; obtain ⟨f0, f1, f2, f3, f4, f5⟩ := hc.out w5 z1; clear z1)
          | (go_at_call 8; refine (hWs.out _ (by first | exact BC.out | exact BC.out.drew | exact below_drewN BC.out _)).mono ?_; rintro e w5 ⟨rfl, z1⟩; have BC := Lib.hid z1; obtain ⟨f0, f1, f2, f3, f4, f5⟩ := hc.out w5 z1; clear z1)
          | (go_at_call 8; refine (hMs.out _ (by first | exact Below.refl _ _ | exact (Below.refl _ _).drew | exact below_drewN (Below.refl _ _) _)).mono ?_; rintro e w5 ⟨rfl, z1⟩; have BC := Lib.hid z1; obtain ⟨f0, f1, f2, f3, f4, f5⟩ := hc.out w5 z1; clear z1)
          | (go_at_call 8; refine (hPs.out _ (by first | exact Below.refl _ _ | exact (Below.refl _ _).drew | exact below_drewN (Below.refl _ _) _)).mono ?_; rintro e w5 ⟨rfl, z1⟩; have BC := Lib.hid z1; obtain ⟨f0, f1, f2, f3, f4, f5⟩ := hc.out w5 z1; clear z1)
          | (go_at_call 20; refine (HD.out.whole _ (by first | exact BC.out | exact BC.out.drew | exact below_drewN BC.out _)).mono ?_; rintro e w5 ⟨rfl, z1⟩; have BC := Lib.hid z1; have hWs := Lib.hid HD.out.wsame; obtain ⟨f0, f1, f2, f3, f4, f5⟩ := hc.out w5 z1; clear z1)
          | (go_at_call 19; refine (hMr.out _ (by first | exact Below.refl _ _ | exact (Below.refl _ _).drew | exact below_drewN (Below.refl _ _) _)).mono ?_; rintro e w5 ⟨b3, g3, j3, b4, g4, j4, q2, rfl, z1, z2⟩; have BC := Lib.hid z1; have hMs := Lib.hid z2; clear z2; obtain ⟨f0, f1, f2, f3, f4, f5⟩ := hc.out w5 z1; clear z1)
          | (go_at_call 18; refine (HD.out.meet _ (by first | exact BC.out | exact BC.out.drew | exact below_drewN BC.out _)).mono ?_; rintro e w5 ⟨b1, g1, j1, b2, g2, j2, q1, rfl, z1, z2⟩; have BC := Lib.hid z1; have hMr := Lib.hid z2; clear z2; obtain ⟨f0, f1, f2, f3, f4, f5⟩ := hc.out w5 z1; clear z1)
          | (go_at_call 17; refine (HD.out.rsame _ (by first | exact BC.out | exact BC.out.drew | exact below_drewN BC.out _)).mono ?_; rintro e w5 ⟨rfl, z1⟩; have BC := Lib.hid z1; obtain ⟨f0, f1, f2, f3, f4, f5⟩ := hc.out w5 z1; clear z1)
          | (go_at_call 16; refine (HD.out.same _ (by first | exact BC.out | exact BC.out.drew | exact below_drewN BC.out _)).mono ?_; rintro e w5 ⟨rfl, z1⟩; have BC := Lib.hid z1; obtain ⟨f0, f1, f2, f3, f4, f5⟩ := hc.out w5 z1; clear z1)
          | (go_at_call 15; refine (HD.out.rempty _ (by first | exact BC.out | exact BC.out.drew | exact below_drewN BC.out _)).mono ?_; rintro e w5 ⟨rfl, z1⟩; have BC := Lib.hid z1; obtain ⟨f0, f1, f2, f3, f4, f5⟩ := hc.out w5 z1; clear z1)
          | (go_at_call 14; refine (HD.out.empty _ (by first | exact BC.out | exact BC.out.drew | exact below_drewN BC.out _)).mono ?_; rintro e w5 ⟨rfl, z1⟩; have BC := Lib.hid z1; obtain ⟨f0, f1, f2, f3, f4, f5⟩ := hc.out w5 z1; clear z1)
          | (go_at_call 13; refine (HD.out.rhas _ (by first | exact BC.out | exact BC.out.drew | exact below_drewN BC.out _)).mono ?_; rintro e w5 ⟨rfl, z1⟩; have BC := Lib.hid z1; obtain ⟨f0, f1, f2, f3, f4, f5⟩ := hc.out w5 z1; clear z1)
          | (go_at_call 11; refine (HD.out.has _ (by first | exact BC.out | exact BC.out.drew | exact below_drewN BC.out _)).mono ?_; rintro e w5 ⟨rfl, z1⟩; have BC := Lib.hid z1; obtain ⟨f0, f1, f2, f3, f4, f5⟩ := hc.out w5 z1; clear z1)
          | (go_at_call 12; refine (HD.out.span _ (by first | exact BC.out | exact BC.out.drew | exact below_drewN BC.out _) _ _ _ _ _ _ _).mono ?_; rintro e w5 ⟨rfl, z1⟩; have BC := Lib.hid z1; obtain ⟨f0, f1, f2, f3, f4, f5⟩ := hc.out w5 z1; clear z1)
          | (go_at_call 10; refine (hPr.out _ (by first | exact Below.refl _ _ | exact (Below.refl _ _).drew | exact below_drewN (Below.refl _ _) _)).mono ?_; rintro e w5 ⟨b3, g3, j3, b4, g4, j4, q2, rfl, z1, z2⟩; have BC := Lib.hid z1; have hPs := Lib.hid z2; clear z2; obtain ⟨f0, f1, f2, f3, f4, f5⟩ := hc.out w5 z1; clear z1)
          | (go_at_call 9; refine (HD.out.pref _ (by first | exact BC.out | exact BC.out.drew | exact below_drewN BC.out _)).mono ?_; rintro e w5 ⟨b1, g1, j1, b2, g2, j2, q1, rfl, z1, z2⟩; have BC := Lib.hid z1; have hPr := Lib.hid z2; clear z2; obtain ⟨f0, f1, f2, f3, f4, f5⟩ := hc.out w5 z1; clear z1))
      all_goals
        (try simp only [Exit.then, Exit.inBlock])
        go_wp2_with fail
        go_ret
        exact ⟨rfl, B4.out.trans (BC.out.mono B4.out.size)⟩
end Go.Proofs.YtehamfhblpokbaaDoor
