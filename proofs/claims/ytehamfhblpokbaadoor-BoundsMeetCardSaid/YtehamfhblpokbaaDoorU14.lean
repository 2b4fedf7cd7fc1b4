/- The law BoundsMeet. -/
import Derived.Test.YtehamfhblpokbaaDoorU11B
import Derived.Test.YtehamfhblpokbaaDoorU13B
import Derived.Deep.Cut
import Derived.StillTailTactics
import Derived.Deep.RegionHeld3
set_option linter.unusedVariables false
set_option linter.unusedSimpArgs false
namespace Go.Proofs.YtehamfhblpokbaaDoor
open Go.RowKit
set_option maxHeartbeats 40000000 in
set_option maxRecDepth 100000 in
theorem BoundsMeet_any (w : World) (a1 a2 a3 a4 a0 : Option Addr) (n0 c0 n1 c1 n2 c2 n3 c3 n4 c4 : Nat) (k f t f' t' : List Nat) (o o' : Bool) (h1 : Sl w a1 n1 c1 f) (h2 : Sl w a2 n2 c2 t) (h3 : Sl w a3 n3 c3 f') (h4 : Sl w a4 n4 c4 t') (h0 : Sl w a0 n0 c0 k) :
    Calls Tryd.prog 4 #[.agg #[.slice a1 n1 c1, .slice a2 n2 c2, .bool o], .agg #[.slice a3 n3 c3, .slice a4 n4 c4, .bool o'], .slice a0 n0 c0] w (LawPost w) := by
  obtain ⟨w3, hw3⟩ : ∃ w3, w3 = ((w.alloc (.cells #[.slice a1 n1 c1, .slice a2 n2 c2, .bool o] rsT)).alloc (.cells #[.slice a3 n3 c3, .slice a4 n4 c4, .bool o'] rsT)).alloc (.cells #[.slice a1 n1 c1, .slice a2 n2 c2, .bool o, .slice a3 n3 c3, .slice a4 n4 c4, .bool o'] rsT) := ⟨_, rfl⟩
  obtain ⟨hF, hB3, hC⟩ := far_at w o o' w3 hw3
  have hF := Lib.hid hF
  have HB3 := Lib.hid hB3
  have HC := Lib.hid hC
  have hal := Lib.hid (fun w => aliveB_any w)
  have hall := Lib.hid (fun w4 (b : Below w3.heap.size w3 w4) (m : n1 ≤ 300 ∧ n2 ≤ 300 ∧ n3 ≤ 300 ∧ n4 ≤ 300) (m0 : n0 ≤ 300) => bms_of ((h1.below hB3).below b) ((h2.below hB3).below b) o ((h3.below hB3).below b) ((h4.below hB3).below b) o' ((h0.below hB3).below b) m.1 m.2.1 m.2.2.1 m.2.2.2 m0)
  clear h1 h2 h3 h4 h0 hB3 hC
  have hfm := Lib.hid (farB_no (n1 := n1) (n2 := n2) (n3 := n3) (n4 := n4))
  generalize hV : farB n1 n2 n3 n4 = V at hF
  generalize hasB f t o k = H1 at *
  generalize hasB f' t' o' k = H2 at *
  generalize (!(toO t o t' o') && decide (0 ≤ bcmp (fromL f f') (toL t o t' o'))) = Em at *
  generalize toO t o t' o' = O at *
  generalize fromL f f' = F at *
  generalize toL t o t' o' = T at *
  have HV := Lib.hid hV
  clear hV
  go_enter Tryd.func4, Tryd.ntmps4
  go_wp2_with fail
  rw [← hw3]
  clear hw3
  cases V with
  | true =>
    go_wp2_with (first
      | (go_at_call 7; refine (hal.out _).mono ?_; rintro e w5 ⟨rfl, z1⟩; have B5 := Lib.hid (B4.out.trans (z1.mono B4.out.size)); clear z1)
      | (go_at_call 6; refine hF.out.mono ?_; rintro e w4 ⟨rfl, z1⟩; have B4 := Lib.hid (HB3.out.trans (z1.mono HB3.out.size)); clear z1))
    go_ret
    exact ⟨rfl, B5.out⟩
  | false =>
    by_cases hk : 300 < n0
    · have hk2 : (300 : Int) < (n0 : Int) := by omega
      go_wp2_with (first
        | (go_at_call 7; refine (hal.out _).mono ?_; rintro e w5 ⟨rfl, z1⟩; have B5 := Lib.hid (B4.out.trans (z1.mono B4.out.size)); clear z1)
        | (go_at_call 6; refine hF.out.mono ?_; rintro e w4 ⟨rfl, z1⟩; have B4 := Lib.hid (HB3.out.trans (z1.mono HB3.out.size)); clear z1))
      go_ret
      exact ⟨rfl, B5.out⟩
    · have hk2 : ¬ (300 : Int) < (n0 : Int) := by omega
      go_wp2_with (go_at_call 6; refine hF.out.mono ?_; rintro e w4 ⟨rfl, z1⟩; have B4 := Lib.hid (HB3.out.trans (z1.mono HB3.out.size)); have HD := Lib.hid (hall.out w4 z1 (hfm.out HV.out) (by omega)); have HF := Lib.hid (fun wx (q : Below w4.heap.size w4 wx) => hall.out wx (z1.trans (q.mono z1.size)) (hfm.out HV.out) (by omega)); have hc := Lib.hid (fun w' (b : Below w4.heap.size w4 w') => HC.out w' (z1.trans (b.mono z1.size))); clear z1)
      clear hall HC hF hfm HB3 hal
      obtain ⟨f0, f1, f2, f3, f4, f5⟩ := hc.out w4 (Below.refl _ _)
      have BC := Lib.hid (Below.refl w4.heap.size w4)
      have hl0 := lt_of_cell f0
      have hl1 := lt_of_cell f3
      go_cut [7] from 10 (fun s7 w' => ∃ g b1 g1 j1 b2 g2 j2, s7 = .pointer (some ⟨g, 0, none⟩) ∧ MB w4 O F T g b1 g1 j1 b2 g2 j2 w')
      case first =>
        go_region_held3 (fun w' => w'.cell? ⟨w.heap.size, 0, none⟩ = some (.slice a1 n1 c1) ∧ w'.cell? ⟨w.heap.size, 1, none⟩ = some (.slice a2 n2 c2) ∧ w'.cell? ⟨w.heap.size, 2, none⟩ = some (.bool o) ∧ w'.cell? ⟨w.heap.size + 1, 0, none⟩ = some (.slice a3 n3 c3) ∧ w'.cell? ⟨w.heap.size + 1, 1, none⟩ = some (.slice a4 n4 c4) ∧ w'.cell? ⟨w.heap.size + 1, 2, none⟩ = some (.bool o')) (first | go_keep | exact ⟨NBk.out.keep hl0 f0 _ _ _, NBk.out.keep hl0 f1 _ _ _, NBk.out.keep hl0 f2 _ _ _, NBk.out.keep hl1 f3 _ _ _, NBk.out.keep hl1 f4 _ _ _, NBk.out.keep hl1 f5 _ _ _⟩)
          (first
                  | (go_at_call 12; refine (HD.out.span _ (by first | exact BC.out | exact BC.out.drew | exact below_drewN BC.out _ | exact BC.out.alloc BC.out.size _ | exact (BC.out.alloc BC.out.size _).drew | exact below_drewN (BC.out.alloc BC.out.size _) _ | exact (BC.out.drew).alloc BC.out.size _ | exact (below_drewN BC.out _).alloc BC.out.size _ | exact below_drewN ((below_drewN BC.out _).alloc BC.out.size _) _) _ _ _ _ _ _ _).mono ?_; rintro e w5 ⟨rfl, z1, z2⟩; (first | (have NBk := Lib.hid (NBk.out.next z2)) | (have NBk := Lib.hid ((NB.new BC.out).next z2)) | (have NBk := Lib.hid (show NB w4.heap.size _ w4.heap.size from (NB.new BC.out.drew).next z2)) | (have NBk := Lib.hid (show NB w4.heap.size _ w4.heap.size from (NB.new (below_drewN BC.out _)).next z2)) | skip); clear z2; have BC := Lib.hid z1; obtain ⟨f0, f1, f2, f3, f4, f5⟩ := hc.out w5 z1; clear z1)
                  | (go_at_call 18; refine (HD.out.meetAB _ (by first | exact BC.out | exact BC.out.drew | exact below_drewN BC.out _ | exact BC.out.alloc BC.out.size _ | exact (BC.out.alloc BC.out.size _).drew | exact below_drewN (BC.out.alloc BC.out.size _) _ | exact (BC.out.drew).alloc BC.out.size _ | exact (below_drewN BC.out _).alloc BC.out.size _ | exact below_drewN ((below_drewN BC.out _).alloc BC.out.size _) _)).mono ?_; rintro e w6 ⟨b3, g3, j3, b4, g4, j4, rfl, z1, z2, s1, s2⟩; (first | (have NBk := Lib.hid (NBk.out.next z2)) | (have NBk := Lib.hid ((NB.new BC.out).next z2)) | (have NBk := Lib.hid (show NB w4.heap.size _ w4.heap.size from (NB.new BC.out.drew).next z2)) | (have NBk := Lib.hid (show NB w4.heap.size _ w4.heap.size from (NB.new (below_drewN BC.out _)).next z2)) | skip); clear z2; have BC := Lib.hid z1; have S1 := Lib.hid s1; have S2 := Lib.hid s2; clear s1 s2; (first | (obtain ⟨k0, k1, k2, k3, k4, k5⟩ := NBk.out.facts) | skip); obtain ⟨f0, f1, f2, f3, f4, f5⟩ := hc.out w6 z1; clear z1))
        all_goals
          (try simp only [Exit.then, Exit.inBlock])
          go_wp2_with fail
          go_meet
          case rel => first | exact ⟨_, _, _, _, _, _, _, rfl, nb_fin NBk.out BC.out S1.out S2.out⟩ | exact ⟨_, _, _, _, _, _, _, rfl, mb_new BC.out S1.out S2.out⟩
      case rest =>
        clear f0 f1 f2 f3 f4 f5 BC hl0 hl1
        obtain ⟨g, b1, g1, j1, b2, g2, j2, rfl, mg⟩ := hcut
        have HE := Lib.hid (HF.out wc mg.old)
        have hd := Lib.hid (fun w' (b : Below wc.heap.size wc w') => hc.out w' (mg.old.trans (b.mono mg.old.size)))
        have hgl := mg.lt
        have hws := mg.old.size
        have MG := Lib.hid mg
        clear mg hc HD
        go_upto_region 4 with fail
        obtain ⟨f0, f1, f2, f3, f4, f5⟩ := hd.out wc (Below.refl _ _)
        have BC := Lib.hid (Below.refl wc.heap.size wc)
        have hl0 := lt_of_cell f0
        have hl1 := lt_of_cell f3
        go_cut [8] from 10 (fun s8 w' => ∃ h b3 g3 j3 b4 g4 j4, s8 = .pointer (some ⟨h, 0, none⟩) ∧ MB wc O F T h b3 g3 j3 b4 g4 j4 w' ∧ MB w4 O F T g b1 g1 j1 b2 g2 j2 w')
        case first =>
          go_region_held3 (fun w' => w'.cell? ⟨w.heap.size, 0, none⟩ = some (.slice a1 n1 c1) ∧ w'.cell? ⟨w.heap.size, 1, none⟩ = some (.slice a2 n2 c2) ∧ w'.cell? ⟨w.heap.size, 2, none⟩ = some (.bool o) ∧ w'.cell? ⟨w.heap.size + 1, 0, none⟩ = some (.slice a3 n3 c3) ∧ w'.cell? ⟨w.heap.size + 1, 1, none⟩ = some (.slice a4 n4 c4) ∧ w'.cell? ⟨w.heap.size + 1, 2, none⟩ = some (.bool o')) (first | go_keep | exact ⟨NBk.out.keep hl0 f0 _ _ _, NBk.out.keep hl0 f1 _ _ _, NBk.out.keep hl0 f2 _ _ _, NBk.out.keep hl1 f3 _ _ _, NBk.out.keep hl1 f4 _ _ _, NBk.out.keep hl1 f5 _ _ _⟩)
            (first
                    | (go_at_call 12; refine (HE.out.span _ (by first | exact BC.out | exact BC.out.drew | exact below_drewN BC.out _ | exact BC.out.alloc BC.out.size _ | exact (BC.out.alloc BC.out.size _).drew | exact below_drewN (BC.out.alloc BC.out.size _) _ | exact (BC.out.drew).alloc BC.out.size _ | exact (below_drewN BC.out _).alloc BC.out.size _ | exact below_drewN ((below_drewN BC.out _).alloc BC.out.size _) _) _ _ _ _ _ _ _).mono ?_; rintro e w5 ⟨rfl, z1, z2⟩; (first | (have NBk := Lib.hid (NBk.out.next z2)) | (have NBk := Lib.hid ((NB.new BC.out).next z2)) | (have NBk := Lib.hid (show NB wc.heap.size _ wc.heap.size from (NB.new BC.out.drew).next z2)) | (have NBk := Lib.hid (show NB wc.heap.size _ wc.heap.size from (NB.new (below_drewN BC.out _)).next z2)) | skip); (first | (have MG := Lib.hid (MG.out.below z2)) | (have MG := Lib.hid (MG.out.drew.below z2)) | (have MG := Lib.hid ((MG.out.drewN _).below z2)) | (have MG := Lib.hid ((MG.out.al _).below z2)) | (have MG := Lib.hid ((MG.out.drew.al _).below z2)) | (have MG := Lib.hid (((MG.out.drewN _).al _).below z2)) | (have MG := Lib.hid ((((MG.out.drewN _).al _).drewN _).below z2))); clear z2; have BC := Lib.hid z1; obtain ⟨f0, f1, f2, f3, f4, f5⟩ := hd.out w5 z1; clear z1)
                    | (go_at_call 18; refine (HE.out.meetBA _ (by first | exact BC.out | exact BC.out.drew | exact below_drewN BC.out _ | exact BC.out.alloc BC.out.size _ | exact (BC.out.alloc BC.out.size _).drew | exact below_drewN (BC.out.alloc BC.out.size _) _ | exact (BC.out.drew).alloc BC.out.size _ | exact (below_drewN BC.out _).alloc BC.out.size _ | exact below_drewN ((below_drewN BC.out _).alloc BC.out.size _) _)).mono ?_; rintro e w6 ⟨b3, g3, j3, b4, g4, j4, rfl, z1, z2, s1, s2⟩; (first | (have NBk := Lib.hid (NBk.out.next z2)) | (have NBk := Lib.hid ((NB.new BC.out).next z2)) | (have NBk := Lib.hid (show NB wc.heap.size _ wc.heap.size from (NB.new BC.out.drew).next z2)) | (have NBk := Lib.hid (show NB wc.heap.size _ wc.heap.size from (NB.new (below_drewN BC.out _)).next z2)) | skip); (first | (have MG := Lib.hid (MG.out.below z2)) | (have MG := Lib.hid (MG.out.drew.below z2)) | (have MG := Lib.hid ((MG.out.drewN _).below z2)) | (have MG := Lib.hid ((MG.out.al _).below z2)) | (have MG := Lib.hid ((MG.out.drew.al _).below z2)) | (have MG := Lib.hid (((MG.out.drewN _).al _).below z2)) | (have MG := Lib.hid ((((MG.out.drewN _).al _).drewN _).below z2))); clear z2; have BC := Lib.hid z1; have S1 := Lib.hid s1; have S2 := Lib.hid s2; clear s1 s2; (first | (obtain ⟨k0, k1, k2, k3, k4, k5⟩ := NBk.out.facts) | skip); obtain ⟨f0, f1, f2, f3, f4, f5⟩ := hd.out w6 z1; clear z1))
          all_goals
            (try simp only [Exit.then, Exit.inBlock])
            go_wp2_with fail
            go_meet
            case rel => first | exact ⟨_, _, _, _, _, _, _, rfl, nb_fin NBk.out BC.out S1.out S2.out, nb_other NBk.out MG.out hws hgl _ _ _⟩ | exact ⟨_, _, _, _, _, _, _, rfl, mb_new BC.out S1.out S2.out, MG.out.al _⟩
        case rest =>
          clear f0 f1 f2 f3 f4 f5 BC hl0 hl1 MG
          obtain ⟨h, b3, g3, j3, b4, g4, j4, rfl, mh, mg⟩ := hcut
          have BC := Lib.hid mh.old
          have MG := Lib.hid mg
          have MH := Lib.hid mh
          clear mg mh
          obtain ⟨f0, f1, f2, f3, f4, f5⟩ := hd.out _ BC.out
          obtain ⟨m0, m1, m2⟩ := MG.out.facts
          obtain ⟨p0, p1, p2⟩ := MH.out.facts
          have hem := Lib.hid HE.out.em
          cases H1 <;> cases H2 <;> (try (have hem2 := hem.out rfl rfl; subst hem2))
          all_goals
            go_wp2_with (first
              | (go_at_call 12; refine (HE.out.span _ BC.out _ _ _ _ _ _ _).mono ?_; rintro e w7 ⟨rfl, z1, z2⟩; have BC := Lib.hid z1; have MG := Lib.hid (MG.out.below z2); have MH := Lib.hid (MH.out.below z2); clear z1 z2; obtain ⟨f0, f1, f2, f3, f4, f5⟩ := hd.out _ BC.out; obtain ⟨m0, m1, m2⟩ := MG.out.facts; obtain ⟨p0, p1, p2⟩ := MH.out.facts)
              | (go_at_call 11; refine (HE.out.has _ BC.out _ _ _ _ _ _ _ _ (by first | exact HQ.A | exact HQ.B | exact HQ.M MG.out.s1 MG.out.s2 | exact HQ.W)).mono ?_; rintro e w7 ⟨rfl, z1, z2⟩; have BC := Lib.hid z1; have MG := Lib.hid (MG.out.below z2); have MH := Lib.hid (MH.out.below z2); clear z1 z2; obtain ⟨f0, f1, f2, f3, f4, f5⟩ := hd.out _ BC.out; obtain ⟨m0, m1, m2⟩ := MG.out.facts; obtain ⟨p0, p1, p2⟩ := MH.out.facts)
              | (go_at_call 7; refine (HE.out.alive _ BC.out).mono ?_; rintro e w7 ⟨rfl, z1, z2⟩; have BC := Lib.hid z1; have MG := Lib.hid (MG.out.below z2); have MH := Lib.hid (MH.out.below z2); clear z1 z2; obtain ⟨f0, f1, f2, f3, f4, f5⟩ := hd.out _ BC.out; obtain ⟨m0, m1, m2⟩ := MG.out.facts; obtain ⟨p0, p1, p2⟩ := MH.out.facts)
              | (go_at_call 20; refine (HE.out.whole _ BC.out).mono ?_; rintro e w7 ⟨rfl, z1, z2⟩; have BC := Lib.hid z1; have MG := Lib.hid (MG.out.below z2); have MH := Lib.hid (MH.out.below z2); clear z1 z2; obtain ⟨f0, f1, f2, f3, f4, f5⟩ := hd.out _ BC.out; obtain ⟨m0, m1, m2⟩ := MG.out.facts; obtain ⟨p0, p1, p2⟩ := MH.out.facts)
              | (go_at_call 14; refine (HE.out.emptyM _ BC.out _ _ _ _ _ _ MG.out.s1 MG.out.s2).mono ?_; rintro e w7 ⟨rfl, z1, z2⟩; have BC := Lib.hid z1; have MG := Lib.hid (MG.out.below z2); have MH := Lib.hid (MH.out.below z2); clear z1 z2; obtain ⟨f0, f1, f2, f3, f4, f5⟩ := hd.out _ BC.out; obtain ⟨m0, m1, m2⟩ := MG.out.facts; obtain ⟨p0, p1, p2⟩ := MH.out.facts)
              | (go_at_call 16; refine (HE.out.sameM _ BC.out _ _ _ _ _ _ _ _ _ _ _ _ MG.out.s1 MG.out.s2 MH.out.s1 MH.out.s2).mono ?_; rintro e w7 ⟨rfl, z1, z2⟩; have BC := Lib.hid z1; have MG := Lib.hid (MG.out.below z2); have MH := Lib.hid (MH.out.below z2); clear z1 z2; obtain ⟨f0, f1, f2, f3, f4, f5⟩ := hd.out _ BC.out; obtain ⟨m0, m1, m2⟩ := MG.out.facts; obtain ⟨p0, p1, p2⟩ := MH.out.facts))
          all_goals
            (try simp only [Exit.then, Exit.inBlock])
            go_ret
            exact ⟨rfl, B4.out.trans (MG.out.old.mono B4.out.size)⟩
end Go.Proofs.YtehamfhblpokbaaDoor
