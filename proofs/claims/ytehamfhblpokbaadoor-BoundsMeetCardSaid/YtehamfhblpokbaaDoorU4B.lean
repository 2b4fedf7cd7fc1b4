/- Spans: the program's Meet. -/
import Derived.Test.YtehamfhblpokbaaDoorU4
set_option linter.unusedVariables false
set_option linter.unusedSimpArgs false
namespace Go.Proofs.YtehamfhblpokbaaDoor
open Go.RowKit
section
variable {w : World} {a1 a2 a3 a4 a0 : Option Addr} {n0 c0 n1 c1 n2 c2 n3 c3 n4 c4 : Nat} {k f t f' t' : List Nat}
set_option maxHeartbeats 2000000 in
theorem b_meet (h1 : Sl w a1 n1 c1 f) (h2 : Sl w a2 n2 c2 t) (o : Bool) (h3 : Sl w a3 n3 c3 f') (h4 : Sl w a4 n4 c4 t') (o' : Bool) (m1 : n1 ≤ 1000) (m2 : n2 ≤ 1000) (m3 : n3 ≤ 1000) (m4 : n4 ≤ 1000) : Calls Tryd.prog 18 #[.agg #[.slice a1 n1 c1, .slice a2 n2 c2, .bool o], .agg #[.slice a3 n3 c3, .slice a4 n4 c4, .bool o']] w (meetPost (fromL f f') (toL t o t' o') (toO t o t' o') w) := by
  have M0 := M4.new bsT w [.slice a1 n1 c1, .slice a2 n2 c2, .bool o] [.slice a3 n3 c3, .slice a4 n4 c4, .bool o'] [.slice a1 n1 c1, .slice a2 n2 c2, .bool o]
  obtain ⟨w4, hw4⟩ : ∃ w4, w4 = ((((w.alloc (.cells #[.slice a1 n1 c1, .slice a2 n2 c2, .bool o] bsT)).alloc (.cells #[.slice a3 n3 c3, .slice a4 n4 c4, .bool o'] bsT)).alloc (.cells #[.slice none 0 0, .slice none 0 0, .bool false] bsT)).alloc (.cells #[.slice a1 n1 c1, .slice a2 n2 c2, .bool o] bsT)) := ⟨_, rfl⟩
  have hM : M4 bsT w [.slice a1 n1 c1, .slice a2 n2 c2, .bool o] [.slice a3 n3 c3, .slice a4 n4 c4, .bool o'] [.slice a1 n1 c1, .slice a2 n2 c2, .bool o] w4 := by rw [hw4]; exact M0
  clear M0
  have hcmp := Lib.hid (keys_cmp (h3.below hM.below) (h1.below hM.below))
  have hends := Lib.hid (fun wr (b : Below w.heap.size w wr) => b_ends (a1 := a3) (n1 := n3) (c1 := c3) (a3 := a1) (n3 := n1) (c3 := c1) (h4.below b) o' (h2.below b) o)
  obtain ⟨pF, hpF⟩ : ∃ x, x = fromL f f' := ⟨_, rfl⟩
  obtain ⟨pT, hpT⟩ : ∃ x, x = toL t o t' o' := ⟨_, rfl⟩
  obtain ⟨pO, hpO⟩ : ∃ x, x = toO t o t' o' := ⟨_, rfl⟩
  rw [← hpF, ← hpT, ← hpO]
  unfold fromL at hpF
  unfold toL at hpT
  unfold toO at hpO
  generalize bcmp f' f = V at *
  generalize endsB t' o' t o = E at *
  have HF := Lib.hid hpF
  have HT := Lib.hid hpT
  have HO := Lib.hid hpO
  have H1 := Lib.hid h1
  have H3 := Lib.hid h3
  clear hpF hpT hpO
  obtain ⟨f0, f1, f2, f3, f4, f5, f6, f7, f8, f9, f10, f11⟩ := hM.facts
  have HM := Lib.hid hM
  have H2 := Lib.hid h2
  have H4 := Lib.hid h4
  clear h1 h2 h3 h4 hM
  go_enter Tryd.func18, Tryd.ntmps18
  go_wp2_with fail
  rw [← hw4]
  clear hw4
  by_cases hV : 0 < V
  · have hcond : 0 < V := hV
    go_wp2_with (first
      | (go_at_call 36; refine (hends.out _ (HM.out.put 0 (.slice a3 n3 c3)).below).mono ?_; rintro e w5 ⟨rfl, z1⟩
         have hM5 := (HM.out.put 0 (.slice a3 n3 c3)).call z1
         obtain ⟨g0, g1, g2, g3, g4, g5, g6, g7, g8, g9, g10, g11⟩ := hM5.facts
         have HM5 := Lib.hid hM5
         clear hM5 z1 f0 f1 f2 f3 f4 f5 f6 f7 f8 f9 f10 f11)
      | (go_at_call 34; refine hcmp.out.mono ?_; rintro e w' ⟨rfl, rfl⟩))
    · have K6 : M4 bsT w [.slice a1 n1 c1, .slice a2 n2 c2, .bool o] [.slice a3 n3 c3, .slice a4 n4 c4, .bool o'] [.slice a3 n3 c3, .slice a4 n4 c4, .bool false] ((w5.setCell ⟨w.heap.size + 1 + 1 + 1, 1, none⟩ (.slice a4 n4 c4)).setCell ⟨w.heap.size + 1 + 1 + 1, 2, none⟩ (.bool false)) := (HM5.out.put 1 (.slice a4 n4 c4)).put 2 (.bool false)
      have ET : Hid (Sl w a4 n4 c4 pT ∧ (false : Bool) = pO ∧ Sl w a3 n3 c3 pF) := by
        refine ⟨?_, ?_, ?_⟩
        · rw [HT.out]; simp [*]; exact H4.out
        · rw [HO.out]; simp [*]
        · rw [HF.out]; simp [*]; exact H3.out
      generalize ((w5.setCell ⟨w.heap.size + 1 + 1 + 1, 1, none⟩ (.slice a4 n4 c4)).setCell ⟨w.heap.size + 1 + 1 + 1, 2, none⟩ (.bool false)) = w6 at K6 ⊢
      obtain ⟨k0, k1, k2, k3, k4, k5, k6, k7, k8, k9, k10, k11⟩ := K6.facts
      have hc0 := Lib.hid (clone_M4 K6 ET.out.2.2 m3)
      have hc1 := Lib.hid (clone_M4 K6 ET.out.1 m4)
      have HK6 := Lib.hid K6
      clear K6
      go_region_with (first
        | (go_at_call 37; refine (hc1.out w7 R1.out).mono ?_; rintro e w8 ⟨a8, c8, rfl, z1, z2, z3, zb⟩; have RS := Lib.hid zb; clear zb; have R2 := Lib.hid z1; have S8 := Lib.hid z2; have N8 := Lib.hid z3; obtain ⟨t0, t1, t2, t3, t4, t5, t6, t7, t8, t9, t10, t11⟩ := (HK6.out.call z1).facts; clear z1 z2 z3)
        | (go_at_call 37; refine (hc0.out _ (by first | exact Below.refl _ _ | exact (Below.refl _ _).drew | exact below_drewN (Below.refl _ _) _)).mono ?_; rintro e w7 ⟨a7, c7, rfl, z1, z2, z3, _⟩; have R1 := Lib.hid z1; have S7 := Lib.hid z2; have N7 := Lib.hid z3; obtain ⟨s0, s1, s2, s3, s4, s5, s6, s7, s8, s9, s10, s11⟩ := (HK6.out.call z1).facts; clear z1 z2 z3))
      all_goals
        obtain ⟨y0, y1, y2, y3, y4, y5, y6, y7, y8, y9⟩ := meet_fin (HK6.out.call R2.out) (S7.out w8 RS.out) N7.out (S8.out w8 (Below.refl _ _)) N8.out _ rfl
        obtain ⟨v0, v1, v2, v3⟩ := y9 _ rfl
        have V3 := Lib.hid v3
        clear y9 v3
        generalize ((w8.setCell ⟨w.heap.size + 1 + 1 + 1, 0, none⟩ (.slice a7 n3 c7)).setCell ⟨w.heap.size + 1 + 1 + 1, 1, none⟩ (.slice a8 n4 c8)) = w9 at *
        (try simp only [Exit.then, Exit.inBlock])
        go_wp2_with fail
        exact bodyPost_ret (v := .agg #[.slice a7 n3 c7, .slice a8 n4 c8, .bool false]) (by simp [results, Tryd.results18, go_sem, v0, v1, v2]) rfl (by rw [← ET.out.2.1]; exact V3.out)
    · obtain rfl : o = true := by assumption
      have K6 : M4 bsT w [.slice a1 n1 c1, .slice a2 n2 c2, .bool true] [.slice a3 n3 c3, .slice a4 n4 c4, .bool o'] [.slice a3 n3 c3, .slice none 0 0, .bool true] (w5.setCell ⟨w.heap.size + 1 + 1 + 1, 1, none⟩ (.slice none 0 0)) := HM5.out.put 1 (.slice none 0 0)
      have ET : Hid (Sl w none 0 0 pT ∧ (true : Bool) = pO ∧ Sl w a3 n3 c3 pF) := by
        refine ⟨?_, ?_, ?_⟩
        · rw [HT.out]; simp [*]; exact (sl_nil w)
        · rw [HO.out]; simp [*]
        · rw [HF.out]; simp [*]; exact H3.out
      generalize (w5.setCell ⟨w.heap.size + 1 + 1 + 1, 1, none⟩ (.slice none 0 0)) = w6 at K6 ⊢
      obtain ⟨k0, k1, k2, k3, k4, k5, k6, k7, k8, k9, k10, k11⟩ := K6.facts
      have hc0 := Lib.hid (clone_M4 K6 ET.out.2.2 m3)
      have hc1 := Lib.hid (clone_M4 K6 ET.out.1 (Nat.zero_le _))
      have HK6 := Lib.hid K6
      clear K6
      go_region_with (first
        | (go_at_call 37; refine (hc1.out w7 R1.out).mono ?_; rintro e w8 ⟨a8, c8, rfl, z1, z2, z3, zb⟩; have RS := Lib.hid zb; clear zb; have R2 := Lib.hid z1; have S8 := Lib.hid z2; have N8 := Lib.hid z3; obtain ⟨t0, t1, t2, t3, t4, t5, t6, t7, t8, t9, t10, t11⟩ := (HK6.out.call z1).facts; clear z1 z2 z3)
        | (go_at_call 37; refine (hc0.out _ (by first | exact Below.refl _ _ | exact (Below.refl _ _).drew | exact below_drewN (Below.refl _ _) _)).mono ?_; rintro e w7 ⟨a7, c7, rfl, z1, z2, z3, _⟩; have R1 := Lib.hid z1; have S7 := Lib.hid z2; have N7 := Lib.hid z3; obtain ⟨s0, s1, s2, s3, s4, s5, s6, s7, s8, s9, s10, s11⟩ := (HK6.out.call z1).facts; clear z1 z2 z3))
      all_goals
        obtain ⟨y0, y1, y2, y3, y4, y5, y6, y7, y8, y9⟩ := meet_fin (HK6.out.call R2.out) (S7.out w8 RS.out) N7.out (S8.out w8 (Below.refl _ _)) N8.out _ rfl
        obtain ⟨v0, v1, v2, v3⟩ := y9 _ rfl
        have V3 := Lib.hid v3
        clear y9 v3
        generalize ((w8.setCell ⟨w.heap.size + 1 + 1 + 1, 0, none⟩ (.slice a7 n3 c7)).setCell ⟨w.heap.size + 1 + 1 + 1, 1, none⟩ (.slice a8 0 c8)) = w9 at *
        (try simp only [Exit.then, Exit.inBlock])
        go_wp2_with fail
        exact bodyPost_ret (v := .agg #[.slice a7 n3 c7, .slice a8 0 c8, .bool true]) (by simp [results, Tryd.results18, go_sem, v0, v1, v2]) rfl (by rw [← ET.out.2.1]; exact V3.out)
    · obtain rfl : o = false := by assumption
      have K6 : M4 bsT w [.slice a1 n1 c1, .slice a2 n2 c2, .bool false] [.slice a3 n3 c3, .slice a4 n4 c4, .bool o'] [.slice a3 n3 c3, .slice a2 n2 c2, .bool false] w5 := HM5.out
      have ET : Hid (Sl w a2 n2 c2 pT ∧ (false : Bool) = pO ∧ Sl w a3 n3 c3 pF) := by
        refine ⟨?_, ?_, ?_⟩
        · rw [HT.out]; simp [*]; exact H2.out
        · rw [HO.out]; simp [*]
        · rw [HF.out]; simp [*]; exact H3.out
      generalize w5 = w6 at K6 ⊢
      obtain ⟨k0, k1, k2, k3, k4, k5, k6, k7, k8, k9, k10, k11⟩ := K6.facts
      have hc0 := Lib.hid (clone_M4 K6 ET.out.2.2 m3)
      have hc1 := Lib.hid (clone_M4 K6 ET.out.1 m2)
      have HK6 := Lib.hid K6
      clear K6
      go_region_with (first
        | (go_at_call 37; refine (hc1.out w7 R1.out).mono ?_; rintro e w8 ⟨a8, c8, rfl, z1, z2, z3, zb⟩; have RS := Lib.hid zb; clear zb; have R2 := Lib.hid z1; have S8 := Lib.hid z2; have N8 := Lib.hid z3; obtain ⟨t0, t1, t2, t3, t4, t5, t6, t7, t8, t9, t10, t11⟩ := (HK6.out.call z1).facts; clear z1 z2 z3)
        | (go_at_call 37; refine (hc0.out _ (by first | exact Below.refl _ _ | exact (Below.refl _ _).drew | exact below_drewN (Below.refl _ _) _)).mono ?_; rintro e w7 ⟨a7, c7, rfl, z1, z2, z3, _⟩; have R1 := Lib.hid z1; have S7 := Lib.hid z2; have N7 := Lib.hid z3; obtain ⟨s0, s1, s2, s3, s4, s5, s6, s7, s8, s9, s10, s11⟩ := (HK6.out.call z1).facts; clear z1 z2 z3))
      all_goals
        obtain ⟨y0, y1, y2, y3, y4, y5, y6, y7, y8, y9⟩ := meet_fin (HK6.out.call R2.out) (S7.out w8 RS.out) N7.out (S8.out w8 (Below.refl _ _)) N8.out _ rfl
        obtain ⟨v0, v1, v2, v3⟩ := y9 _ rfl
        have V3 := Lib.hid v3
        clear y9 v3
        generalize ((w8.setCell ⟨w.heap.size + 1 + 1 + 1, 0, none⟩ (.slice a7 n3 c7)).setCell ⟨w.heap.size + 1 + 1 + 1, 1, none⟩ (.slice a8 n2 c8)) = w9 at *
        (try simp only [Exit.then, Exit.inBlock])
        go_wp2_with fail
        exact bodyPost_ret (v := .agg #[.slice a7 n3 c7, .slice a8 n2 c8, .bool false]) (by simp [results, Tryd.results18, go_sem, v0, v1, v2]) rfl (by rw [← ET.out.2.1]; exact V3.out)
  · have hcond : ¬ 0 < V := hV
    go_wp2_with (first
      | (go_at_call 36; refine (hends.out _ HM.out.below).mono ?_; rintro e w5 ⟨rfl, z1⟩
         have hM5 := HM.out.call z1
         obtain ⟨g0, g1, g2, g3, g4, g5, g6, g7, g8, g9, g10, g11⟩ := hM5.facts
         have HM5 := Lib.hid hM5
         clear hM5 z1 f0 f1 f2 f3 f4 f5 f6 f7 f8 f9 f10 f11)
      | (go_at_call 34; refine hcmp.out.mono ?_; rintro e w' ⟨rfl, rfl⟩))
    · have K6 : M4 bsT w [.slice a1 n1 c1, .slice a2 n2 c2, .bool o] [.slice a3 n3 c3, .slice a4 n4 c4, .bool o'] [.slice a1 n1 c1, .slice a4 n4 c4, .bool false] ((w5.setCell ⟨w.heap.size + 1 + 1 + 1, 1, none⟩ (.slice a4 n4 c4)).setCell ⟨w.heap.size + 1 + 1 + 1, 2, none⟩ (.bool false)) := (HM5.out.put 1 (.slice a4 n4 c4)).put 2 (.bool false)
      have ET : Hid (Sl w a4 n4 c4 pT ∧ (false : Bool) = pO ∧ Sl w a1 n1 c1 pF) := by
        refine ⟨?_, ?_, ?_⟩
        · rw [HT.out]; simp [*]; exact H4.out
        · rw [HO.out]; simp [*]
        · rw [HF.out, if_neg (by omega)]; exact H1.out
      generalize ((w5.setCell ⟨w.heap.size + 1 + 1 + 1, 1, none⟩ (.slice a4 n4 c4)).setCell ⟨w.heap.size + 1 + 1 + 1, 2, none⟩ (.bool false)) = w6 at K6 ⊢
      obtain ⟨k0, k1, k2, k3, k4, k5, k6, k7, k8, k9, k10, k11⟩ := K6.facts
      have hc0 := Lib.hid (clone_M4 K6 ET.out.2.2 m1)
      have hc1 := Lib.hid (clone_M4 K6 ET.out.1 m4)
      have HK6 := Lib.hid K6
      clear K6
      go_region_with (first
        | (go_at_call 37; refine (hc1.out w7 R1.out).mono ?_; rintro e w8 ⟨a8, c8, rfl, z1, z2, z3, zb⟩; have RS := Lib.hid zb; clear zb; have R2 := Lib.hid z1; have S8 := Lib.hid z2; have N8 := Lib.hid z3; obtain ⟨t0, t1, t2, t3, t4, t5, t6, t7, t8, t9, t10, t11⟩ := (HK6.out.call z1).facts; clear z1 z2 z3)
        | (go_at_call 37; refine (hc0.out _ (by first | exact Below.refl _ _ | exact (Below.refl _ _).drew | exact below_drewN (Below.refl _ _) _)).mono ?_; rintro e w7 ⟨a7, c7, rfl, z1, z2, z3, _⟩; have R1 := Lib.hid z1; have S7 := Lib.hid z2; have N7 := Lib.hid z3; obtain ⟨s0, s1, s2, s3, s4, s5, s6, s7, s8, s9, s10, s11⟩ := (HK6.out.call z1).facts; clear z1 z2 z3))
      all_goals
        obtain ⟨y0, y1, y2, y3, y4, y5, y6, y7, y8, y9⟩ := meet_fin (HK6.out.call R2.out) (S7.out w8 RS.out) N7.out (S8.out w8 (Below.refl _ _)) N8.out _ rfl
        obtain ⟨v0, v1, v2, v3⟩ := y9 _ rfl
        have V3 := Lib.hid v3
        clear y9 v3
        generalize ((w8.setCell ⟨w.heap.size + 1 + 1 + 1, 0, none⟩ (.slice a7 n1 c7)).setCell ⟨w.heap.size + 1 + 1 + 1, 1, none⟩ (.slice a8 n4 c8)) = w9 at *
        (try simp only [Exit.then, Exit.inBlock])
        go_wp2_with fail
        exact bodyPost_ret (v := .agg #[.slice a7 n1 c7, .slice a8 n4 c8, .bool false]) (by simp [results, Tryd.results18, go_sem, v0, v1, v2]) rfl (by rw [← ET.out.2.1]; exact V3.out)
    · obtain rfl : o = true := by assumption
      have K6 : M4 bsT w [.slice a1 n1 c1, .slice a2 n2 c2, .bool true] [.slice a3 n3 c3, .slice a4 n4 c4, .bool o'] [.slice a1 n1 c1, .slice none 0 0, .bool true] (w5.setCell ⟨w.heap.size + 1 + 1 + 1, 1, none⟩ (.slice none 0 0)) := HM5.out.put 1 (.slice none 0 0)
      have ET : Hid (Sl w none 0 0 pT ∧ (true : Bool) = pO ∧ Sl w a1 n1 c1 pF) := by
        refine ⟨?_, ?_, ?_⟩
        · rw [HT.out]; simp [*]; exact (sl_nil w)
        · rw [HO.out]; simp [*]
        · rw [HF.out, if_neg (by omega)]; exact H1.out
      generalize (w5.setCell ⟨w.heap.size + 1 + 1 + 1, 1, none⟩ (.slice none 0 0)) = w6 at K6 ⊢
      obtain ⟨k0, k1, k2, k3, k4, k5, k6, k7, k8, k9, k10, k11⟩ := K6.facts
      have hc0 := Lib.hid (clone_M4 K6 ET.out.2.2 m1)
      have hc1 := Lib.hid (clone_M4 K6 ET.out.1 (Nat.zero_le _))
      have HK6 := Lib.hid K6
      clear K6
      go_region_with (first
        | (go_at_call 37; refine (hc1.out w7 R1.out).mono ?_; rintro e w8 ⟨a8, c8, rfl, z1, z2, z3, zb⟩; have RS := Lib.hid zb; clear zb; have R2 := Lib.hid z1; have S8 := Lib.hid z2; have N8 := Lib.hid z3; obtain ⟨t0, t1, t2, t3, t4, t5, t6, t7, t8, t9, t10, t11⟩ := (HK6.out.call z1).facts; clear z1 z2 z3)
        | (go_at_call 37; refine (hc0.out _ (by first | exact Below.refl _ _ | exact (Below.refl _ _).drew | exact below_drewN (Below.refl _ _) _)).mono ?_; rintro e w7 ⟨a7, c7, rfl, z1, z2, z3, _⟩; have R1 := Lib.hid z1; have S7 := Lib.hid z2; have N7 := Lib.hid z3; obtain ⟨s0, s1, s2, s3, s4, s5, s6, s7, s8, s9, s10, s11⟩ := (HK6.out.call z1).facts; clear z1 z2 z3))
      all_goals
        obtain ⟨y0, y1, y2, y3, y4, y5, y6, y7, y8, y9⟩ := meet_fin (HK6.out.call R2.out) (S7.out w8 RS.out) N7.out (S8.out w8 (Below.refl _ _)) N8.out _ rfl
        obtain ⟨v0, v1, v2, v3⟩ := y9 _ rfl
        have V3 := Lib.hid v3
        clear y9 v3
        generalize ((w8.setCell ⟨w.heap.size + 1 + 1 + 1, 0, none⟩ (.slice a7 n1 c7)).setCell ⟨w.heap.size + 1 + 1 + 1, 1, none⟩ (.slice a8 0 c8)) = w9 at *
        (try simp only [Exit.then, Exit.inBlock])
        go_wp2_with fail
        exact bodyPost_ret (v := .agg #[.slice a7 n1 c7, .slice a8 0 c8, .bool true]) (by simp [results, Tryd.results18, go_sem, v0, v1, v2]) rfl (by rw [← ET.out.2.1]; exact V3.out)
    · obtain rfl : o = false := by assumption
      have K6 : M4 bsT w [.slice a1 n1 c1, .slice a2 n2 c2, .bool false] [.slice a3 n3 c3, .slice a4 n4 c4, .bool o'] [.slice a1 n1 c1, .slice a2 n2 c2, .bool false] w5 := HM5.out
      have ET : Hid (Sl w a2 n2 c2 pT ∧ (false : Bool) = pO ∧ Sl w a1 n1 c1 pF) := by
        refine ⟨?_, ?_, ?_⟩
        · rw [HT.out]; simp [*]; exact H2.out
        · rw [HO.out]; simp [*]
        · rw [HF.out, if_neg (by omega)]; exact H1.out
      generalize w5 = w6 at K6 ⊢
      obtain ⟨k0, k1, k2, k3, k4, k5, k6, k7, k8, k9, k10, k11⟩ := K6.facts
      have hc0 := Lib.hid (clone_M4 K6 ET.out.2.2 m1)
      have hc1 := Lib.hid (clone_M4 K6 ET.out.1 m2)
      have HK6 := Lib.hid K6
      clear K6
      go_region_with (first
        | (go_at_call 37; refine (hc1.out w7 R1.out).mono ?_; rintro e w8 ⟨a8, c8, rfl, z1, z2, z3, zb⟩; have RS := Lib.hid zb; clear zb; have R2 := Lib.hid z1; have S8 := Lib.hid z2; have N8 := Lib.hid z3; obtain ⟨t0, t1, t2, t3, t4, t5, t6, t7, t8, t9, t10, t11⟩ := (HK6.out.call z1).facts; clear z1 z2 z3)
        | (go_at_call 37; refine (hc0.out _ (by first | exact Below.refl _ _ | exact (Below.refl _ _).drew | exact below_drewN (Below.refl _ _) _)).mono ?_; rintro e w7 ⟨a7, c7, rfl, z1, z2, z3, _⟩; have R1 := Lib.hid z1; have S7 := Lib.hid z2; have N7 := Lib.hid z3; obtain ⟨s0, s1, s2, s3, s4, s5, s6, s7, s8, s9, s10, s11⟩ := (HK6.out.call z1).facts; clear z1 z2 z3))
      all_goals
        obtain ⟨y0, y1, y2, y3, y4, y5, y6, y7, y8, y9⟩ := meet_fin (HK6.out.call R2.out) (S7.out w8 RS.out) N7.out (S8.out w8 (Below.refl _ _)) N8.out _ rfl
        obtain ⟨v0, v1, v2, v3⟩ := y9 _ rfl
        have V3 := Lib.hid v3
        clear y9 v3
        generalize ((w8.setCell ⟨w.heap.size + 1 + 1 + 1, 0, none⟩ (.slice a7 n1 c7)).setCell ⟨w.heap.size + 1 + 1 + 1, 1, none⟩ (.slice a8 n2 c8)) = w9 at *
        (try simp only [Exit.then, Exit.inBlock])
        go_wp2_with fail
        exact bodyPost_ret (v := .agg #[.slice a7 n1 c7, .slice a8 n2 c8, .bool false]) (by simp [results, Tryd.results18, go_sem, v0, v1, v2]) rfl (by rw [← ET.out.2.1]; exact V3.out)
end
end Go.Proofs.YtehamfhblpokbaaDoor
