/- Spans: the document's Meet. -/
import Derived.Test.YtehamfhblpokbaaDoorU4
set_option linter.unusedVariables false
set_option linter.unusedSimpArgs false
namespace Go.Proofs.YtehamfhblpokbaaDoor
open Go.RowKit
/-- what stands in the result -/
theorem M4.rfacts {t : TypeId} {w wr : World} {A B X : List Value} (h : M4 t w A B X wr) : wr.cell? ⟨w.heap.size + 1 + 1, 0, none⟩ = some (.slice none 0 0) ∧ wr.cell? ⟨w.heap.size + 1 + 1, 1, none⟩ = some (.slice none 0 0) ∧ wr.cell? ⟨w.heap.size + 1 + 1, 2, none⟩ = some (.bool false) ∧
    wr.frozen? ⟨w.heap.size + 1 + 1, 0, none⟩ = false ∧ wr.frozen? ⟨w.heap.size + 1 + 1, 1, none⟩ = false ∧ wr.frozen? ⟨w.heap.size + 1 + 1, 2, none⟩ = false :=
  ⟨by rw [cell_of_blk h.r]; rfl, by rw [cell_of_blk h.r]; rfl, by rw [cell_of_blk h.r]; rfl, frozen_of_blk h.r 0, frozen_of_blk h.r 1, frozen_of_blk h.r 2⟩
theorem M4.fin {t : TypeId} {w w9 : World} {A B X : List Value} (h : M4 t w A B X w9) (v0 v1 v2 : Value) : ∀ w10, w10 = ((w9.setCell ⟨w.heap.size + 1 + 1, 0, none⟩ v0).setCell ⟨w.heap.size + 1 + 1, 1, none⟩ v1).setCell ⟨w.heap.size + 1 + 1, 2, none⟩ v2 →
    w10.cell? ⟨w.heap.size + 1 + 1, 0, none⟩ = some v0 ∧ w10.cell? ⟨w.heap.size + 1 + 1, 1, none⟩ = some v1 ∧ w10.cell? ⟨w.heap.size + 1 + 1, 2, none⟩ = some v2 ∧ Below w.heap.size w w10 := fun w10 e10 => by
  have hk2 := h.r
  have z1 : (w9.setCell ⟨w.heap.size + 1 + 1, 0, none⟩ v0).heap[w.heap.size + 1 + 1]? = some (.cells [v0, .slice none 0 0, .bool false].toArray t (0, 0)) := by
    rw [setCell_list _ _ _ _ _ _ hk2, setRow_heap _ _ _ _ _ _ hk2]; rfl
  have z2 : ((w9.setCell ⟨w.heap.size + 1 + 1, 0, none⟩ v0).setCell ⟨w.heap.size + 1 + 1, 1, none⟩ v1).heap[w.heap.size + 1 + 1]? = some (.cells [v0, v1, .bool false].toArray t (0, 0)) := by
    rw [setCell_list _ _ _ _ _ _ z1, setRow_heap _ _ _ _ _ _ z1]; rfl
  have z3 : w10.heap[w.heap.size + 1 + 1]? = some (.cells [v0, v1, v2].toArray t (0, 0)) := by
    rw [e10, setCell_list _ _ _ _ _ _ z2, setRow_heap _ _ _ _ _ _ z2]; rfl
  refine ⟨by rw [cell_of_blk z3]; rfl, by rw [cell_of_blk z3]; rfl, by rw [cell_of_blk z3]; rfl, ?_⟩
  rw [e10]
  exact ((h.below.setCell (p := ⟨w.heap.size + 1 + 1, 0, none⟩) (by show w.heap.size ≤ w.heap.size + 1 + 1; omega) _).setCell (p := ⟨w.heap.size + 1 + 1, 1, none⟩) (by show w.heap.size ≤ w.heap.size + 1 + 1; omega) _).setCell (p := ⟨w.heap.size + 1 + 1, 2, none⟩) (by show w.heap.size ≤ w.heap.size + 1 + 1; omega) _
theorem cmp_b {w : World} {a b : Option Addr} {n c m d : Nat} {s t : List Nat} (h : Sl w a n c s) (k : Sl w b m d t) : Calls Tryd.prog 33 #[.slice a n c, .slice b m d] w (belowPost (.int .i64 (bcmp s t)) w) :=
  (quiet_cmp h k 0).mono fun e w2 ⟨h1, q, h2⟩ => ⟨h1, by rw [h2]; exact below_drewN (Below.refl _ _) _⟩
section
variable {w : World} {a1 a2 a3 a4 : Option Addr} {n1 c1 n2 c2 n3 c3 n4 c4 : Nat} {f t f' t' : List Nat}
set_option maxHeartbeats 2000000 in
theorem r_meet_ft (h1 : Sl w a1 n1 c1 f) (h2 : Sl w a2 n2 c2 t) (h3 : Sl w a3 n3 c3 f') (h4 : Sl w a4 n4 c4 t') : Calls Tryd.prog 19 #[.agg #[.slice a1 n1 c1, .slice a2 n2 c2, .bool false], .agg #[.slice a3 n3 c3, .slice a4 n4 c4, .bool true]] w (meetPost (fromL f f') (toL t false t' true) (toO t false t' true) w) := by
  have M0 := M4.new rsT w [.slice a1 n1 c1, .slice a2 n2 c2, .bool false] [.slice a3 n3 c3, .slice a4 n4 c4, .bool true] [.slice a1 n1 c1, .slice a2 n2 c2, .bool false]
  obtain ⟨w4, hw4⟩ : ∃ w4, w4 = ((((w.alloc (.cells #[.slice a1 n1 c1, .slice a2 n2 c2, .bool false] rsT)).alloc (.cells #[.slice a3 n3 c3, .slice a4 n4 c4, .bool true] rsT)).alloc (.cells #[.slice none 0 0, .slice none 0 0, .bool false] rsT)).alloc (.cells #[.slice a1 n1 c1, .slice a2 n2 c2, .bool false] rsT)) := ⟨_, rfl⟩
  have hM : M4 rsT w [.slice a1 n1 c1, .slice a2 n2 c2, .bool false] [.slice a3 n3 c3, .slice a4 n4 c4, .bool true] [.slice a1 n1 c1, .slice a2 n2 c2, .bool false] w4 := by rw [hw4]; exact M0
  clear M0
  have hcmp := Lib.hid (cmp_b (h3.below hM.below) (h1.below hM.below))
  have hcmp2 := Lib.hid (fun wr (b : Below w.heap.size w wr) => cmp_b (h4.below b) (h2.below b))
  obtain ⟨pF, hpF⟩ : ∃ x, x = fromL f f' := ⟨_, rfl⟩
  obtain ⟨pT, hpT⟩ : ∃ x, x = toL t false t' true := ⟨_, rfl⟩
  obtain ⟨pO, hpO⟩ : ∃ x, x = toO t false t' true := ⟨_, rfl⟩
  rw [← hpF, ← hpT, ← hpO]
  unfold fromL at hpF
  unfold toL endsB at hpT
  unfold toO endsB at hpO
  generalize bcmp f' f = V at *
  generalize bcmp t' t = U at *
  have HF := Lib.hid hpF
  have HT := Lib.hid hpT
  have HO := Lib.hid hpO
  have H1 := Lib.hid h1
  have H2 := Lib.hid h2
  have H3 := Lib.hid h3
  have H4 := Lib.hid h4
  have HM := Lib.hid hM
  clear hpF hpT hpO h1 h2 h3 h4 hM
  go_enter Tryd.func19, Tryd.ntmps19
  go_wp2_with fail
  rw [← hw4]
  clear hw4
  by_cases hV : 0 < V
  · have hcond : 0 < V := hV
    go_wp2_with ((go_at_call 33; refine hcmp.out.mono ?_; rintro e w5 ⟨rfl, z1⟩; obtain ⟨d0, d1, d2, d3, d4, d5, d6, d7, d8, d9, d10, d11⟩ := (HM.out.call z1).facts; obtain ⟨r0, r1, r2, r3, r4, r5⟩ := (HM.out.call z1).rfacts; have H5 := Lib.hid (show M4 rsT w [.slice a1 n1 c1, .slice a2 n2 c2, .bool false] [.slice a3 n3 c3, .slice a4 n4 c4, .bool true] [.slice a3 n3 c3, .slice a2 n2 c2, .bool false] _ from (HM.out.call z1).put 0 (.slice a3 n3 c3)); clear z1))
    obtain ⟨y0, y1, y2, y3⟩ := (H5.out).fin (.slice a3 n3 c3) (.slice a2 n2 c2) (.bool false) _ rfl
    have ET : false = pO ∧ Sl w a3 n3 c3 pF ∧ Sl w a2 n2 c2 pT := ⟨by rw [HO.out]; simp, by rw [HF.out, if_pos (by omega)]; exact H3.out, by rw [HT.out]; simp; exact H2.out⟩
    exact bodyPost_ret (v := .agg #[.slice a3 n3 c3, .slice a2 n2 c2, .bool false]) (by simp [results, Tryd.results19, go_sem, y0, y1, y2]) rfl (by rw [← ET.1]; first | exact ⟨_, _, _, _, _, _, rfl, ET.2.1.below y3, ET.2.2.below y3, y3⟩ | exact ⟨_, _, _, _, _, _, rfl, ET.2.1.below y3.drew, ET.2.2.below y3.drew, y3.drew⟩)
  · have hcond : ¬ 0 < V := hV
    go_wp2_with ((go_at_call 33; refine hcmp.out.mono ?_; rintro e w5 ⟨rfl, z1⟩; obtain ⟨d0, d1, d2, d3, d4, d5, d6, d7, d8, d9, d10, d11⟩ := (HM.out.call z1).facts; obtain ⟨r0, r1, r2, r3, r4, r5⟩ := (HM.out.call z1).rfacts; have H5 := Lib.hid (show M4 rsT w [.slice a1 n1 c1, .slice a2 n2 c2, .bool false] [.slice a3 n3 c3, .slice a4 n4 c4, .bool true] [.slice a1 n1 c1, .slice a2 n2 c2, .bool false] _ from HM.out.call z1); clear z1))
    obtain ⟨y0, y1, y2, y3⟩ := (H5.out).fin (.slice a1 n1 c1) (.slice a2 n2 c2) (.bool false) _ rfl
    have ET : false = pO ∧ Sl w a1 n1 c1 pF ∧ Sl w a2 n2 c2 pT := ⟨by rw [HO.out]; simp, by rw [HF.out, if_neg (by omega)]; exact H1.out, by rw [HT.out]; simp; exact H2.out⟩
    exact bodyPost_ret (v := .agg #[.slice a1 n1 c1, .slice a2 n2 c2, .bool false]) (by simp [results, Tryd.results19, go_sem, y0, y1, y2]) rfl (by rw [← ET.1]; first | exact ⟨_, _, _, _, _, _, rfl, ET.2.1.below y3, ET.2.2.below y3, y3⟩ | exact ⟨_, _, _, _, _, _, rfl, ET.2.1.below y3.drew, ET.2.2.below y3.drew, y3.drew⟩)
set_option maxHeartbeats 2000000 in
theorem r_meet_ff (h1 : Sl w a1 n1 c1 f) (h2 : Sl w a2 n2 c2 t) (h3 : Sl w a3 n3 c3 f') (h4 : Sl w a4 n4 c4 t') : Calls Tryd.prog 19 #[.agg #[.slice a1 n1 c1, .slice a2 n2 c2, .bool false], .agg #[.slice a3 n3 c3, .slice a4 n4 c4, .bool false]] w (meetPost (fromL f f') (toL t false t' false) (toO t false t' false) w) := by
  have M0 := M4.new rsT w [.slice a1 n1 c1, .slice a2 n2 c2, .bool false] [.slice a3 n3 c3, .slice a4 n4 c4, .bool false] [.slice a1 n1 c1, .slice a2 n2 c2, .bool false]
  obtain ⟨w4, hw4⟩ : ∃ w4, w4 = ((((w.alloc (.cells #[.slice a1 n1 c1, .slice a2 n2 c2, .bool false] rsT)).alloc (.cells #[.slice a3 n3 c3, .slice a4 n4 c4, .bool false] rsT)).alloc (.cells #[.slice none 0 0, .slice none 0 0, .bool false] rsT)).alloc (.cells #[.slice a1 n1 c1, .slice a2 n2 c2, .bool false] rsT)) := ⟨_, rfl⟩
  have hM : M4 rsT w [.slice a1 n1 c1, .slice a2 n2 c2, .bool false] [.slice a3 n3 c3, .slice a4 n4 c4, .bool false] [.slice a1 n1 c1, .slice a2 n2 c2, .bool false] w4 := by rw [hw4]; exact M0
  clear M0
  have hcmp := Lib.hid (cmp_b (h3.below hM.below) (h1.below hM.below))
  have hcmp2 := Lib.hid (fun wr (b : Below w.heap.size w wr) => cmp_b (h4.below b) (h2.below b))
  obtain ⟨pF, hpF⟩ : ∃ x, x = fromL f f' := ⟨_, rfl⟩
  obtain ⟨pT, hpT⟩ : ∃ x, x = toL t false t' false := ⟨_, rfl⟩
  obtain ⟨pO, hpO⟩ : ∃ x, x = toO t false t' false := ⟨_, rfl⟩
  rw [← hpF, ← hpT, ← hpO]
  unfold fromL at hpF
  unfold toL endsB at hpT
  unfold toO endsB at hpO
  generalize bcmp f' f = V at *
  generalize bcmp t' t = U at *
  have HF := Lib.hid hpF
  have HT := Lib.hid hpT
  have HO := Lib.hid hpO
  have H1 := Lib.hid h1
  have H2 := Lib.hid h2
  have H3 := Lib.hid h3
  have H4 := Lib.hid h4
  have HM := Lib.hid hM
  clear hpF hpT hpO h1 h2 h3 h4 hM
  go_enter Tryd.func19, Tryd.ntmps19
  go_wp2_with fail
  rw [← hw4]
  clear hw4
  by_cases hV : 0 < V
  · have hcond : 0 < V := hV
    by_cases hU : U < 0
    · have hcu : U < 0 := hU
      go_wp2_with (first
        | (go_at_call 33; refine (hcmp2.out _ H5.out.below).mono ?_; rintro e w6 ⟨rfl, z1⟩; obtain ⟨g0, g1, g2, g3, g4, g5, g6, g7, g8, g9, g10, g11⟩ := (H5.out.call z1).facts; obtain ⟨s0, s1, s2, s3, s4, s5⟩ := (H5.out.call z1).rfacts; have H6 := Lib.hid (H5.out.call z1); clear z1 d0 d1 d2 d3 d4 d5 d6 d7 d8 d9 d10 d11 r0 r1 r2 r3 r4 r5 H5)
        | (go_at_call 33; refine hcmp.out.mono ?_; rintro e w5 ⟨rfl, z1⟩; obtain ⟨d0, d1, d2, d3, d4, d5, d6, d7, d8, d9, d10, d11⟩ := (HM.out.call z1).facts; obtain ⟨r0, r1, r2, r3, r4, r5⟩ := (HM.out.call z1).rfacts; have H5 := Lib.hid (show M4 rsT w [.slice a1 n1 c1, .slice a2 n2 c2, .bool false] [.slice a3 n3 c3, .slice a4 n4 c4, .bool false] [.slice a3 n3 c3, .slice a2 n2 c2, .bool false] _ from (HM.out.call z1).put 0 (.slice a3 n3 c3)); clear z1))
      go_region
      all_goals
        have K7 : M4 rsT w [.slice a1 n1 c1, .slice a2 n2 c2, .bool false] [.slice a3 n3 c3, .slice a4 n4 c4, .bool false] [.slice a3 n3 c3, .slice a4 n4 c4, .bool false] ((w6.setCell ⟨w.heap.size + 1 + 1 + 1, 1, none⟩ (.slice a4 n4 c4)).setCell ⟨w.heap.size + 1 + 1 + 1, 2, none⟩ (.bool false)) := (H6.out.put 1 (.slice a4 n4 c4)).put 2 (.bool false)
        generalize ((w6.setCell ⟨w.heap.size + 1 + 1 + 1, 1, none⟩ (.slice a4 n4 c4)).setCell ⟨w.heap.size + 1 + 1 + 1, 2, none⟩ (.bool false)) = w7 at K7 ⊢
        obtain ⟨k0, k1, k2, k3, k4, k5, k6, k7, k8, k9, k10, k11⟩ := K7.facts
        obtain ⟨l0, l1, l2, l3, l4, l5⟩ := K7.rfacts
        have HK7 := Lib.hid K7
        clear K7
        (try simp only [Exit.then, Exit.inBlock])
        go_wp2_with fail
        obtain ⟨y0, y1, y2, y3⟩ := (HK7.out).fin (.slice a3 n3 c3) (.slice a4 n4 c4) (.bool false) _ rfl
        have ET : false = pO ∧ Sl w a3 n3 c3 pF ∧ Sl w a4 n4 c4 pT := ⟨by rw [HO.out]; simp [show U < 0 by omega], by rw [HF.out, if_pos (by omega)]; exact H3.out, by rw [HT.out]; simp [show U < 0 by omega]; exact H4.out⟩
        exact bodyPost_ret (v := .agg #[.slice a3 n3 c3, .slice a4 n4 c4, .bool false]) (by simp [results, Tryd.results19, go_sem, y0, y1, y2]) rfl (by rw [← ET.1]; first | exact ⟨_, _, _, _, _, _, rfl, ET.2.1.below y3, ET.2.2.below y3, y3⟩ | exact ⟨_, _, _, _, _, _, rfl, ET.2.1.below y3.drew, ET.2.2.below y3.drew, y3.drew⟩)
    · have hcu : ¬ U < 0 := hU
      go_wp2_with (first
        | (go_at_call 33; refine (hcmp2.out _ H5.out.below).mono ?_; rintro e w6 ⟨rfl, z1⟩; obtain ⟨g0, g1, g2, g3, g4, g5, g6, g7, g8, g9, g10, g11⟩ := (H5.out.call z1).facts; obtain ⟨s0, s1, s2, s3, s4, s5⟩ := (H5.out.call z1).rfacts; have H6 := Lib.hid (H5.out.call z1); clear z1 d0 d1 d2 d3 d4 d5 d6 d7 d8 d9 d10 d11 r0 r1 r2 r3 r4 r5 H5)
        | (go_at_call 33; refine hcmp.out.mono ?_; rintro e w5 ⟨rfl, z1⟩; obtain ⟨d0, d1, d2, d3, d4, d5, d6, d7, d8, d9, d10, d11⟩ := (HM.out.call z1).facts; obtain ⟨r0, r1, r2, r3, r4, r5⟩ := (HM.out.call z1).rfacts; have H5 := Lib.hid (show M4 rsT w [.slice a1 n1 c1, .slice a2 n2 c2, .bool false] [.slice a3 n3 c3, .slice a4 n4 c4, .bool false] [.slice a3 n3 c3, .slice a2 n2 c2, .bool false] _ from (HM.out.call z1).put 0 (.slice a3 n3 c3)); clear z1))
      obtain ⟨y0, y1, y2, y3⟩ := (H6.out).fin (.slice a3 n3 c3) (.slice a2 n2 c2) (.bool false) _ rfl
      have ET : false = pO ∧ Sl w a3 n3 c3 pF ∧ Sl w a2 n2 c2 pT := ⟨by rw [HO.out]; simp [show ¬ U < 0 by omega], by rw [HF.out, if_pos (by omega)]; exact H3.out, by rw [HT.out]; simp [show ¬ U < 0 by omega]; exact H2.out⟩
      exact bodyPost_ret (v := .agg #[.slice a3 n3 c3, .slice a2 n2 c2, .bool false]) (by simp [results, Tryd.results19, go_sem, y0, y1, y2]) rfl (by rw [← ET.1]; first | exact ⟨_, _, _, _, _, _, rfl, ET.2.1.below y3, ET.2.2.below y3, y3⟩ | exact ⟨_, _, _, _, _, _, rfl, ET.2.1.below y3.drew, ET.2.2.below y3.drew, y3.drew⟩)
  · have hcond : ¬ 0 < V := hV
    by_cases hU : U < 0
    · have hcu : U < 0 := hU
      go_wp2_with (first
        | (go_at_call 33; refine (hcmp2.out _ H5.out.below).mono ?_; rintro e w6 ⟨rfl, z1⟩; obtain ⟨g0, g1, g2, g3, g4, g5, g6, g7, g8, g9, g10, g11⟩ := (H5.out.call z1).facts; obtain ⟨s0, s1, s2, s3, s4, s5⟩ := (H5.out.call z1).rfacts; have H6 := Lib.hid (H5.out.call z1); clear z1 d0 d1 d2 d3 d4 d5 d6 d7 d8 d9 d10 d11 r0 r1 r2 r3 r4 r5 H5)
        | (go_at_call 33; refine hcmp.out.mono ?_; rintro e w5 ⟨rfl, z1⟩; obtain ⟨d0, d1, d2, d3, d4, d5, d6, d7, d8, d9, d10, d11⟩ := (HM.out.call z1).facts; obtain ⟨r0, r1, r2, r3, r4, r5⟩ := (HM.out.call z1).rfacts; have H5 := Lib.hid (show M4 rsT w [.slice a1 n1 c1, .slice a2 n2 c2, .bool false] [.slice a3 n3 c3, .slice a4 n4 c4, .bool false] [.slice a1 n1 c1, .slice a2 n2 c2, .bool false] _ from HM.out.call z1); clear z1))
      go_region
      all_goals
        have K7 : M4 rsT w [.slice a1 n1 c1, .slice a2 n2 c2, .bool false] [.slice a3 n3 c3, .slice a4 n4 c4, .bool false] [.slice a1 n1 c1, .slice a4 n4 c4, .bool false] ((w6.setCell ⟨w.heap.size + 1 + 1 + 1, 1, none⟩ (.slice a4 n4 c4)).setCell ⟨w.heap.size + 1 + 1 + 1, 2, none⟩ (.bool false)) := (H6.out.put 1 (.slice a4 n4 c4)).put 2 (.bool false)
        generalize ((w6.setCell ⟨w.heap.size + 1 + 1 + 1, 1, none⟩ (.slice a4 n4 c4)).setCell ⟨w.heap.size + 1 + 1 + 1, 2, none⟩ (.bool false)) = w7 at K7 ⊢
        obtain ⟨k0, k1, k2, k3, k4, k5, k6, k7, k8, k9, k10, k11⟩ := K7.facts
        obtain ⟨l0, l1, l2, l3, l4, l5⟩ := K7.rfacts
        have HK7 := Lib.hid K7
        clear K7
        (try simp only [Exit.then, Exit.inBlock])
        go_wp2_with fail
        obtain ⟨y0, y1, y2, y3⟩ := (HK7.out).fin (.slice a1 n1 c1) (.slice a4 n4 c4) (.bool false) _ rfl
        have ET : false = pO ∧ Sl w a1 n1 c1 pF ∧ Sl w a4 n4 c4 pT := ⟨by rw [HO.out]; simp [show U < 0 by omega], by rw [HF.out, if_neg (by omega)]; exact H1.out, by rw [HT.out]; simp [show U < 0 by omega]; exact H4.out⟩
        exact bodyPost_ret (v := .agg #[.slice a1 n1 c1, .slice a4 n4 c4, .bool false]) (by simp [results, Tryd.results19, go_sem, y0, y1, y2]) rfl (by rw [← ET.1]; first | exact ⟨_, _, _, _, _, _, rfl, ET.2.1.below y3, ET.2.2.below y3, y3⟩ | exact ⟨_, _, _, _, _, _, rfl, ET.2.1.below y3.drew, ET.2.2.below y3.drew, y3.drew⟩)
    · have hcu : ¬ U < 0 := hU
      go_wp2_with (first
        | (go_at_call 33; refine (hcmp2.out _ H5.out.below).mono ?_; rintro e w6 ⟨rfl, z1⟩; obtain ⟨g0, g1, g2, g3, g4, g5, g6, g7, g8, g9, g10, g11⟩ := (H5.out.call z1).facts; obtain ⟨s0, s1, s2, s3, s4, s5⟩ := (H5.out.call z1).rfacts; have H6 := Lib.hid (H5.out.call z1); clear z1 d0 d1 d2 d3 d4 d5 d6 d7 d8 d9 d10 d11 r0 r1 r2 r3 r4 r5 H5)
        | (go_at_call 33; refine hcmp.out.mono ?_; rintro e w5 ⟨rfl, z1⟩; obtain ⟨d0, d1, d2, d3, d4, d5, d6, d7, d8, d9, d10, d11⟩ := (HM.out.call z1).facts; obtain ⟨r0, r1, r2, r3, r4, r5⟩ := (HM.out.call z1).rfacts; have H5 := Lib.hid (show M4 rsT w [.slice a1 n1 c1, .slice a2 n2 c2, .bool false] [.slice a3 n3 c3, .slice a4 n4 c4, .bool false] [.slice a1 n1 c1, .slice a2 n2 c2, .bool false] _ from HM.out.call z1); clear z1))
      obtain ⟨y0, y1, y2, y3⟩ := (H6.out).fin (.slice a1 n1 c1) (.slice a2 n2 c2) (.bool false) _ rfl
      have ET : false = pO ∧ Sl w a1 n1 c1 pF ∧ Sl w a2 n2 c2 pT := ⟨by rw [HO.out]; simp [show ¬ U < 0 by omega], by rw [HF.out, if_neg (by omega)]; exact H1.out, by rw [HT.out]; simp [show ¬ U < 0 by omega]; exact H2.out⟩
      exact bodyPost_ret (v := .agg #[.slice a1 n1 c1, .slice a2 n2 c2, .bool false]) (by simp [results, Tryd.results19, go_sem, y0, y1, y2]) rfl (by rw [← ET.1]; first | exact ⟨_, _, _, _, _, _, rfl, ET.2.1.below y3, ET.2.2.below y3, y3⟩ | exact ⟨_, _, _, _, _, _, rfl, ET.2.1.below y3.drew, ET.2.2.below y3.drew, y3.drew⟩)
set_option maxHeartbeats 2000000 in
theorem r_meet_tf (h1 : Sl w a1 n1 c1 f) (h2 : Sl w a2 n2 c2 t) (h3 : Sl w a3 n3 c3 f') (h4 : Sl w a4 n4 c4 t') : Calls Tryd.prog 19 #[.agg #[.slice a1 n1 c1, .slice a2 n2 c2, .bool true], .agg #[.slice a3 n3 c3, .slice a4 n4 c4, .bool false]] w (meetPost (fromL f f') (toL t true t' false) (toO t true t' false) w) := by
  have M0 := M4.new rsT w [.slice a1 n1 c1, .slice a2 n2 c2, .bool true] [.slice a3 n3 c3, .slice a4 n4 c4, .bool false] [.slice a1 n1 c1, .slice a2 n2 c2, .bool true]
  obtain ⟨w4, hw4⟩ : ∃ w4, w4 = ((((w.alloc (.cells #[.slice a1 n1 c1, .slice a2 n2 c2, .bool true] rsT)).alloc (.cells #[.slice a3 n3 c3, .slice a4 n4 c4, .bool false] rsT)).alloc (.cells #[.slice none 0 0, .slice none 0 0, .bool false] rsT)).alloc (.cells #[.slice a1 n1 c1, .slice a2 n2 c2, .bool true] rsT)) := ⟨_, rfl⟩
  have hM : M4 rsT w [.slice a1 n1 c1, .slice a2 n2 c2, .bool true] [.slice a3 n3 c3, .slice a4 n4 c4, .bool false] [.slice a1 n1 c1, .slice a2 n2 c2, .bool true] w4 := by rw [hw4]; exact M0
  clear M0
  have hcmp := Lib.hid (cmp_b (h3.below hM.below) (h1.below hM.below))
  have hcmp2 := Lib.hid (fun wr (b : Below w.heap.size w wr) => cmp_b (h4.below b) (h2.below b))
  obtain ⟨pF, hpF⟩ : ∃ x, x = fromL f f' := ⟨_, rfl⟩
  obtain ⟨pT, hpT⟩ : ∃ x, x = toL t true t' false := ⟨_, rfl⟩
  obtain ⟨pO, hpO⟩ : ∃ x, x = toO t true t' false := ⟨_, rfl⟩
  rw [← hpF, ← hpT, ← hpO]
  unfold fromL at hpF
  unfold toL endsB at hpT
  unfold toO endsB at hpO
  generalize bcmp f' f = V at *
  generalize bcmp t' t = U at *
  have HF := Lib.hid hpF
  have HT := Lib.hid hpT
  have HO := Lib.hid hpO
  have H1 := Lib.hid h1
  have H2 := Lib.hid h2
  have H3 := Lib.hid h3
  have H4 := Lib.hid h4
  have HM := Lib.hid hM
  clear hpF hpT hpO h1 h2 h3 h4 hM
  go_enter Tryd.func19, Tryd.ntmps19
  go_wp2_with fail
  rw [← hw4]
  clear hw4
  by_cases hV : 0 < V
  · have hcond : 0 < V := hV
    go_wp2_with ((go_at_call 33; refine hcmp.out.mono ?_; rintro e w5 ⟨rfl, z1⟩; obtain ⟨d0, d1, d2, d3, d4, d5, d6, d7, d8, d9, d10, d11⟩ := (HM.out.call z1).facts; obtain ⟨r0, r1, r2, r3, r4, r5⟩ := (HM.out.call z1).rfacts; have H5 := Lib.hid (show M4 rsT w [.slice a1 n1 c1, .slice a2 n2 c2, .bool true] [.slice a3 n3 c3, .slice a4 n4 c4, .bool false] [.slice a3 n3 c3, .slice a2 n2 c2, .bool true] _ from (HM.out.call z1).put 0 (.slice a3 n3 c3)); clear z1))
    go_region
    all_goals
      have K7 : M4 rsT w [.slice a1 n1 c1, .slice a2 n2 c2, .bool true] [.slice a3 n3 c3, .slice a4 n4 c4, .bool false] [.slice a3 n3 c3, .slice a4 n4 c4, .bool false] (((w5.setCell ⟨w.heap.size + 1 + 1 + 1, 0, none⟩ (.slice a3 n3 c3)).setCell ⟨w.heap.size + 1 + 1 + 1, 1, none⟩ (.slice a4 n4 c4)).setCell ⟨w.heap.size + 1 + 1 + 1, 2, none⟩ (.bool false)) := (H5.out.put 1 (.slice a4 n4 c4)).put 2 (.bool false)
      generalize (((w5.setCell ⟨w.heap.size + 1 + 1 + 1, 0, none⟩ (.slice a3 n3 c3)).setCell ⟨w.heap.size + 1 + 1 + 1, 1, none⟩ (.slice a4 n4 c4)).setCell ⟨w.heap.size + 1 + 1 + 1, 2, none⟩ (.bool false)) = w7 at K7 ⊢
      obtain ⟨k0, k1, k2, k3, k4, k5, k6, k7, k8, k9, k10, k11⟩ := K7.facts
      obtain ⟨l0, l1, l2, l3, l4, l5⟩ := K7.rfacts
      have HK7 := Lib.hid K7
      clear K7
      (try simp only [Exit.then, Exit.inBlock])
      go_wp2_with fail
      obtain ⟨y0, y1, y2, y3⟩ := (HK7.out).fin (.slice a3 n3 c3) (.slice a4 n4 c4) (.bool false) _ rfl
      have ET : false = pO ∧ Sl w a3 n3 c3 pF ∧ Sl w a4 n4 c4 pT := ⟨by rw [HO.out]; simp, by rw [HF.out, if_pos (by omega)]; exact H3.out, by rw [HT.out]; simp; exact H4.out⟩
      exact bodyPost_ret (v := .agg #[.slice a3 n3 c3, .slice a4 n4 c4, .bool false]) (by simp [results, Tryd.results19, go_sem, y0, y1, y2]) rfl (by rw [← ET.1]; first | exact ⟨_, _, _, _, _, _, rfl, ET.2.1.below y3, ET.2.2.below y3, y3⟩ | exact ⟨_, _, _, _, _, _, rfl, ET.2.1.below y3.drew, ET.2.2.below y3.drew, y3.drew⟩)
  · have hcond : ¬ 0 < V := hV
    go_wp2_with ((go_at_call 33; refine hcmp.out.mono ?_; rintro e w5 ⟨rfl, z1⟩; obtain ⟨d0, d1, d2, d3, d4, d5, d6, d7, d8, d9, d10, d11⟩ := (HM.out.call z1).facts; obtain ⟨r0, r1, r2, r3, r4, r5⟩ := (HM.out.call z1).rfacts; have H5 := Lib.hid (show M4 rsT w [.slice a1 n1 c1, .slice a2 n2 c2, .bool true] [.slice a3 n3 c3, .slice a4 n4 c4, .bool false] [.slice a1 n1 c1, .slice a2 n2 c2, .bool true] _ from HM.out.call z1); clear z1))
    go_region
    all_goals
      have K7 : M4 rsT w [.slice a1 n1 c1, .slice a2 n2 c2, .bool true] [.slice a3 n3 c3, .slice a4 n4 c4, .bool false] [.slice a1 n1 c1, .slice a4 n4 c4, .bool false] ((w5.setCell ⟨w.heap.size + 1 + 1 + 1, 1, none⟩ (.slice a4 n4 c4)).setCell ⟨w.heap.size + 1 + 1 + 1, 2, none⟩ (.bool false)) := (H5.out.put 1 (.slice a4 n4 c4)).put 2 (.bool false)
      generalize ((w5.setCell ⟨w.heap.size + 1 + 1 + 1, 1, none⟩ (.slice a4 n4 c4)).setCell ⟨w.heap.size + 1 + 1 + 1, 2, none⟩ (.bool false)) = w7 at K7 ⊢
      obtain ⟨k0, k1, k2, k3, k4, k5, k6, k7, k8, k9, k10, k11⟩ := K7.facts
      obtain ⟨l0, l1, l2, l3, l4, l5⟩ := K7.rfacts
      have HK7 := Lib.hid K7
      clear K7
      (try simp only [Exit.then, Exit.inBlock])
      go_wp2_with fail
      obtain ⟨y0, y1, y2, y3⟩ := (HK7.out).fin (.slice a1 n1 c1) (.slice a4 n4 c4) (.bool false) _ rfl
      have ET : false = pO ∧ Sl w a1 n1 c1 pF ∧ Sl w a4 n4 c4 pT := ⟨by rw [HO.out]; simp, by rw [HF.out, if_neg (by omega)]; exact H1.out, by rw [HT.out]; simp; exact H4.out⟩
      exact bodyPost_ret (v := .agg #[.slice a1 n1 c1, .slice a4 n4 c4, .bool false]) (by simp [results, Tryd.results19, go_sem, y0, y1, y2]) rfl (by rw [← ET.1]; first | exact ⟨_, _, _, _, _, _, rfl, ET.2.1.below y3, ET.2.2.below y3, y3⟩ | exact ⟨_, _, _, _, _, _, rfl, ET.2.1.below y3.drew, ET.2.2.below y3.drew, y3.drew⟩)
set_option maxHeartbeats 2000000 in
theorem r_meet_tt (h1 : Sl w a1 n1 c1 f) (h2 : Sl w a2 n2 c2 t) (h3 : Sl w a3 n3 c3 f') (h4 : Sl w a4 n4 c4 t') : Calls Tryd.prog 19 #[.agg #[.slice a1 n1 c1, .slice a2 n2 c2, .bool true], .agg #[.slice a3 n3 c3, .slice a4 n4 c4, .bool true]] w (meetPost (fromL f f') (toL t true t' true) (toO t true t' true) w) := by
  have M0 := M4.new rsT w [.slice a1 n1 c1, .slice a2 n2 c2, .bool true] [.slice a3 n3 c3, .slice a4 n4 c4, .bool true] [.slice a1 n1 c1, .slice a2 n2 c2, .bool true]
  obtain ⟨w4, hw4⟩ : ∃ w4, w4 = ((((w.alloc (.cells #[.slice a1 n1 c1, .slice a2 n2 c2, .bool true] rsT)).alloc (.cells #[.slice a3 n3 c3, .slice a4 n4 c4, .bool true] rsT)).alloc (.cells #[.slice none 0 0, .slice none 0 0, .bool false] rsT)).alloc (.cells #[.slice a1 n1 c1, .slice a2 n2 c2, .bool true] rsT)) := ⟨_, rfl⟩
  have hM : M4 rsT w [.slice a1 n1 c1, .slice a2 n2 c2, .bool true] [.slice a3 n3 c3, .slice a4 n4 c4, .bool true] [.slice a1 n1 c1, .slice a2 n2 c2, .bool true] w4 := by rw [hw4]; exact M0
  clear M0
  have hcmp := Lib.hid (cmp_b (h3.below hM.below) (h1.below hM.below))
  have hcmp2 := Lib.hid (fun wr (b : Below w.heap.size w wr) => cmp_b (h4.below b) (h2.below b))
  obtain ⟨pF, hpF⟩ : ∃ x, x = fromL f f' := ⟨_, rfl⟩
  obtain ⟨pT, hpT⟩ : ∃ x, x = toL t true t' true := ⟨_, rfl⟩
  obtain ⟨pO, hpO⟩ : ∃ x, x = toO t true t' true := ⟨_, rfl⟩
  rw [← hpF, ← hpT, ← hpO]
  unfold fromL at hpF
  unfold toL endsB at hpT
  unfold toO endsB at hpO
  generalize bcmp f' f = V at *
  generalize bcmp t' t = U at *
  have HF := Lib.hid hpF
  have HT := Lib.hid hpT
  have HO := Lib.hid hpO
  have H1 := Lib.hid h1
  have H2 := Lib.hid h2
  have H3 := Lib.hid h3
  have H4 := Lib.hid h4
  have HM := Lib.hid hM
  clear hpF hpT hpO h1 h2 h3 h4 hM
  go_enter Tryd.func19, Tryd.ntmps19
  go_wp2_with fail
  rw [← hw4]
  clear hw4
  by_cases hV : 0 < V
  · have hcond : 0 < V := hV
    go_wp2_with ((go_at_call 33; refine hcmp.out.mono ?_; rintro e w5 ⟨rfl, z1⟩; obtain ⟨d0, d1, d2, d3, d4, d5, d6, d7, d8, d9, d10, d11⟩ := (HM.out.call z1).facts; obtain ⟨r0, r1, r2, r3, r4, r5⟩ := (HM.out.call z1).rfacts; have H5 := Lib.hid (show M4 rsT w [.slice a1 n1 c1, .slice a2 n2 c2, .bool true] [.slice a3 n3 c3, .slice a4 n4 c4, .bool true] [.slice a3 n3 c3, .slice a2 n2 c2, .bool true] _ from (HM.out.call z1).put 0 (.slice a3 n3 c3)); clear z1))
    go_region
    all_goals
      have K7 : M4 rsT w [.slice a1 n1 c1, .slice a2 n2 c2, .bool true] [.slice a3 n3 c3, .slice a4 n4 c4, .bool true] [.slice a3 n3 c3, .slice a4 n4 c4, .bool true] (((w5.setCell ⟨w.heap.size + 1 + 1 + 1, 0, none⟩ (.slice a3 n3 c3)).setCell ⟨w.heap.size + 1 + 1 + 1, 1, none⟩ (.slice a4 n4 c4)).setCell ⟨w.heap.size + 1 + 1 + 1, 2, none⟩ (.bool true)) := (H5.out.put 1 (.slice a4 n4 c4)).put 2 (.bool true)
      generalize (((w5.setCell ⟨w.heap.size + 1 + 1 + 1, 0, none⟩ (.slice a3 n3 c3)).setCell ⟨w.heap.size + 1 + 1 + 1, 1, none⟩ (.slice a4 n4 c4)).setCell ⟨w.heap.size + 1 + 1 + 1, 2, none⟩ (.bool true)) = w7 at K7 ⊢
      obtain ⟨k0, k1, k2, k3, k4, k5, k6, k7, k8, k9, k10, k11⟩ := K7.facts
      obtain ⟨l0, l1, l2, l3, l4, l5⟩ := K7.rfacts
      have HK7 := Lib.hid K7
      clear K7
      (try simp only [Exit.then, Exit.inBlock])
      go_wp2_with fail
      obtain ⟨y0, y1, y2, y3⟩ := (HK7.out.put 1 (.slice none 0 0)).fin (.slice a3 n3 c3) (.slice none 0 0) (.bool true) _ rfl
      have ET : true = pO ∧ Sl w a3 n3 c3 pF ∧ Sl w none 0 0 pT := ⟨by rw [HO.out]; simp, by rw [HF.out, if_pos (by omega)]; exact H3.out, by rw [HT.out]; simp; exact (sl_nil w)⟩
      exact bodyPost_ret (v := .agg #[.slice a3 n3 c3, .slice none 0 0, .bool true]) (by simp [results, Tryd.results19, go_sem, y0, y1, y2]) rfl (by rw [← ET.1]; first | exact ⟨_, _, _, _, _, _, rfl, ET.2.1.below y3, ET.2.2.below y3, y3⟩ | exact ⟨_, _, _, _, _, _, rfl, ET.2.1.below y3.drew, ET.2.2.below y3.drew, y3.drew⟩)
  · have hcond : ¬ 0 < V := hV
    go_wp2_with ((go_at_call 33; refine hcmp.out.mono ?_; rintro e w5 ⟨rfl, z1⟩; obtain ⟨d0, d1, d2, d3, d4, d5, d6, d7, d8, d9, d10, d11⟩ := (HM.out.call z1).facts; obtain ⟨r0, r1, r2, r3, r4, r5⟩ := (HM.out.call z1).rfacts; have H5 := Lib.hid (show M4 rsT w [.slice a1 n1 c1, .slice a2 n2 c2, .bool true] [.slice a3 n3 c3, .slice a4 n4 c4, .bool true] [.slice a1 n1 c1, .slice a2 n2 c2, .bool true] _ from HM.out.call z1); clear z1))
    go_region
    all_goals
      have K7 : M4 rsT w [.slice a1 n1 c1, .slice a2 n2 c2, .bool true] [.slice a3 n3 c3, .slice a4 n4 c4, .bool true] [.slice a1 n1 c1, .slice a4 n4 c4, .bool true] ((w5.setCell ⟨w.heap.size + 1 + 1 + 1, 1, none⟩ (.slice a4 n4 c4)).setCell ⟨w.heap.size + 1 + 1 + 1, 2, none⟩ (.bool true)) := (H5.out.put 1 (.slice a4 n4 c4)).put 2 (.bool true)
      generalize ((w5.setCell ⟨w.heap.size + 1 + 1 + 1, 1, none⟩ (.slice a4 n4 c4)).setCell ⟨w.heap.size + 1 + 1 + 1, 2, none⟩ (.bool true)) = w7 at K7 ⊢
      obtain ⟨k0, k1, k2, k3, k4, k5, k6, k7, k8, k9, k10, k11⟩ := K7.facts
      obtain ⟨l0, l1, l2, l3, l4, l5⟩ := K7.rfacts
      have HK7 := Lib.hid K7
      clear K7
      (try simp only [Exit.then, Exit.inBlock])
      go_wp2_with fail
      obtain ⟨y0, y1, y2, y3⟩ := (HK7.out.put 1 (.slice none 0 0)).fin (.slice a1 n1 c1) (.slice none 0 0) (.bool true) _ rfl
      have ET : true = pO ∧ Sl w a1 n1 c1 pF ∧ Sl w none 0 0 pT := ⟨by rw [HO.out]; simp, by rw [HF.out, if_neg (by omega)]; exact H1.out, by rw [HT.out]; simp; exact (sl_nil w)⟩
      exact bodyPost_ret (v := .agg #[.slice a1 n1 c1, .slice none 0 0, .bool true]) (by simp [results, Tryd.results19, go_sem, y0, y1, y2]) rfl (by rw [← ET.1]; first | exact ⟨_, _, _, _, _, _, rfl, ET.2.1.below y3, ET.2.2.below y3, y3⟩ | exact ⟨_, _, _, _, _, _, rfl, ET.2.1.below y3.drew, ET.2.2.below y3.drew, y3.drew⟩)
end
end Go.Proofs.YtehamfhblpokbaaDoor
