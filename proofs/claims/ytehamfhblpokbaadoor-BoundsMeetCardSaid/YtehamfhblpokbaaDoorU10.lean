/- alive of law 07. -/
import Derived.Test.YtehamfhblpokbaaDoorU9
import Derived.StillTailTactics
import Derived.Deep.RegionHeld3
set_option linter.unusedVariables false
set_option linter.unusedSimpArgs false
namespace Go.Proofs.YtehamfhblpokbaaDoor
open Go.RowKit
theorem field_open (w : World) (a b : Option Addr) (n c m d : Nat) (o : Bool) : (Instr.field 28 (.agg #[.slice a n c, .slice b m d, .bool o]) 2).run Tryd.prog w = .ok (.bool o) w := by
  simp [Instr.field, go_sem, Tryd.underlying28]
  rfl
theorem three_at (w : World) (o : Obj) (_ _ : Nat) : FsAt ((w.alloc o).alloc (.cells #[.int .i64 1, .bool false] 65) |>.alloc (.cells #[.int .u64 1, .int .i64 0, .slice none 0 0, .bool false] 66)) (w.heap.size + 1) ∧ VsAt ((w.alloc o).alloc (.cells #[.int .i64 1, .bool false] 65) |>.alloc (.cells #[.int .u64 1, .int .i64 0, .slice none 0 0, .bool false] 66)) (w.heap.size + 1 + 1) := by
  obtain ⟨w1, h1⟩ : ∃ w1, w1 = w.alloc o := ⟨_, rfl⟩
  rw [← h1]
  obtain ⟨w2, h2⟩ : ∃ w2, w2 = w1.alloc (.cells #[.int .i64 1, .bool false] 65) := ⟨_, rfl⟩
  rw [← h2]
  have s1 : w1.heap.size = w.heap.size + 1 := by rw [h1]; simp
  have s2 : w2.heap.size = w.heap.size + 1 + 1 := by rw [h2, World.size_alloc, s1]
  have k1 : FsAt w2 (w.heap.size + 1) := by rw [h2, ← s1]; exact heap_alloc_new w1 _
  refine ⟨k1.below (below_al _ _), ?_⟩
  rw [← s2]
  exact heap_alloc_new w2 _
set_option maxHeartbeats 4000000 in
set_option maxRecDepth 100000 in
theorem aliveB_any (w : World) : Calls Tryd.prog 7 #[] w (belowPost (.bool true) w) := by
  have hP := Lib.hid (b_prefix (sl_two w 1 255 5 (by omega) (by omega)) (by omega))
  have hB0 := Lib.hid (below_al w (.cells #[.int .u8 ((1 : Nat) : Int), .int .u8 ((255 : Nat) : Int)] 5))
  go_enter Tryd.func7, Tryd.ntmps7
  go_wp2_with (first
    | (go_at_call 21; refine (one_of _ _ _ hFs.out.1 hFs.out.2).mono ?_; rintro e w2 ⟨y1, k1, e1, y2, k2, e2, rfl, z1, z2, z3⟩
       have hY := SpAt.new z1 z2
       have hXX := (hX3.out.below z3).below (below_al w2 (.cells #[.slice y1 k1 e1, .slice y2 k2 e2, .bool false] bsT))
       have hA := Lib.hid (alb_of hXX.2.1 hXX.2.2 hY.2.1 hY.2.2)
       have HX := Lib.hid hXX
       have HY := Lib.hid hY
       have BA := Lib.hid ((B3.out.trans (z3.mono B3.out.size)).alloc (B3.out.trans (z3.mono B3.out.size)).size (.cells #[.slice y1 k1 e1, .slice y2 k2 e2, .bool false] bsT))
       clear z1 z2 z3 hY hXX)
    | (go_at_call 9; refine hP.out.mono ?_; rintro e w1 z; obtain ⟨x1, m1, d1, x2, m2, d2, rfl, z1, z2, z3⟩ := pref_is z next_1255 rfl
       have hFs : Hid (FsAt (((w1.alloc (.cells #[.slice x1 m1 d1, .slice x2 m2 d2, .bool false] bsT)).alloc (.cells #[.int .i64 1, .bool false] 65)).alloc (.cells #[.int .u64 1, .int .i64 0, .slice none 0 0, .bool false] 66)) (w1.heap.size + 1) ∧ VsAt (((w1.alloc (.cells #[.slice x1 m1 d1, .slice x2 m2 d2, .bool false] bsT)).alloc (.cells #[.int .i64 1, .bool false] 65)).alloc (.cells #[.int .u64 1, .int .i64 0, .slice none 0 0, .bool false] 66)) (w1.heap.size + 1 + 1)) := three_at w1 _ 0 0
       have hX3 := Lib.hid ((SpAt.new z1 z2).below (below_al2 _ (.cells #[.int .i64 1, .bool false] 65) (.cells #[.int .u64 1, .int .i64 0, .slice none 0 0, .bool false] 66)))
       have B1 := hB0.out.trans (z3.mono hB0.out.size)
       have B3 := Lib.hid (((B1.alloc B1.size (.cells #[.slice x1 m1 d1, .slice x2 m2 d2, .bool false] bsT)).alloc (by have := B1.size; rw [World.size_alloc]; omega) (.cells #[.int .i64 1, .bool false] 65)).alloc (by have := B1.size; rw [World.size_alloc, World.size_alloc]; omega) (.cells #[.int .u64 1, .int .i64 0, .slice none 0 0, .bool false] 66))
       clear z z1 z2 z3 B1))
  have HX2 : Hid (SpAt (w2.alloc (.cells #[.slice y1 k1 e1, .slice y2 k2 e2, .bool false] bsT)) w1.heap.size x1 m1 d1 x2 m2 d2 [1, 255] [2]) := HX.out
  clear HX hFs hX3 B3 hP hB0
  generalize w2.alloc (.cells #[.slice y1 k1 e1, .slice y2 k2 e2, .bool false] bsT) = wA at *
  obtain ⟨f0, f1, f2⟩ := HX2.out.cells
  obtain ⟨g0, g1, g2⟩ := HY.out.cells
  have hc := Lib.hid (fun w' (b : Below wA.heap.size wA w') => And.intro (HX2.out.below b).cells (HY.out.below b).cells)
  have hfl := fun w => field_open w none none 0 0 0 0 true
  go_region_held3 (fun w' => w'.cell? ⟨w1.heap.size, 0, none⟩ = some (.slice x1 m1 d1) ∧ w'.cell? ⟨w1.heap.size, 1, none⟩ = some (.slice x2 m2 d2) ∧ w'.cell? ⟨w1.heap.size, 2, none⟩ = some (.bool false) ∧ w'.cell? ⟨w2.heap.size, 0, none⟩ = some (.slice y1 k1 e1) ∧ w'.cell? ⟨w2.heap.size, 1, none⟩ = some (.slice y2 k2 e2) ∧ w'.cell? ⟨w2.heap.size, 2, none⟩ = some (.bool false)) (first | go_keep)
    (first
      | (go_at_call 16; refine (hSm.out _ (by first | exact Below.refl _ _ | exact (Below.refl _ _).drew | exact below_drewN (Below.refl _ _) _)).mono ?_; rintro e w9 ⟨rfl, z1⟩; have B9 := Lib.hid z1; obtain ⟨⟨f0, f1, f2⟩, g0, g1, g2⟩ := hc.out w9 z1; clear z1)
      | (go_at_call 18; refine (hA.out.meet _ (by first | exact B7.out | exact B7.out.drew | exact below_drewN B7.out _)).mono ?_; rintro e w8 ⟨b1, j1, h1, b2, j2, h2, rfl, z1, z2⟩; have B8 := Lib.hid z1; have hSm := Lib.hid z2; clear z2; obtain ⟨⟨f0, f1, f2⟩, g0, g1, g2⟩ := hc.out w8 z1; clear z1)
      | (go_at_call 11; refine (hA.out.has3 w6 _ B6.out (by first | exact Below.refl _ _ | exact (Below.refl _ _).drew | exact below_drewN (Below.refl _ _) _)).mono ?_; rintro e w7 ⟨rfl, z1⟩; have B7 := Lib.hid z1; obtain ⟨⟨f0, f1, f2⟩, g0, g1, g2⟩ := hc.out w7 z1; clear z1)
      | (go_at_call 14; refine (hA.out.empty _ (by first | exact B5.out | exact B5.out.drew | exact below_drewN B5.out _)).mono ?_; rintro e w6 ⟨rfl, z1⟩; have B6 := Lib.hid z1; obtain ⟨⟨f0, f1, f2⟩, g0, g1, g2⟩ := hc.out w6 z1; have ga0 := fun o => (hc.out (w6.alloc o) (z1.alloc z1.size o)).2.1; have ga1 := fun o => (hc.out (w6.alloc o) (z1.alloc z1.size o)).2.2.1; have ga2 := fun o => (hc.out (w6.alloc o) (z1.alloc z1.size o)).2.2.2; clear z1)
      | (go_at_call 20; refine (hA.out.whole _ (by first | exact B4.out | exact B4.out.drew | exact below_drewN B4.out _)).mono ?_; rintro e w5 ⟨rfl, z1⟩; have B5 := Lib.hid z1; obtain ⟨⟨f0, f1, f2⟩, g0, g1, g2⟩ := hc.out w5 z1; clear z1)
      | (go_at_call 11; refine (hA.out.has2 w3 _ B3.out (by first | exact Below.refl _ _ | exact (Below.refl _ _).drew | exact below_drewN (Below.refl _ _) _)).mono ?_; rintro e w4 ⟨rfl, z1⟩; have B4 := Lib.hid z1; obtain ⟨⟨f0, f1, f2⟩, g0, g1, g2⟩ := hc.out w4 z1; clear z1)
      | (go_at_call 11; refine (hA.out.has1 wA _ (Below.refl _ _) (by first | exact Below.refl _ _ | exact (Below.refl _ _).drew | exact below_drewN (Below.refl _ _) _)).mono ?_; rintro e w3 ⟨rfl, z1⟩; have B3 := Lib.hid z1; obtain ⟨⟨f0, f1, f2⟩, g0, g1, g2⟩ := hc.out w3 z1; clear z1))
  all_goals
    (try simp only [Exit.then, Exit.inBlock])
    go_wp2_with fail
    go_ret
    exact ⟨rfl, BA.out.trans (B9.out.mono BA.out.size)⟩
end Go.Proofs.YtehamfhblpokbaaDoor
