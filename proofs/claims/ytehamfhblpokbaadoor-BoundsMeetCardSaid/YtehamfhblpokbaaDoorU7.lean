/- The bytes of the one tuple that alive puts. -/
import Derived.Test.YtehamfhblpokbaaDoorU5
set_option linter.unusedVariables false
set_option linter.unusedSimpArgs false
namespace Go.Proofs.YtehamfhblpokbaaDoor
open Go.RowKit
def purePost (v : Value) (w : World) (e : Ending) (w' : World) : Prop := e = .returned v ∧ w = w'
theorem one_whole (w : World) : Calls Tryd.prog 60 #[.int .i64 1] w (purePost (.bool true) w) := by
  go_enter Tryd.func60, Tryd.ntmps60
  go_wp2_with fail
  go_ret
  exact ⟨rfl, rfl⟩
theorem one_signed (w : World) : Calls Tryd.prog 63 #[.int .i64 1] w (purePost (.bool false) w) := by
  go_enter Tryd.func63, Tryd.ntmps63
  go_wp2_with fail
  go_ret
  exact ⟨rfl, rfl⟩
theorem one_width (w : World) : Calls Tryd.prog 62 #[.int .i64 1] w (purePost (.int .i64 1) w) := by
  have h := Lib.hid (fun w => one_signed w)
  go_enter Tryd.func62, Tryd.ntmps62
  go_wp2_with (go_at_call 63; refine (h.out _).mono ?_; rintro e w' ⟨rfl, rfl⟩)
  go_ret
  exact ⟨rfl, rfl⟩
theorem one_isw (w : World) : Calls Tryd.prog 74 #[.int .i64 1] w (purePost (.bool true) w) := by
  go_enter Tryd.func74, Tryd.ntmps74
  go_wp2_with fail
  go_ret
  exact ⟨rfl, rfl⟩
theorem one_most (w : World) : Calls Tryd.prog 71 #[.int .i64 1] w (purePost (.tuple #[.int .u64 255, .int .i64 0]) w) := by
  have h := Lib.hid (fun w => one_isw w)
  go_enter Tryd.func71, Tryd.ntmps71
  go_wp2_with (go_at_call 74; refine (h.out _).mono ?_; rintro e w' ⟨rfl, rfl⟩)
  go_ret2
  exact ⟨rfl, rfl⟩
theorem one_check (w : World) (fl : Bool) : Calls Tryd.prog 51 #[.agg #[.int .i64 1, .bool fl]] w (belowPost (.int .i64 0) w) := by
  have hB : Hid (∀ o1, Below w.heap.size w (w.alloc o1)) := below_al w
  go_enter Tryd.func51, Tryd.ntmps51
  go_wp2_with fail
  go_ret
  exact ⟨rfl, hB.out _⟩
set_option maxRecDepth 100000 in
theorem one_uput (w : World) : Calls Tryd.prog 61 #[.int .i64 1, .int .u64 1] w fun e w' => ∃ a c, e = .returned (.tuple #[.slice a 1 c, .int .i64 0]) ∧ Sl w' a 1 c [1] ∧ Below w.heap.size w w' := by
  have h := Lib.hid (fun w => one_most w)
  have hmk : ∀ w, (Instr.makeSlice 22 (.int .i64 1) (.int .i64 1)).run Tryd.prog w = .ok (.slice (some ⟨w.heap.size, 0, none⟩) 1 1) (w.alloc (.cells #[.int .u8 0] 5)) := fun w => make_u8 w 1 (by omega)
  have hfin := Lib.hid (And.intro (sl_one w 1 5 (by omega)) (below_al w (.cells #[.int .u8 ((1 : Nat) : Int)] 5)))
  go_enter Tryd.func61, Tryd.ntmps61
  go_wp2_with (go_at_call 71; refine (h.out _).mono ?_; rintro e w' ⟨rfl, rfl⟩)
  go_loopw [27] (fun vi wr => (vi = .int .i64 0 ∧ wr = w.alloc (.cells #[.int .u8 0] 5)) ∨ (vi = .int .i64 1 ∧ wr = w.alloc (.cells #[.int .u8 1] 5))) (fun vi _ => (1 - intOf vi).toNat)
  case atStart => exact Or.inl ⟨rfl, rfl⟩
  case round =>
    rcases hrel with ⟨rfl, rfl⟩ | ⟨rfl, rfl⟩
    · go_wp2_with fail
      go_roundw
      case rel => exact Or.inr ⟨rfl, (by first | rfl | trivial)⟩
      case measure => simp [intOf]
    · go_wp2_with fail
      go_ret2
      exact ⟨_, _, rfl, hfin.out.1, hfin.out.2⟩
def onePost (w : World) (e : Ending) (w' : World) : Prop := ∃ a c, e = .returned (.tuple #[.slice a 1 c, .int .i64 0]) ∧ Sl w' a 1 c [1] ∧ Below w.heap.size w w'
set_option maxHeartbeats 2000000 in
set_option maxRecDepth 100000 in
theorem one_fput (w : World) : Calls Tryd.prog 52 #[.agg #[.int .i64 1, .bool false], .agg #[.int .u64 1, .int .i64 0, .slice none 0 0, .bool false]] w (onePost w) := by
  have h1 := Lib.hid (fun w => one_whole w)
  have h2 := Lib.hid (fun w => one_width w)
  have h3 := Lib.hid (fun w => one_uput w)
  have hB : Hid (∀ o1 o2, Below w.heap.size w ((w.alloc o1).alloc o2)) := below_al2 w
  have hD : Hid (∀ o1 o2 k, Below w.heap.size w (((w.alloc o1).alloc o2).drewN k)) := fun o1 o2 k => below_drewN (below_al2 w o1 o2) k
  go_enter Tryd.func52, Tryd.ntmps52
  go_wp2_with (go_at_call 60; refine (h1.out _).mono ?_; rintro e w' ⟨rfl, rfl⟩)
  go_region_with (first
    | (go_at_call 61; refine (h3.out _).mono ?_; rintro e w2 ⟨a2, c2, rfl, z1, z2⟩; have Z1 := Lib.hid z1; have Z2 := Lib.hid z2; clear z1 z2)
    | (go_at_call 62; refine (h2.out _).mono ?_; rintro e w' ⟨rfl, rfl⟩))
  all_goals
    go_wp2_with fail
    go_ret2
    exact ⟨a2, c2, rfl, Z1.out, ((hB.out _ _).drew).trans (Z2.out.mono ((hB.out _ _).drew).size)⟩
theorem one_turn (w : World) (a : Option Addr) (n c : Nat) : Calls Tryd.prog 53 #[.agg #[.int .i64 1, .bool false], .slice a n c] w (belowPost (.slice a n c) w) := by
  have hB : Hid (∀ o1, Below w.heap.size w (w.alloc o1)) := below_al w
  go_enter Tryd.func53, Tryd.ntmps53
  go_wp2_with fail
  go_ret
  exact ⟨rfl, hB.out _⟩
set_option maxRecDepth 100000 in
theorem one_put (w : World) : Calls Tryd.prog 46 #[.agg #[.int .i64 1, .bool false], .agg #[.int .u64 1, .int .i64 0, .slice none 0 0, .bool false]] w (onePost w) := by
  obtain ⟨w1, hw1⟩ : ∃ w1, w1 = (w.alloc (.cells #[.int .i64 1, .bool false] 65)).alloc (.cells #[.int .u64 1, .int .i64 0, .slice none 0 0, .bool false] 66) := ⟨_, rfl⟩
  have b1 : Below w.heap.size w w1 := by rw [hw1]; exact below_al2 w _ _
  have k1 : w1.heap[w.heap.size]? = some (.cells [.int .i64 1, .bool false].toArray 65 (0, 0)) := by
    rw [hw1, Below.heap_alloc _ _ _ (by simp)]; exact heap_alloc_new w _
  have h1 := Lib.hid (one_fput w1)
  have h2 := Lib.hid (fun w a n c => one_turn w a n c)
  have hc : Hid (∀ w2, Below w1.heap.size w1 w2 → w2.cell? ⟨w.heap.size, 0, none⟩ = some (.int .i64 1) ∧ w2.cell? ⟨w.heap.size, 1, none⟩ = some (.bool false)) := fun w2 b => by
    have := (b.block _ (Array.getElem?_eq_some_iff.1 k1).1).trans k1
    exact ⟨by rw [cell_of_blk this]; rfl, by rw [cell_of_blk this]; rfl⟩
  have hB := Lib.hid b1
  clear k1 b1
  go_enter Tryd.func46, Tryd.ntmps46
  go_wp2_with fail
  rw [← hw1]
  clear hw1
  go_wp2_with (first
    | (go_at_call 53; refine (h2.out _ _ _ _).mono ?_; rintro e w3 ⟨rfl, z1⟩; have Z3 := Lib.hid z1; clear z1)
    | (go_at_call 52; refine h1.out.mono ?_; rintro e w2 ⟨a2, c2, rfl, z1, z2⟩; obtain ⟨x0, x1⟩ := hc.out _ z2; have Z1 := Lib.hid z1; have Z2 := Lib.hid z2; clear z1 z2))
  go_ret2
  exact ⟨a2, c2, rfl, Z1.out.below Z3.out, (hB.out.trans (Z2.out.mono hB.out.size)).trans (Z3.out.mono (hB.out.trans (Z2.out.mono hB.out.size)).size)⟩
def FsAt (w : World) (b : Nat) : Prop := w.heap[b]? = some (.cells [.int .i64 1, .bool false].toArray 65 (0, 0))
def VsAt (w : World) (b : Nat) : Prop := w.heap[b]? = some (.cells [.int .u64 1, .int .i64 0, .slice none 0 0, .bool false].toArray 66 (0, 0))
theorem FsAt.below {w w' : World} {b : Nat} (h : FsAt w b) (hb : Below w.heap.size w w') : FsAt w' b := (hb.block _ (Array.getElem?_eq_some_iff.1 h).1).trans h
theorem VsAt.below {w w' : World} {b : Nat} (h : VsAt w b) (hb : Below w.heap.size w w') : VsAt w' b := (hb.block _ (Array.getElem?_eq_some_iff.1 h).1).trans h
theorem FsAt.cells {w : World} {b : Nat} (h : FsAt w b) : w.cell? ⟨b, 0, none⟩ = some (.int .i64 1) ∧ w.cell? ⟨b, 1, none⟩ = some (.bool false) := ⟨by rw [cell_of_blk h]; rfl, by rw [cell_of_blk h]; rfl⟩
theorem VsAt.cells {w : World} {b : Nat} (h : VsAt w b) : w.cell? ⟨b, 0, none⟩ = some (.int .u64 1) ∧ w.cell? ⟨b, 1, none⟩ = some (.int .i64 0) ∧ w.cell? ⟨b, 2, none⟩ = some (.slice none 0 0) ∧ w.cell? ⟨b, 3, none⟩ = some (.bool false) := ⟨by rw [cell_of_blk h]; rfl, by rw [cell_of_blk h]; rfl, by rw [cell_of_blk h]; rfl, by rw [cell_of_blk h]; rfl⟩
set_option maxRecDepth 100000 in
theorem one_tcheck (w : World) (b c : Nat) (h : FsAt w b) : Calls Tryd.prog 45 #[.slice (some ⟨b, 0, none⟩) 1 c] w (belowPost (.int .i64 0) w) := by
  have h0 := Lib.hid (Below.refl w.heap.size w)
  have hc := Lib.hid (fun wr (B : Below w.heap.size w wr) => (h.below B).cells)
  have hk := Lib.hid (fun w => one_check w false)
  clear h
  go_enter Tryd.func45, Tryd.ntmps45
  go_wp2_with fail
  go_loopw [11] (fun vi wr => (vi = .int .i64 0 ∨ vi = .int .i64 1) ∧ Hid (Below w.heap.size w wr)) (fun vi _ => (1 - intOf vi).toNat)
  case atStart => exact ⟨Or.inl rfl, h0⟩
  case round =>
    clear h0
    obtain ⟨rfl | rfl, hB⟩ := hrel
    · obtain ⟨x0, x1⟩ := hc.out _ hB.out
      have hB2 : Hid (∀ o1, Below w.heap.size w (wr.alloc o1)) := fun o => hB.out.alloc hB.out.size o
      go_wp2_with (go_at_call 51; refine (hk.out _).mono ?_; rintro e w2 ⟨rfl, z1⟩; have Z := Lib.hid ((hB2.out _).trans (z1.mono (hB2.out _).size)); clear z1)
      go_roundw
      case rel => exact ⟨Or.inr rfl, Z⟩
      case measure => simp [intOf]
    · go_wp2_with fail
      go_ret
      exact ⟨rfl, hB.out⟩
set_option maxHeartbeats 2000000 in
set_option maxRecDepth 100000 in
theorem one_tput (w : World) (b b2 c c2 : Nat) (h : FsAt w b) (h2 : VsAt w b2) : Calls Tryd.prog 38 #[.slice (some ⟨b, 0, none⟩) 1 c, .slice (some ⟨b2, 0, none⟩) 1 c2] w (onePost w) := by
  have hc := Lib.hid (fun wr (B : Below w.heap.size w wr) => (h.below B).cells)
  have hd := Lib.hid (fun wr (B : Below w.heap.size w wr) => (h2.below B).cells)
  have hk := Lib.hid (one_tcheck w b c h)
  have hp := Lib.hid (fun w => one_put w)
  clear h h2
  go_enter Tryd.func38, Tryd.ntmps38
  go_wp2_with (go_at_call 45; refine hk.out.mono ?_; rintro e w1 ⟨rfl, z1⟩; have B1 := Lib.hid z1; clear z1)
  go_loopw [32, 7] (fun vi v7 wr => ((vi = .int .i64 0 ∧ v7 = .slice none 0 0) ∨ (vi = .int .i64 1 ∧ ∃ a c, v7 = .slice a 1 c ∧ Hid (Sl wr a 1 c [1]))) ∧ Hid (Below w.heap.size w wr)) (fun vi _ _ => (1 - intOf vi).toNat)
  case atStart => exact ⟨Or.inl ⟨rfl, rfl⟩, B1⟩
  case round =>
    clear B1
    obtain ⟨⟨rfl, rfl⟩ | ⟨rfl, a, c3, rfl, hS⟩, hB⟩ := hrel
    · obtain ⟨x0, x1⟩ := hc.out _ hB.out
      obtain ⟨y0, y1, y2, y3⟩ := hd.out _ hB.out
      go_wp2_with fail
      obtain ⟨w9, hw9⟩ : ∃ w9, w9 = wr.alloc (.cells #[.int .i64 1, .bool false] 65) := ⟨_, rfl⟩
      have b9 : Below wr.heap.size wr w9 := by rw [hw9]; exact below_al _ _
      have k9 : FsAt w9 wr.heap.size := by rw [hw9]; exact heap_alloc_new wr _
      obtain ⟨f0, f1⟩ := k9.cells
      obtain ⟨g0, g1, g2, g3⟩ := hd.out _ (hB.out.trans (b9.mono hB.out.size))
      have B9 := Lib.hid (hB.out.trans (b9.mono hB.out.size))
      rw [← hw9]
      clear hw9 b9 k9 x0 x1 y0 y1 y2 y3
      go_region_with (go_at_call 46; refine (hp.out _).mono ?_; rintro e w2 ⟨a2, d2, rfl, s1, s2⟩; have S1 := Lib.hid s1; have S2 := Lib.hid ((B9.out.drew).trans (s2.mono (B9.out.drew).size)); clear s1 s2)
      all_goals
        (try simp only [Exit.then, Exit.inBlock])
        go_wp2_with (at_builtin; go_loud (refine wpList_append_b rfl _ _ 22 rfl Tryd.underlying22 rfl a2 1 d2 [1] rfl S1.out (by omega) ?_); intro v1 w3 bo1 HO HM HN; obtain ⟨a5, c5, e5, s5⟩ := sl_of_own HO.out (by simp); subst e5; have S5 := Lib.hid s5; have B5 := Lib.hid (S2.out.trans (HM.out.mono S2.out.size)); clear HO HM HN s5)
        go_roundw
        case rel => exact ⟨Or.inr ⟨rfl, _, _, rfl, S5⟩, B5⟩
        case measure => simp [intOf]
    · go_wp2_with fail
      go_ret2
      exact ⟨_, _, rfl, hS.out, hB.out⟩
end Go.Proofs.YtehamfhblpokbaaDoor
