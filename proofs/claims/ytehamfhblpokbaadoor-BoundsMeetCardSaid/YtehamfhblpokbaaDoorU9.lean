/- alive of law 07. -/
import Derived.Test.YtehamfhblpokbaaDoorU8
set_option linter.unusedVariables false
set_option linter.unusedSimpArgs false
namespace Go.Proofs.YtehamfhblpokbaaDoor
open Go.RowKit
theorem sl_three (w : World) (x y z : Nat) (t : TypeId) (hx : x < 256) (hy : y < 256) (hz : z < 256) : Sl (w.alloc (.cells #[.int .u8 (x : Nat), .int .u8 (y : Nat), .int .u8 (z : Nat)] t)) (some ⟨w.heap.size, 0, none⟩) 3 3 [x, y, z] := by
  have hb : (w.alloc (.cells #[.int .u8 (x : Nat), .int .u8 (y : Nat), .int .u8 (z : Nat)] t)).heap[w.heap.size]? = some (.cells [.int .u8 (x : Nat), .int .u8 (y : Nat), .int .u8 (z : Nat)].toArray t (0, 0)) := heap_alloc_new w _
  refine ⟨rfl, ⟨by simp [hx, hy, hz], fun i hi => ⟨_, rfl, ?_, ?_⟩⟩, Nat.le_refl _, by unfold maxLen; omega, fun e => by cases e⟩
  · rw [add0]; simp
  · rw [add0, cell_of_blk hb]
    have hi : i < 3 := hi
    obtain rfl | rfl | rfl : i = 0 ∨ i = 1 ∨ i = 2 := by omega
    · rfl
    · rfl
    · rfl
/-- a span in a block -/
def SpAt (w : World) (b : Nat) (a1 : Option Addr) (n1 c1 : Nat) (a2 : Option Addr) (n2 c2 : Nat) (f t : List Nat) : Prop := w.heap[b]? = some (.cells [.slice a1 n1 c1, .slice a2 n2 c2, .bool false].toArray bsT (0, 0)) ∧ Sl w a1 n1 c1 f ∧ Sl w a2 n2 c2 t
section
variable {w w' : World} {b : Nat} {a1 a2 : Option Addr} {n1 c1 n2 c2 : Nat} {f t : List Nat}
theorem SpAt.below (h : SpAt w b a1 n1 c1 a2 n2 c2 f t) (hb : Below w.heap.size w w') : SpAt w' b a1 n1 c1 a2 n2 c2 f t := ⟨(hb.block _ (Array.getElem?_eq_some_iff.1 h.1).1).trans h.1, h.2.1.below hb, h.2.2.below hb⟩
theorem SpAt.cells (h : SpAt w b a1 n1 c1 a2 n2 c2 f t) : w.cell? ⟨b, 0, none⟩ = some (.slice a1 n1 c1) ∧ w.cell? ⟨b, 1, none⟩ = some (.slice a2 n2 c2) ∧ w.cell? ⟨b, 2, none⟩ = some (.bool false) := ⟨by rw [cell_of_blk h.1]; rfl, by rw [cell_of_blk h.1]; rfl, by rw [cell_of_blk h.1]; rfl⟩
theorem SpAt.new (h1 : Sl w a1 n1 c1 f) (h2 : Sl w a2 n2 c2 t) : SpAt (w.alloc (.cells #[.slice a1 n1 c1, .slice a2 n2 c2, .bool false] bsT)) w.heap.size a1 n1 c1 a2 n2 c2 f t := ⟨heap_alloc_new w _, h1.below (below_al _ _), h2.below (below_al _ _)⟩
end
def inPost (v : Value) (w : World) (e : Ending) (w' : World) : Prop := e = .returned v ∧ Below w.heap.size w w'
/-- what alive asks of its two spans, in every later world -/
structure AlB (w : World) (x1 : Option Addr) (m1 d1 : Nat) (x2 : Option Addr) (m2 d2 : Nat) (y1 : Option Addr) (k1 e1 : Nat) (y2 : Option Addr) (k2 e2 : Nat) : Prop where
  has1 : ∀ X X', Below w.heap.size w X → Below (X.alloc (.cells #[.int .u8 1, .int .u8 255, .int .u8 3] 5)).heap.size (X.alloc (.cells #[.int .u8 1, .int .u8 255, .int .u8 3] 5)) X' → Calls Tryd.prog 11 #[.agg #[.slice x1 m1 d1, .slice x2 m2 d2, .bool false], .slice (some ⟨X.heap.size, 0, none⟩) 3 3] X' (inPost (.bool true) w)
  has2 : ∀ X X', Below w.heap.size w X → Below (X.alloc (.cells #[.int .u8 2] 5)).heap.size (X.alloc (.cells #[.int .u8 2] 5)) X' → Calls Tryd.prog 11 #[.agg #[.slice x1 m1 d1, .slice x2 m2 d2, .bool false], .slice (some ⟨X.heap.size, 0, none⟩) 1 1] X' (inPost (.bool false) w)
  whole : ∀ X, Below w.heap.size w X → Calls Tryd.prog 20 #[] X (inPost (.agg #[.slice none 0 0, .slice none 0 0, .bool true]) w)
  empty : ∀ X, Below w.heap.size w X → Calls Tryd.prog 14 #[.agg #[.slice x1 m1 d1, .slice x2 m2 d2, .bool false]] X (inPost (.bool false) w)
  has3 : ∀ X X', Below w.heap.size w X → Below (X.alloc (.cells #[.int .u8 1] 5)).heap.size (X.alloc (.cells #[.int .u8 1] 5)) X' → Calls Tryd.prog 11 #[.agg #[.slice y1 k1 e1, .slice y2 k2 e2, .bool false], .slice (some ⟨X.heap.size, 0, none⟩) 1 1] X' (inPost (.bool true) w)
  meet : ∀ X, Below w.heap.size w X → Calls Tryd.prog 18 #[.agg #[.slice x1 m1 d1, .slice x2 m2 d2, .bool false], .agg #[.slice y1 k1 e1, .slice y2 k2 e2, .bool false]] X fun e w' => ∃ b1 g1 h1 b2 g2 h2, e = .returned (.agg #[.slice b1 g1 h1, .slice b2 g2 h2, .bool false]) ∧ Below w.heap.size w w' ∧
    ∀ X, Below w'.heap.size w' X → Calls Tryd.prog 16 #[.agg #[.slice b1 g1 h1, .slice b2 g2 h2, .bool false], .agg #[.slice x1 m1 d1, .slice x2 m2 d2, .bool false]] X (inPost (.bool true) w)
theorem alb_of {w : World} {x1 x2 y1 y2 : Option Addr} {m1 d1 m2 d2 k1 e1 k2 e2 : Nat} (h1 : Sl w x1 m1 d1 [1, 255]) (h2 : Sl w x2 m2 d2 [2]) (h3 : Sl w y1 k1 e1 [1]) (h4 : Sl w y2 k2 e2 [2]) : AlB w x1 m1 d1 x2 m2 d2 y1 k1 e1 y2 k2 e2 where
  has1 := fun X X' hb hx => by
    have b := below_al X (.cells #[.int .u8 1, .int .u8 255, .int .u8 3] 5)
    have B0 := hb.trans (b.mono hb.size)
    have B := B0.trans (hx.mono B0.size)
    refine (b_has ((sl_three X 1 255 3 _ (by omega) (by omega) (by omega)).below hx) (h1.below B) (h2.below B) false).mono fun e w' ⟨q1, q2⟩ => ⟨by rw [q1, show hasB [1, 255] [2] false [1, 255, 3] = true by decide], B.trans (q2.mono B.size)⟩
  has2 := fun X X' hb hx => by
    have b := below_al X (.cells #[.int .u8 2] 5)
    have B0 := hb.trans (b.mono hb.size)
    have B := B0.trans (hx.mono B0.size)
    refine (b_has ((sl_one X 2 _ (by omega)).below hx) (h1.below B) (h2.below B) false).mono fun e w' ⟨q1, q2⟩ => ⟨by rw [q1, show hasB [1, 255] [2] false [2] = false by decide], B.trans (q2.mono B.size)⟩
  whole := fun X hb => (b_whole X).mono fun e w' ⟨q1, q2⟩ => ⟨q1, hb.trans (q2.mono hb.size)⟩
  empty := fun X hb => (b_empty (h1.below hb) (h2.below hb) false).mono fun e w' ⟨q1, q2⟩ => ⟨by rw [q1, show (!false && decide (0 ≤ bcmp [1, 255] [2])) = false by decide], hb.trans (q2.mono hb.size)⟩
  has3 := fun X X' hb hx => by
    have b := below_al X (.cells #[.int .u8 1] 5)
    have B0 := hb.trans (b.mono hb.size)
    have B := B0.trans (hx.mono B0.size)
    refine (b_has ((sl_one X 1 _ (by omega)).below hx) (h3.below B) (h4.below B) false).mono fun e w' ⟨q1, q2⟩ => ⟨by rw [q1, show hasB [1] [2] false [1] = true by decide], B.trans (q2.mono B.size)⟩
  meet := fun X hb => by
    have l1 := h1.len
    have l2 := h2.len
    have l3 := h3.len
    have l4 := h4.len
    simp at l1 l2 l3 l4
    refine (b_meet (h1.below hb) (h2.below hb) false (h3.below hb) (h4.below hb) false (by omega) (by omega) (by omega) (by omega)).mono fun e w' ⟨b1, g1, j1, b2, g2, j2, q1, q2, q3, q4⟩ => ?_
    rw [show toO [2] false [2] false = false by decide] at q1
    rw [show fromL [1, 255] [1] = [1, 255] by decide] at q2
    rw [show toL [2] false [2] false = [2] by decide] at q3
    have B := hb.trans (q4.mono hb.size)
    refine ⟨b1, g1, j1, b2, g2, j2, q1, B, fun X hX => ?_⟩
    have BX := B.trans (hX.mono B.size)
    exact (b_same (q2.below hX) (q3.below hX) false (h1.below BX) (h2.below BX) false).mono fun e w' ⟨q1, q2⟩ => ⟨by rw [q1]; simp, BX.trans (q2.mono BX.size)⟩
end Go.Proofs.YtehamfhblpokbaaDoor
