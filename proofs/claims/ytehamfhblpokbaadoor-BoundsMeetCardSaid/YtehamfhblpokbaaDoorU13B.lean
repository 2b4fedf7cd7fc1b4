/- A span in a box that is laid at some time, and written behind Meet. -/
import Derived.Test.YtehamfhblpokbaaDoorU13
set_option linter.unusedVariables false
set_option linter.unusedSimpArgs false
namespace Go.Proofs.YtehamfhblpokbaaDoor
open Go.RowKit
/-- a new box for a span -/
structure NB (B : Nat) (w : World) (g : Nat) : Prop where
  blk : w.heap[g]? = some (.cells [.slice none 0 0, .slice none 0 0, .bool false].toArray bsT (0, 0))
  ge : B ≤ g
/-- a box with a span -/
structure MB (w4 : World) (O : Bool) (F T : List Nat) (g : Nat) (b1 : Option Addr) (g1 j1 : Nat) (b2 : Option Addr) (g2 j2 : Nat) (w' : World) : Prop where
  old : Below w4.heap.size w4 w'
  blk : w'.heap[g]? = some (.cells [.slice b1 g1 j1, .slice b2 g2 j2, .bool O].toArray bsT (0, 0))
  s1 : Sl w' b1 g1 j1 F
  s2 : Sl w' b2 g2 j2 T
section
variable {w w' w2 w4 X : World} {O : Bool} {F T : List Nat} {B g g1 j1 g2 j2 : Nat} {b1 b2 : Option Addr}
theorem NB.next (h : NB B X g) (z : Below X.heap.size X w') : NB B w' g := ⟨(z.block _ (Array.getElem?_eq_some_iff.1 h.blk).1).trans h.blk, h.ge⟩
theorem NB.drewN (h : NB B X g) (n : Nat) : NB B (X.drewN n) g := ⟨h.blk, h.ge⟩
theorem NB.new {W a : World} (h : Below a.heap.size a W) : NB a.heap.size (W.alloc (.cells #[.slice none 0 0, .slice none 0 0, .bool false] bsT)) W.heap.size := ⟨box3 W _ _ _ _, h.size⟩
theorem NB.facts (h : NB B w g) : w.cell? ⟨g, 0, none⟩ = some (.slice none 0 0) ∧ w.cell? ⟨g, 1, none⟩ = some (.slice none 0 0) ∧ w.cell? ⟨g, 2, none⟩ = some (.bool false) ∧ w.frozen? ⟨g, 0, none⟩ = false ∧ w.frozen? ⟨g, 1, none⟩ = false ∧ w.frozen? ⟨g, 2, none⟩ = false :=
  ⟨by rw [cell_of_blk h.blk]; rfl, by rw [cell_of_blk h.blk]; rfl, by rw [cell_of_blk h.blk]; rfl, frozen_of_blk h.blk 0, frozen_of_blk h.blk 1, frozen_of_blk h.blk 2⟩
theorem MB.below (h : MB w4 O F T g b1 g1 j1 b2 g2 j2 w) (z : Below w.heap.size w w') : MB w4 O F T g b1 g1 j1 b2 g2 j2 w' :=
  ⟨h.old.trans (z.mono h.old.size), (z.block _ (Array.getElem?_eq_some_iff.1 h.blk).1).trans h.blk, h.s1.below z, h.s2.below z⟩
theorem MB.drewN (h : MB w4 O F T g b1 g1 j1 b2 g2 j2 w) (n : Nat) : MB w4 O F T g b1 g1 j1 b2 g2 j2 (w.drewN n) := ⟨below_drewN h.old n, h.blk, h.s1.drewN n, h.s2.drewN n⟩
theorem MB.lt (h : MB w4 O F T g b1 g1 j1 b2 g2 j2 w) : g < w.heap.size := (Array.getElem?_eq_some_iff.1 h.blk).1
theorem MB.facts (h : MB w4 O F T g b1 g1 j1 b2 g2 j2 w) : w.cell? ⟨g, 0, none⟩ = some (.slice b1 g1 j1) ∧ w.cell? ⟨g, 1, none⟩ = some (.slice b2 g2 j2) ∧ w.cell? ⟨g, 2, none⟩ = some (.bool O) :=
  ⟨by rw [cell_of_blk h.blk]; rfl, by rw [cell_of_blk h.blk]; rfl, by rw [cell_of_blk h.blk]; rfl⟩
theorem nb_mod (w2 : World) (g : Nat) (v0 v1 v2 : Value) : Mod (fun j => j = g) w2 (((w2.setCell ⟨g, 0, none⟩ v0).setCell ⟨g, 1, none⟩ v1).setCell ⟨g, 2, none⟩ v2) :=
  (((Mod.refl (fun j => j = g) w2).setCell ⟨g, 0, none⟩ _ (fun _ => rfl)).setCell ⟨g, 1, none⟩ _ (fun _ => rfl)).setCell ⟨g, 2, none⟩ _ (fun _ => rfl)
theorem nb_sl (h : NB B w2 g) (v0 v1 v2 : Value) {a : Option Addr} {n c : Nat} {bs : List Nat} (s : Sl w2 a n c bs) : Sl (((w2.setCell ⟨g, 0, none⟩ v0).setCell ⟨g, 1, none⟩ v1).setCell ⟨g, 2, none⟩ v2) a n c bs := by
  have hm := nb_mod w2 g v0 v1 v2
  refine ⟨s.len, ⟨s.at_.1, fun i hi => ?_⟩, s.cap, s.capm, s.nil⟩
  obtain ⟨p, e, q1, q2⟩ := s.at_.2 i hi
  have hne : (p.add i).block ≠ g := fun q => by
    rw [World.cell?, q, h.blk] at q2
    simp only at q2
    split at q2
    · cases q2
    · rcases ho : (p.add i).off with _ | _ | _ | o <;> rw [ho] at q2 <;> simp at q2
  refine ⟨p, e, Nat.lt_of_lt_of_le q1 hm.size, ?_⟩
  rw [← q2]
  unfold World.cell?
  rw [hm.same _ q1 hne]
theorem lt_of_cell {w : World} {b j : Nat} {v : Value} (h : w.cell? ⟨b, j, none⟩ = some v) : b < w.heap.size := by
  rcases Nat.lt_or_ge b w.heap.size with q | q
  · exact q
  · rw [World.cell?] at h
    simp only [Array.getElem?_eq_none q] at h
    cases h
theorem NB.keep (h : NB B w2 g) {b j : Nat} (hb : b < B) {v : Value} (e : w2.cell? ⟨b, j, none⟩ = some v) (v0 v1 v2 : Value) : (((w2.setCell ⟨g, 0, none⟩ v0).setCell ⟨g, 1, none⟩ v1).setCell ⟨g, 2, none⟩ v2).cell? ⟨b, j, none⟩ = some v := by
  rw [← e]
  unfold World.cell?
  rw [(nb_mod w2 g v0 v1 v2).same b (lt_of_cell e) (by have := h.ge; omega)]
theorem nb_fin (h : NB w4.heap.size w2 g) (hb : Below w4.heap.size w4 w2) (s1 : Sl w2 b1 g1 j1 F) (s2 : Sl w2 b2 g2 j2 T) : MB w4 O F T g b1 g1 j1 b2 g2 j2 (((w2.setCell ⟨g, 0, none⟩ (.slice b1 g1 j1)).setCell ⟨g, 1, none⟩ (.slice b2 g2 j2)).setCell ⟨g, 2, none⟩ (.bool O)) := by
  have z1 : (w2.setCell ⟨g, 0, none⟩ (.slice b1 g1 j1)).heap[g]? = some (.cells [.slice b1 g1 j1, .slice none 0 0, .bool false].toArray bsT (0, 0)) := by
    rw [setCell_list _ _ _ _ _ _ h.blk, setRow_heap _ _ _ _ _ _ h.blk]; rfl
  have z2 : ((w2.setCell ⟨g, 0, none⟩ (.slice b1 g1 j1)).setCell ⟨g, 1, none⟩ (.slice b2 g2 j2)).heap[g]? = some (.cells [.slice b1 g1 j1, .slice b2 g2 j2, .bool false].toArray bsT (0, 0)) := by
    rw [setCell_list _ _ _ _ _ _ z1, setRow_heap _ _ _ _ _ _ z1]; rfl
  have z3 : (((w2.setCell ⟨g, 0, none⟩ (.slice b1 g1 j1)).setCell ⟨g, 1, none⟩ (.slice b2 g2 j2)).setCell ⟨g, 2, none⟩ (.bool O)).heap[g]? = some (.cells [.slice b1 g1 j1, .slice b2 g2 j2, .bool O].toArray bsT (0, 0)) := by
    rw [setCell_list _ _ _ _ _ _ z2, setRow_heap _ _ _ _ _ _ z2]; rfl
  exact ⟨((hb.setCell (p := ⟨g, 0, none⟩) h.ge _).setCell (p := ⟨g, 1, none⟩) h.ge _).setCell (p := ⟨g, 2, none⟩) h.ge _, z3, nb_sl h _ _ _ s1, nb_sl h _ _ _ s2⟩
/-- a box that is laid written -/
theorem mb_new {W : World} (hb : Below w4.heap.size w4 W) (s1 : Sl W b1 g1 j1 F) (s2 : Sl W b2 g2 j2 T) : MB w4 O F T W.heap.size b1 g1 j1 b2 g2 j2 (W.alloc (.cells #[.slice b1 g1 j1, .slice b2 g2 j2, .bool O] bsT)) :=
  ⟨hb.alloc hb.size _, box3 W _ _ _ _, s1.below (below_al _ _), s2.below (below_al _ _)⟩
theorem MB.al (h : MB w4 O F T g b1 g1 j1 b2 g2 j2 w) (o : Obj) : MB w4 O F T g b1 g1 j1 b2 g2 j2 (w.alloc o) := h.below (below_al _ _)
theorem MB.drew (h : MB w4 O F T g b1 g1 j1 b2 g2 j2 w) : MB w4 O F T g b1 g1 j1 b2 g2 j2 w.drew := ⟨h.old.drew, h.blk, h.s1.drewN 1, h.s2.drewN 1⟩
/-- another box stays -/
theorem nb_other {O' : Bool} {F' T' : List Nat} {g' n1 k1 n2 k2 : Nat} {p1 p2 : Option Addr} {wb : World} (h : NB wb.heap.size w2 g) (m : MB w4 O' F' T' g' p1 n1 k1 p2 n2 k2 w2) (hB : w4.heap.size ≤ wb.heap.size) (hlt : g' < wb.heap.size) (v0 v1 v2 : Value) : MB w4 O' F' T' g' p1 n1 k1 p2 n2 k2 (((w2.setCell ⟨g, 0, none⟩ v0).setCell ⟨g, 1, none⟩ v1).setCell ⟨g, 2, none⟩ v2) :=
  ⟨((m.old.setCell (p := ⟨g, 0, none⟩) (Nat.le_trans hB h.ge) _).setCell (p := ⟨g, 1, none⟩) (Nat.le_trans hB h.ge) _).setCell (p := ⟨g, 2, none⟩) (Nat.le_trans hB h.ge) _, ((nb_mod w2 g v0 v1 v2).same _ m.lt (fun q => by have := h.ge; omega)).trans m.blk, nb_sl h _ _ _ m.s1, nb_sl h _ _ _ m.s2⟩
end
end Go.Proofs.YtehamfhblpokbaaDoor
