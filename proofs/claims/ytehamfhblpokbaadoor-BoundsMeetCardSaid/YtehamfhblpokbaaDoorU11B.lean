/- Behind both boxes and the slice of both spans. -/
import Derived.Test.YtehamfhblpokbaaDoorU11
set_option linter.unusedVariables false
set_option linter.unusedSimpArgs false
namespace Go.Proofs.YtehamfhblpokbaaDoor
open Go.RowKit
section
variable {a1 a2 a3 a4 a0 : Option Addr} {n0 c0 n1 c1 n2 c2 n3 c3 n4 c4 : Nat} {k f t f' t' : List Nat}
/-- behind both boxes and the slice of both -/
theorem far_at (w : World) (o o' : Bool) : ∀ w3, w3 = ((w.alloc (.cells #[.slice a1 n1 c1, .slice a2 n2 c2, .bool o] rsT)).alloc (.cells #[.slice a3 n3 c3, .slice a4 n4 c4, .bool o'] rsT)).alloc (.cells #[.slice a1 n1 c1, .slice a2 n2 c2, .bool o, .slice a3 n3 c3, .slice a4 n4 c4, .bool o'] rsT) →
    Calls Tryd.prog 6 #[.slice (some ⟨w.heap.size + 1 + 1, 0, none⟩) 2 2] w3 (belowPost (.bool (farB n1 n2 n3 n4)) w3) ∧ Below w.heap.size w w3 ∧
    ∀ w4, Below w3.heap.size w3 w4 → w4.cell? ⟨w.heap.size, 0, none⟩ = some (.slice a1 n1 c1) ∧ w4.cell? ⟨w.heap.size, 1, none⟩ = some (.slice a2 n2 c2) ∧ w4.cell? ⟨w.heap.size, 2, none⟩ = some (.bool o) ∧ w4.cell? ⟨w.heap.size + 1, 0, none⟩ = some (.slice a3 n3 c3) ∧ w4.cell? ⟨w.heap.size + 1, 1, none⟩ = some (.slice a4 n4 c4) ∧ w4.cell? ⟨w.heap.size + 1, 2, none⟩ = some (.bool o') := by
  obtain ⟨w1, h1⟩ : ∃ w1, w1 = w.alloc (.cells #[.slice a1 n1 c1, .slice a2 n2 c2, .bool o] rsT) := ⟨_, rfl⟩
  obtain ⟨w2, h2⟩ : ∃ w2, w2 = w1.alloc (.cells #[.slice a3 n3 c3, .slice a4 n4 c4, .bool o'] rsT) := ⟨_, rfl⟩
  rw [← h1, ← h2]
  intro w3 h3
  have s1 : w1.heap.size = w.heap.size + 1 := by rw [h1]; simp
  have s2 : w2.heap.size = w.heap.size + 1 + 1 := by rw [h2, World.size_alloc, s1]
  have b1 : Below w.heap.size w w1 := by rw [h1]; exact below_al _ _
  have b2 : Below w1.heap.size w1 w2 := by rw [h2]; exact below_al _ _
  have b3 : Below w2.heap.size w2 w3 := by rw [h3]; exact below_al _ _
  have k1 : w1.heap[w.heap.size]? = some (.cells [.slice a1 n1 c1, .slice a2 n2 c2, .bool o].toArray rsT (0, 0)) := by rw [h1]; exact heap_alloc_new w _
  have k2 : w2.heap[w.heap.size + 1]? = some (.cells [.slice a3 n3 c3, .slice a4 n4 c4, .bool o'].toArray rsT (0, 0)) := by rw [h2, ← s1]; exact heap_alloc_new w1 _
  have k3 : w3.heap[w.heap.size + 1 + 1]? = some (.cells [.slice a1 n1 c1, .slice a2 n2 c2, .bool o, .slice a3 n3 c3, .slice a4 n4 c4, .bool o'].toArray rsT (0, 0)) := by rw [h3, ← s2]; exact heap_alloc_new w2 _
  have k1' := (b3.block _ (by omega)).trans ((b2.block _ (by omega)).trans k1)
  have k2' := (b3.block _ (by omega)).trans k2
  have l1 := (Array.getElem?_eq_some_iff.1 k1').1
  have l2 := (Array.getElem?_eq_some_iff.1 k2').1
  have B2 := b1.trans (b2.mono b1.size)
  refine ⟨law_far k3, B2.trans (b3.mono B2.size), fun w4 b4 => ?_⟩
  have z1 := (b4.block _ l1).trans k1'
  have z2 := (b4.block _ l2).trans k2'
  exact ⟨by rw [cell_of_blk z1]; rfl, by rw [cell_of_blk z1]; rfl, by rw [cell_of_blk z1]; rfl, by rw [cell_of_blk z2]; rfl, by rw [cell_of_blk z2]; rfl, by rw [cell_of_blk z2]; rfl⟩
theorem farB_no (h : farB n1 n2 n3 n4 = false) : n1 ≤ 300 ∧ n2 ≤ 300 ∧ n3 ≤ 300 ∧ n4 ≤ 300 := by
  unfold farB at h
  simp only [Bool.or_eq_false_iff, decide_eq_false_iff_not] at h
  omega
end
end Go.Proofs.YtehamfhblpokbaaDoor
