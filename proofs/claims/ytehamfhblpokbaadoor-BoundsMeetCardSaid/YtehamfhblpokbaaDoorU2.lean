/- Spans: span, same, Has, Empty, Same, Whole. -/
import Derived.Test.YtehamfhblpokbaaDoorU1
set_option linter.unusedVariables false
set_option linter.unusedSimpArgs false
namespace Go.Proofs.YtehamfhblpokbaaDoor
open Go.RowKit
abbrev bsT : Nat := 28
abbrev rsT : Nat := 24
def belowPost (v : Value) (w : World) (e : Ending) (w' : World) : Prop := e = .returned v ∧ Below w.heap.size w w'
/-- a span in three cells of its own -/
theorem box3 (w : World) (x0 x1 x2 : Value) (t : TypeId) : (w.alloc (.cells #[x0, x1, x2] t)).heap[w.heap.size]? = some (.cells [x0, x1, x2].toArray t (0, 0)) := heap_alloc_new w _
theorem below_al (w : World) (o : Obj) : Below w.heap.size w (w.alloc o) := (Below.refl _ w).alloc (Nat.le_refl _) o
theorem below_al2 (w : World) (o o2 : Obj) : Below w.heap.size w ((w.alloc o).alloc o2) := (below_al w o).alloc (below_al w o).size o2
/-- what a struct of three that was laid first holds behind calls, and what is written there -/
theorem res3 {w w1 w2 : World} {x0 x1 x2 : Value} {t : TypeId} (he : w1 = w.alloc (.cells #[x0, x1, x2] t)) (hb : Below w1.heap.size w1 w2) (h0 : ∀ n, x0 ≠ .int .u8 n) (h1 : ∀ n, x1 ≠ .int .u8 n) (h2 : ∀ n, x2 ≠ .int .u8 n) :
    (w2.cell? ⟨w.heap.size, 0, none⟩ = some x0 ∧ w2.cell? ⟨w.heap.size, 1, none⟩ = some x1 ∧ w2.cell? ⟨w.heap.size, 2, none⟩ = some x2 ∧ w2.frozen? ⟨w.heap.size, 0, none⟩ = false ∧ w2.frozen? ⟨w.heap.size, 1, none⟩ = false ∧ w2.frozen? ⟨w.heap.size, 2, none⟩ = false) ∧
    ∀ v0 v1 v2 w8, w8 = ((w2.setCell ⟨w.heap.size, 0, none⟩ v0).setCell ⟨w.heap.size, 1, none⟩ v1).setCell ⟨w.heap.size, 2, none⟩ v2 → w8.cell? ⟨w.heap.size, 0, none⟩ = some v0 ∧ w8.cell? ⟨w.heap.size, 1, none⟩ = some v1 ∧ w8.cell? ⟨w.heap.size, 2, none⟩ = some v2 ∧ Below w.heap.size w w8 ∧ ∀ a n c bs, Sl w2 a n c bs → Sl w8 a n c bs := by
  have hs1 : w1.heap.size = w.heap.size + 1 := by rw [he]; simp
  have hk : w1.heap[w.heap.size]? = some (.cells [x0, x1, x2].toArray t (0, 0)) := by rw [he]; exact box3 w x0 x1 x2 t
  have hk2 := (hb.block w.heap.size (by omega)).trans hk
  have hb0 : Below w.heap.size w w1 := by rw [he]; exact below_al w _
  refine ⟨⟨by rw [cell_of_blk hk2]; rfl, by rw [cell_of_blk hk2]; rfl, by rw [cell_of_blk hk2]; rfl, frozen_of_blk hk2 0, frozen_of_blk hk2 1, frozen_of_blk hk2 2⟩, fun v0 v1 v2 w8 e8 => ?_⟩
  have z1 : (w2.setCell ⟨w.heap.size, 0, none⟩ v0).heap[w.heap.size]? = some (.cells [v0, x1, x2].toArray t (0, 0)) := by
    rw [setCell_list _ _ _ _ _ _ hk2, setRow_heap _ _ _ _ _ _ hk2]; rfl
  have z2 : ((w2.setCell ⟨w.heap.size, 0, none⟩ v0).setCell ⟨w.heap.size, 1, none⟩ v1).heap[w.heap.size]? = some (.cells [v0, v1, x2].toArray t (0, 0)) := by
    rw [setCell_list _ _ _ _ _ _ z1, setRow_heap _ _ _ _ _ _ z1]; rfl
  have z3 : w8.heap[w.heap.size]? = some (.cells [v0, v1, v2].toArray t (0, 0)) := by
    rw [e8, setCell_list _ _ _ _ _ _ z2, setRow_heap _ _ _ _ _ _ z2]; rfl
  have hm : Mod (fun j => j = w.heap.size) w2 w8 := by
    rw [e8]
    exact (((Mod.refl (fun j => j = w.heap.size) w2).setCell ⟨w.heap.size, 0, none⟩ _ (fun _ => rfl)).setCell ⟨w.heap.size, 1, none⟩ _ (fun _ => rfl)).setCell ⟨w.heap.size, 2, none⟩ _ (fun _ => rfl)
  refine ⟨by rw [cell_of_blk z3]; rfl, by rw [cell_of_blk z3]; rfl, by rw [cell_of_blk z3]; rfl, ?_, fun a n c bs h => ⟨h.len, ⟨h.at_.1, fun i hi => ?_⟩, h.cap, h.capm, h.nil⟩⟩
  · rw [e8]
    exact (((hb0.trans (hb.mono hb0.size)).setCell (p := ⟨w.heap.size, 0, none⟩) (Nat.le_refl _) _).setCell (p := ⟨w.heap.size, 1, none⟩) (Nat.le_refl _) _).setCell (p := ⟨w.heap.size, 2, none⟩) (Nat.le_refl _) _
  · obtain ⟨p, e, q1, q2⟩ := h.at_.2 i hi
    have hne : (p.add i).block ≠ w.heap.size := fun q => by
      rw [World.cell?, q, hk2] at q2
      simp only at q2
      split at q2
      · cases q2
      · rcases ho : (p.add i).off with _ | _ | _ | o <;> rw [ho] at q2 <;> simp at q2
        · exact h0 _ q2
        · exact h1 _ q2
        · exact h2 _ q2
    refine ⟨p, e, Nat.lt_of_lt_of_le q1 hm.size, ?_⟩
    rw [← q2]
    unfold World.cell?
    rw [hm.same _ q1 hne]
theorem law_span (w : World) (a1 a2 : Option Addr) (n1 c1 n2 c2 : Nat) (o : Bool) : Calls Tryd.prog 12 #[.agg #[.slice a1 n1 c1, .slice a2 n2 c2, .bool o]] w (belowPost (.agg #[.slice a1 n1 c1, .slice a2 n2 c2, .bool o]) w) := by
  have hB : Hid (∀ o1 o2, Below w.heap.size w ((w.alloc o1).alloc o2)) := below_al2 w
  go_enter Tryd.func12, Tryd.ntmps12
  go_wp2_with fail
  exact bodyPost_ret (v := .agg #[.slice a1 n1 c1, .slice a2 n2 c2, .bool o]) (by simp [results, Tryd.results12, go_sem]) rfl ⟨rfl, hB.out _ _⟩
theorem b_whole (w : World) : Calls Tryd.prog 20 #[] w (belowPost (.agg #[.slice none 0 0, .slice none 0 0, .bool true]) w) := by
  have hB : Hid (∀ o1, Below w.heap.size w (w.alloc o1)) := below_al w
  go_enter Tryd.func20, Tryd.ntmps20
  go_wp2_with fail
  exact bodyPost_ret (v := .agg #[.slice none 0 0, .slice none 0 0, .bool true]) (by simp [results, Tryd.results20, go_sem]) rfl ⟨rfl, hB.out _⟩
section
variable {w : World} {a1 a2 a3 a4 a0 : Option Addr} {n0 c0 n1 c1 n2 c2 n3 c3 n4 c4 : Nat} {k f t f' t' : List Nat}
theorem b_has (h0 : Sl w a0 n0 c0 k) (h1 : Sl w a1 n1 c1 f) (h2 : Sl w a2 n2 c2 t) (o : Bool) : Calls Tryd.prog 11 #[.agg #[.slice a1 n1 c1, .slice a2 n2 c2, .bool o], .slice a0 n0 c0] w (belowPost (.bool (hasB f t o k)) w) := by
  have hb := below_al w (.cells #[.slice a1 n1 c1, .slice a2 n2 c2, .bool o] bsT)
  have hW := Lib.hid (keys_within (h0.below hb) (h1.below hb) (h2.below hb) o)
  have hb := Lib.hid hb
  generalize hasB f t o k = V at *
  clear h0 h1 h2
  go_enter Tryd.func11, Tryd.ntmps11
  go_wp2_with (go_at_call 32; refine hW.out.mono ?_; rintro e w' ⟨rfl, rfl⟩)
  go_ret
  exact ⟨rfl, hb.out⟩
theorem r_has (h0 : Sl w a0 n0 c0 k) (h1 : Sl w a1 n1 c1 f) (h2 : Sl w a2 n2 c2 t) (o : Bool) : Calls Tryd.prog 13 #[.agg #[.slice a1 n1 c1, .slice a2 n2 c2, .bool o], .slice a0 n0 c0] w (belowPost (.bool (decide (bcmp f k ≤ 0) && (o || decide (bcmp k t < 0)))) w) := by
  have hb := below_al w (.cells #[.slice a1 n1 c1, .slice a2 n2 c2, .bool o] rsT)
  have hC := Lib.hid (quiet_cmp (h1.below hb) (h0.below hb) 0)
  have hD := Lib.hid (fun q => quiet_cmp (h0.below hb) (h2.below hb) q)
  have hb := Lib.hid hb
  have hbd := Lib.hid (fun q => below_drewN hb.out q)
  generalize bcmp f k = V at *
  generalize bcmp k t = U at *
  clear h0 h1 h2
  by_cases hV : V ≤ 0
  · rw [decide_eq_true hV]
    cases o with
    | true =>
      go_enter Tryd.func13, Tryd.ntmps13
      go_wp2_with (go_at_call 33; refine hC.out.mono ?_; rintro e w' ⟨rfl, q, rfl⟩)
      go_ret
      exact ⟨rfl, hbd.out _⟩
    | false =>
      go_enter Tryd.func13, Tryd.ntmps13
      go_wp2_with (first
        | (go_at_call 33; refine hE.out.mono ?_; rintro e w' ⟨rfl, p, rfl⟩)
        | (go_at_call 33; refine hC.out.mono ?_; rintro e w' ⟨rfl, q, rfl⟩; have hE := Lib.hid (hD.out q)))
      go_ret
      exact ⟨by simp, hbd.out _⟩
  · rw [decide_eq_false hV]
    go_enter Tryd.func13, Tryd.ntmps13
    go_wp2_with (go_at_call 33; refine hC.out.mono ?_; rintro e w' ⟨rfl, q, rfl⟩)
    go_ret
    exact ⟨rfl, hbd.out _⟩
end
end Go.Proofs.YtehamfhblpokbaaDoor
