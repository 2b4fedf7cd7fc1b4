/- Spans: Meet. -/
import Derived.Test.YtehamfhblpokbaaDoorU3
set_option linter.unusedVariables false
set_option linter.unusedSimpArgs false
namespace Go.Proofs.YtehamfhblpokbaaDoor
open Go.RowKit
/-- which end is the nearer one -/
def endsB (t : List Nat) (o : Bool) (t' : List Nat) (o' : Bool) : Bool := !o && (o' || decide (bcmp t t' < 0))
section
variable {w : World} {a1 a2 a3 a4 a0 : Option Addr} {n0 c0 n1 c1 n2 c2 n3 c3 n4 c4 : Nat} {k f t f' t' : List Nat}
theorem b_ends (h2 : Sl w a2 n2 c2 t) (o : Bool) (h4 : Sl w a4 n4 c4 t') (o' : Bool) : Calls Tryd.prog 36 #[.agg #[.slice a1 n1 c1, .slice a2 n2 c2, .bool o], .agg #[.slice a3 n3 c3, .slice a4 n4 c4, .bool o']] w (belowPost (.bool (endsB t o t' o')) w) := by
  have hb := below_al2 w (.cells #[.slice a1 n1 c1, .slice a2 n2 c2, .bool o] bsT) (.cells #[.slice a3 n3 c3, .slice a4 n4 c4, .bool o'] bsT)
  have hC := Lib.hid (keys_cmp (h2.below hb) (h4.below hb))
  have hb := Lib.hid hb
  unfold endsB
  generalize bcmp t t' = V at *
  clear h2 h4
  cases o <;> cases o'
  all_goals
    go_enter Tryd.func36, Tryd.ntmps36
    go_wp2_with (go_at_call 34; refine hC.out.mono ?_; rintro e w' ⟨rfl, rfl⟩)
    go_ret
    exact ⟨by simp, hb.out⟩
end
/-- the four structs of Meet: both arguments, the result, the one that is turned -/
structure M4 (t : TypeId) (w : World) (A B X : List Value) (wr : World) : Prop where
  a : wr.heap[w.heap.size]? = some (.cells A.toArray t (0, 0))
  b : wr.heap[w.heap.size + 1]? = some (.cells B.toArray t (0, 0))
  r : wr.heap[w.heap.size + 1 + 1]? = some (.cells [.slice none 0 0, .slice none 0 0, .bool false].toArray t (0, 0))
  x : wr.heap[w.heap.size + 1 + 1 + 1]? = some (.cells X.toArray t (0, 0))
  below : Below w.heap.size w wr
theorem M4.call {t : TypeId} {w wr w' : World} {A B X : List Value} (h : M4 t w A B X wr) (hb : Below wr.heap.size wr w') : M4 t w A B X w' := by
  have l : ∀ {j : Nat} {o : Obj}, wr.heap[j]? = some o → w'.heap[j]? = some o := fun q => (hb.block _ (Array.getElem?_eq_some_iff.1 q).1).trans q
  exact ⟨l h.a, l h.b, l h.r, l h.x, h.below.trans (hb.mono h.below.size)⟩
theorem M4.put {t : TypeId} {w wr : World} {A B X : List Value} (h : M4 t w A B X wr) (j : Nat) (v : Value) : M4 t w A B (X.set j v) (wr.setCell ⟨w.heap.size + 1 + 1 + 1, j, none⟩ v) := by
  refine ⟨?_, ?_, ?_, ?_, h.below.setCell (p := ⟨w.heap.size + 1 + 1 + 1, j, none⟩) (by show w.heap.size ≤ w.heap.size + 1 + 1 + 1; omega) _⟩
  · rw [Below.heap_setCell _ _ _ _ (by show _ ≠ w.heap.size + 1 + 1 + 1; omega)]; exact h.a
  · rw [Below.heap_setCell _ _ _ _ (by show _ ≠ w.heap.size + 1 + 1 + 1; omega)]; exact h.b
  · rw [Below.heap_setCell _ _ _ _ (by show _ ≠ w.heap.size + 1 + 1 + 1; omega)]; exact h.r
  · rw [setCell_list _ _ _ _ _ _ h.x, setRow_heap _ _ _ _ _ _ h.x]
theorem M4.new (t : TypeId) (w : World) (A B X : List Value) : M4 t w A B X ((((w.alloc (.cells A.toArray t)).alloc (.cells B.toArray t)).alloc (.cells #[.slice none 0 0, .slice none 0 0, .bool false] t)).alloc (.cells X.toArray t)) := by
  obtain ⟨w1, h1⟩ : ∃ w1, w1 = w.alloc (.cells A.toArray t) := ⟨_, rfl⟩
  obtain ⟨w2, h2⟩ : ∃ w2, w2 = w1.alloc (.cells B.toArray t) := ⟨_, rfl⟩
  obtain ⟨w3, h3⟩ : ∃ w3, w3 = w2.alloc (.cells #[.slice none 0 0, .slice none 0 0, .bool false] t) := ⟨_, rfl⟩
  obtain ⟨w4, h4⟩ : ∃ w4, w4 = w3.alloc (.cells X.toArray t) := ⟨_, rfl⟩
  have s1 : w1.heap.size = w.heap.size + 1 := by rw [h1]; simp
  have s2 : w2.heap.size = w.heap.size + 1 + 1 := by rw [h2, World.size_alloc, s1]
  have s3 : w3.heap.size = w.heap.size + 1 + 1 + 1 := by rw [h3, World.size_alloc, s2]
  have b1 : Below w.heap.size w w1 := by rw [h1]; exact below_al _ _
  have b2 : Below w1.heap.size w1 w2 := by rw [h2]; exact below_al _ _
  have b3 : Below w2.heap.size w2 w3 := by rw [h3]; exact below_al _ _
  have b4 : Below w3.heap.size w3 w4 := by rw [h4]; exact below_al _ _
  have k1 : w1.heap[w.heap.size]? = some (.cells A.toArray t (0, 0)) := by rw [h1]; exact heap_alloc_new w _
  have k2 : w2.heap[w.heap.size + 1]? = some (.cells B.toArray t (0, 0)) := by rw [h2, ← s1]; exact heap_alloc_new w1 _
  have k3 : w3.heap[w.heap.size + 1 + 1]? = some (.cells [.slice none 0 0, .slice none 0 0, .bool false].toArray t (0, 0)) := by rw [h3, ← s2]; exact heap_alloc_new w2 _
  have k4 : w4.heap[w.heap.size + 1 + 1 + 1]? = some (.cells X.toArray t (0, 0)) := by rw [h4, ← s3]; exact heap_alloc_new w3 _
  rw [← h1, ← h2, ← h3, ← h4]
  refine ⟨?_, ?_, ?_, k4, ((b1.trans (b2.mono b1.size)).trans ((b3.trans (b4.mono b3.size)).mono (by omega)))⟩
  · exact (b4.block _ (by omega)).trans ((b3.block _ (by omega)).trans ((b2.block _ (by omega)).trans k1))
  · exact (b4.block _ (by omega)).trans ((b3.block _ (by omega)).trans k2)
  · exact (b4.block _ (by omega)).trans k3
/-- what stands in them -/
theorem M4.facts {t : TypeId} {w wr : World} {p0 p1 p2 q0 q1 q2 x0 x1 x2 : Value} (h : M4 t w [p0, p1, p2] [q0, q1, q2] [x0, x1, x2] wr) :
    wr.cell? ⟨w.heap.size, 0, none⟩ = some p0 ∧ wr.cell? ⟨w.heap.size, 1, none⟩ = some p1 ∧ wr.cell? ⟨w.heap.size, 2, none⟩ = some p2 ∧ wr.cell? ⟨w.heap.size + 1, 0, none⟩ = some q0 ∧ wr.cell? ⟨w.heap.size + 1, 1, none⟩ = some q1 ∧ wr.cell? ⟨w.heap.size + 1, 2, none⟩ = some q2 ∧
    wr.cell? ⟨w.heap.size + 1 + 1 + 1, 0, none⟩ = some x0 ∧ wr.cell? ⟨w.heap.size + 1 + 1 + 1, 1, none⟩ = some x1 ∧ wr.cell? ⟨w.heap.size + 1 + 1 + 1, 2, none⟩ = some x2 ∧
    wr.frozen? ⟨w.heap.size + 1 + 1 + 1, 0, none⟩ = false ∧ wr.frozen? ⟨w.heap.size + 1 + 1 + 1, 1, none⟩ = false ∧ wr.frozen? ⟨w.heap.size + 1 + 1 + 1, 2, none⟩ = false := by
  refine ⟨?_, ?_, ?_, ?_, ?_, ?_, ?_, ?_, ?_, frozen_of_blk h.x 0, frozen_of_blk h.x 1, frozen_of_blk h.x 2⟩
  · rw [cell_of_blk h.a]; rfl
  · rw [cell_of_blk h.a]; rfl
  · rw [cell_of_blk h.a]; rfl
  · rw [cell_of_blk h.b]; rfl
  · rw [cell_of_blk h.b]; rfl
  · rw [cell_of_blk h.b]; rfl
  · rw [cell_of_blk h.x]; rfl
  · rw [cell_of_blk h.x]; rfl
  · rw [cell_of_blk h.x]; rfl
theorem clone_M4 {t : TypeId} {w w6 : World} {A B X : List Value} (K : M4 t w A B X w6) {a : Option Addr} {n c : Nat} {bs : List Nat} (h : Sl w a n c bs) (hn : n ≤ 1000) : ∀ wr, Below w6.heap.size w6 wr → Calls Tryd.prog 37 #[.slice a n c] wr fun e w' => ∃ a' c', e = .returned (.slice a' n c') ∧ Below w6.heap.size w6 w' ∧ (∀ w'', Below w'.heap.size w' w'' → Sl w'' a' n c' bs) ∧ (∀ p : Addr, a' = some p → w.heap.size + 1 + 1 + 1 < p.block) ∧ Below wr.heap.size wr w' := fun wr hb =>
  (clone_new ((h.below K.below).below hb) (by omega)).mono fun e w' ⟨a', c', h1, h2, h3, h4⟩ => ⟨a', c', h1, hb.trans (h3.mono hb.size), fun w'' b => h2.below b, fun p e => by
    have := (h4 p e).1
    have h5 := hb.size
    have h6 := (Array.getElem?_eq_some_iff.1 K.x).1
    omega, h3⟩
def meetPost (f t : List Nat) (o : Bool) (w : World) (e : Ending) (w' : World) : Prop := ∃ a1 n1 c1 a2 n2 c2, e = .returned (.agg #[.slice a1 n1 c1, .slice a2 n2 c2, .bool o]) ∧ Sl w' a1 n1 c1 f ∧ Sl w' a2 n2 c2 t ∧ Below w.heap.size w w'
theorem meet_fin {w w8 : World} {A B : List Value} {x0 x1 : Value} {O : Bool} (K : M4 bsT w A B [x0, x1, .bool O] w8) {a7 a8 : Option Addr} {n7 c7 n8 c8 : Nat} {F T : List Nat} (S7 : Sl w8 a7 n7 c7 F) (N7 : ∀ p : Addr, a7 = some p → w.heap.size + 1 + 1 + 1 < p.block) (S8 : Sl w8 a8 n8 c8 T) (N8 : ∀ p : Addr, a8 = some p → w.heap.size + 1 + 1 + 1 < p.block) :
    ∀ w9, w9 = (w8.setCell ⟨w.heap.size + 1 + 1 + 1, 0, none⟩ (.slice a7 n7 c7)).setCell ⟨w.heap.size + 1 + 1 + 1, 1, none⟩ (.slice a8 n8 c8) →
      w9.cell? ⟨w.heap.size + 1 + 1 + 1, 0, none⟩ = some (.slice a7 n7 c7) ∧ w9.cell? ⟨w.heap.size + 1 + 1 + 1, 1, none⟩ = some (.slice a8 n8 c8) ∧ w9.cell? ⟨w.heap.size + 1 + 1 + 1, 2, none⟩ = some (.bool O) ∧
      w9.cell? ⟨w.heap.size + 1 + 1, 0, none⟩ = some (.slice none 0 0) ∧ w9.cell? ⟨w.heap.size + 1 + 1, 1, none⟩ = some (.slice none 0 0) ∧ w9.cell? ⟨w.heap.size + 1 + 1, 2, none⟩ = some (.bool false) ∧
      w9.frozen? ⟨w.heap.size + 1 + 1, 0, none⟩ = false ∧ w9.frozen? ⟨w.heap.size + 1 + 1, 1, none⟩ = false ∧ w9.frozen? ⟨w.heap.size + 1 + 1, 2, none⟩ = false ∧
      ∀ w10, w10 = ((w9.setCell ⟨w.heap.size + 1 + 1, 0, none⟩ (.slice a7 n7 c7)).setCell ⟨w.heap.size + 1 + 1, 1, none⟩ (.slice a8 n8 c8)).setCell ⟨w.heap.size + 1 + 1, 2, none⟩ (.bool O) →
        w10.cell? ⟨w.heap.size + 1 + 1, 0, none⟩ = some (.slice a7 n7 c7) ∧ w10.cell? ⟨w.heap.size + 1 + 1, 1, none⟩ = some (.slice a8 n8 c8) ∧ w10.cell? ⟨w.heap.size + 1 + 1, 2, none⟩ = some (.bool O) ∧ meetPost F T O w (.returned (.agg #[.slice a7 n7 c7, .slice a8 n8 c8, .bool O])) w10 := fun w9 e9 => by
  have M9 := (K.put 0 (.slice a7 n7 c7)).put 1 (.slice a8 n8 c8)
  rw [← e9] at M9
  have M9 : M4 bsT w A B [.slice a7 n7 c7, .slice a8 n8 c8, .bool O] w9 := M9
  have hm9 : Mod (fun j => j = w.heap.size + 1 + 1 + 1 ∨ j = w.heap.size + 1 + 1) w8 w9 := by
    rw [e9]
    exact ((Mod.refl (fun j => j = w.heap.size + 1 + 1 + 1 ∨ j = w.heap.size + 1 + 1) w8).setCell ⟨w.heap.size + 1 + 1 + 1, 0, none⟩ _ (fun _ => Or.inl rfl)).setCell ⟨w.heap.size + 1 + 1 + 1, 1, none⟩ _ (fun _ => Or.inl rfl)
  refine ⟨by rw [cell_of_blk M9.x]; rfl, by rw [cell_of_blk M9.x]; rfl, by rw [cell_of_blk M9.x]; rfl, by rw [cell_of_blk M9.r]; rfl, by rw [cell_of_blk M9.r]; rfl, by rw [cell_of_blk M9.r]; rfl, frozen_of_blk M9.r 0, frozen_of_blk M9.r 1, frozen_of_blk M9.r 2, fun w10 e10 => ?_⟩
  have hk2 := M9.r
  have z1 : (w9.setCell ⟨w.heap.size + 1 + 1, 0, none⟩ (.slice a7 n7 c7)).heap[w.heap.size + 1 + 1]? = some (.cells [.slice a7 n7 c7, .slice none 0 0, .bool false].toArray bsT (0, 0)) := by
    rw [setCell_list _ _ _ _ _ _ hk2, setRow_heap _ _ _ _ _ _ hk2]; rfl
  have z2 : ((w9.setCell ⟨w.heap.size + 1 + 1, 0, none⟩ (.slice a7 n7 c7)).setCell ⟨w.heap.size + 1 + 1, 1, none⟩ (.slice a8 n8 c8)).heap[w.heap.size + 1 + 1]? = some (.cells [.slice a7 n7 c7, .slice a8 n8 c8, .bool false].toArray bsT (0, 0)) := by
    rw [setCell_list _ _ _ _ _ _ z1, setRow_heap _ _ _ _ _ _ z1]; rfl
  have z3 : w10.heap[w.heap.size + 1 + 1]? = some (.cells [.slice a7 n7 c7, .slice a8 n8 c8, .bool O].toArray bsT (0, 0)) := by
    rw [e10, setCell_list _ _ _ _ _ _ z2, setRow_heap _ _ _ _ _ _ z2]; rfl
  have hm : Mod (fun j => j = w.heap.size + 1 + 1 + 1 ∨ j = w.heap.size + 1 + 1) w8 w10 := by
    rw [e10]
    exact ((hm9.setCell ⟨w.heap.size + 1 + 1, 0, none⟩ _ (fun _ => Or.inr rfl)).setCell ⟨w.heap.size + 1 + 1, 1, none⟩ _ (fun _ => Or.inr rfl)).setCell ⟨w.heap.size + 1 + 1, 2, none⟩ _ (fun _ => Or.inr rfl)
  refine ⟨by rw [cell_of_blk z3]; rfl, by rw [cell_of_blk z3]; rfl, by rw [cell_of_blk z3]; rfl, _, _, _, _, _, _, rfl, ?_, ?_, ?_⟩
  · exact ⟨S7.len, bytes_keep S7.at_ hm (fun p e => by have := N7 p e; omega), S7.cap, S7.capm, S7.nil⟩
  · exact ⟨S8.len, bytes_keep S8.at_ hm (fun p e => by have := N8 p e; omega), S8.cap, S8.capm, S8.nil⟩
  · rw [e10]
    exact ((M9.below.setCell (p := ⟨w.heap.size + 1 + 1, 0, none⟩) (by show w.heap.size ≤ w.heap.size + 1 + 1; omega) _).setCell (p := ⟨w.heap.size + 1 + 1, 1, none⟩) (by show w.heap.size ≤ w.heap.size + 1 + 1; omega) _).setCell (p := ⟨w.heap.size + 1 + 1, 2, none⟩) (by show w.heap.size ≤ w.heap.size + 1 + 1; omega) _
/-- from where both are -/
def fromL (f f' : List Nat) : List Nat := if 0 < bcmp f' f then f' else f
/-- to where both are -/
def toL (t : List Nat) (o : Bool) (t' : List Nat) (o' : Bool) : List Nat := if endsB t' o' t o then t' else if o then [] else t
def toO (t : List Nat) (o : Bool) (t' : List Nat) (o' : Bool) : Bool := !endsB t' o' t o && o
end Go.Proofs.YtehamfhblpokbaaDoor
