/- What BoundsMeet asks, in every later world. -/
import Derived.Test.YtehamfhblpokbaaDoorU11
set_option linter.unusedVariables false
set_option linter.unusedSimpArgs false
namespace Go.Proofs.YtehamfhblpokbaaDoor
open Go.RowKit
/-- an answer, the old world as it was, and the world at the call too -/
def inPost2 (v : Value) (w X : World) (e : Ending) (w' : World) : Prop := e = .returned v ∧ Below w.heap.size w w' ∧ Below X.heap.size X w'
theorem in_post2 {v : Value} {w X w' : World} {e : Ending} (hb : Below w.heap.size w X) (h : belowPost v X e w') : inPost2 v w X e w' := ⟨h.1, hb.trans (h.2.mono hb.size), h.2⟩
/-- which span is asked whether it has the key, and what it says -/
inductive HQ (X : World) (a1 : Option Addr) (n1 c1 : Nat) (a2 : Option Addr) (n2 c2 : Nat) (o : Bool) (a3 : Option Addr) (n3 c3 : Nat) (a4 : Option Addr) (n4 c4 : Nat) (o' : Bool) (H1 H2 O : Bool) (F T : List Nat) : Option Addr → Nat → Nat → Option Addr → Nat → Nat → Bool → Bool → Prop
  | A : HQ X a1 n1 c1 a2 n2 c2 o a3 n3 c3 a4 n4 c4 o' H1 H2 O F T a1 n1 c1 a2 n2 c2 o H1
  | B : HQ X a1 n1 c1 a2 n2 c2 o a3 n3 c3 a4 n4 c4 o' H1 H2 O F T a3 n3 c3 a4 n4 c4 o' H2
  | M {b1 g1 j1 b2 g2 j2} (s1 : Sl X b1 g1 j1 F) (s2 : Sl X b2 g2 j2 T) : HQ X a1 n1 c1 a2 n2 c2 o a3 n3 c3 a4 n4 c4 o' H1 H2 O F T b1 g1 j1 b2 g2 j2 O (H1 && H2)
  | W : HQ X a1 n1 c1 a2 n2 c2 o a3 n3 c3 a4 n4 c4 o' H1 H2 O F T none 0 0 none 0 0 true true
structure BmS (w : World) (a1 : Option Addr) (n1 c1 : Nat) (a2 : Option Addr) (n2 c2 : Nat) (o : Bool) (a3 : Option Addr) (n3 c3 : Nat) (a4 : Option Addr) (n4 c4 : Nat) (o' : Bool) (a0 : Option Addr) (n0 c0 : Nat) (H1 H2 O Em : Bool) (F T : List Nat) : Prop where
  span : ∀ X, Below w.heap.size w X → ∀ p n c q m d b, Calls Tryd.prog 12 #[.agg #[.slice p n c, .slice q m d, .bool b]] X (inPost2 (.agg #[.slice p n c, .slice q m d, .bool b]) w X)
  has : ∀ X, Below w.heap.size w X → ∀ p n c q m d b V, HQ X a1 n1 c1 a2 n2 c2 o a3 n3 c3 a4 n4 c4 o' H1 H2 O F T p n c q m d b V → Calls Tryd.prog 11 #[.agg #[.slice p n c, .slice q m d, .bool b], .slice a0 n0 c0] X (inPost2 (.bool V) w X)
  meetAB : ∀ X, Below w.heap.size w X → Calls Tryd.prog 18 #[.agg #[.slice a1 n1 c1, .slice a2 n2 c2, .bool o], .agg #[.slice a3 n3 c3, .slice a4 n4 c4, .bool o']] X fun e w' => ∃ b1 g1 j1 b2 g2 j2, e = .returned (.agg #[.slice b1 g1 j1, .slice b2 g2 j2, .bool O]) ∧ Below w.heap.size w w' ∧ Below X.heap.size X w' ∧ Sl w' b1 g1 j1 F ∧ Sl w' b2 g2 j2 T
  meetBA : ∀ X, Below w.heap.size w X → Calls Tryd.prog 18 #[.agg #[.slice a3 n3 c3, .slice a4 n4 c4, .bool o'], .agg #[.slice a1 n1 c1, .slice a2 n2 c2, .bool o]] X fun e w' => ∃ b1 g1 j1 b2 g2 j2, e = .returned (.agg #[.slice b1 g1 j1, .slice b2 g2 j2, .bool O]) ∧ Below w.heap.size w w' ∧ Below X.heap.size X w' ∧ Sl w' b1 g1 j1 F ∧ Sl w' b2 g2 j2 T
  sameM : ∀ X, Below w.heap.size w X → ∀ b1 g1 j1 b2 g2 j2 b3 g3 j3 b4 g4 j4, Sl X b1 g1 j1 F → Sl X b2 g2 j2 T → Sl X b3 g3 j3 F → Sl X b4 g4 j4 T → Calls Tryd.prog 16 #[.agg #[.slice b1 g1 j1, .slice b2 g2 j2, .bool O], .agg #[.slice b3 g3 j3, .slice b4 g4 j4, .bool O]] X (inPost2 (.bool true) w X)
  em : H1 = true → H2 = true → Em = false
  emptyM : ∀ X, Below w.heap.size w X → ∀ b1 g1 j1 b2 g2 j2, Sl X b1 g1 j1 F → Sl X b2 g2 j2 T → Calls Tryd.prog 14 #[.agg #[.slice b1 g1 j1, .slice b2 g2 j2, .bool O]] X (inPost2 (.bool Em) w X)
  whole : ∀ X, Below w.heap.size w X → Calls Tryd.prog 20 #[] X (inPost2 (.agg #[.slice none 0 0, .slice none 0 0, .bool true]) w X)
  alive : ∀ X, Below w.heap.size w X → Calls Tryd.prog 7 #[] X (inPost2 (.bool true) w X)
section
variable {w : World} {a1 a2 a3 a4 a0 : Option Addr} {n0 c0 n1 c1 n2 c2 n3 c3 n4 c4 : Nat} {k f t f' t' : List Nat}
theorem bms_of (h1 : Sl w a1 n1 c1 f) (h2 : Sl w a2 n2 c2 t) (o : Bool) (h3 : Sl w a3 n3 c3 f') (h4 : Sl w a4 n4 c4 t') (o' : Bool) (h0 : Sl w a0 n0 c0 k) (m1 : n1 ≤ 300) (m2 : n2 ≤ 300) (m3 : n3 ≤ 300) (m4 : n4 ≤ 300) (m0 : n0 ≤ 300) : BmS w a1 n1 c1 a2 n2 c2 o a3 n3 c3 a4 n4 c4 o' a0 n0 c0 (hasB f t o k) (hasB f' t' o' k) (toO t o t' o') (!(toO t o t' o') && decide (0 ≤ bcmp (fromL f f') (toL t o t' o'))) (fromL f f') (toL t o t' o') where
  span := fun X hb _ _ _ _ _ _ _ => (law_span X _ _ _ _ _ _ _).mono fun e w' h => in_post2 hb h
  has := fun X hb p n c q m d b V hq => by
    cases hq with
    | A => exact (b_has (h0.below hb) (h1.below hb) (h2.below hb) o).mono fun e w' h => in_post2 hb h
    | B => exact (b_has (h0.below hb) (h3.below hb) (h4.below hb) o').mono fun e w' h => in_post2 hb h
    | M s1 s2 => exact (b_has (h0.below hb) s1 s2 _).mono fun e w' h => by rw [meet_has] at h; exact in_post2 hb h
    | W => exact (b_has (h0.below hb) (sl_nil X) (sl_nil X) true).mono fun e w' h => by rw [whole_has] at h; exact in_post2 hb h
  meetAB := fun X hb => (b_meet (h1.below hb) (h2.below hb) o (h3.below hb) (h4.below hb) o' (by omega) (by omega) (by omega) (by omega)).mono fun e w1 ⟨b1, g1, j1, b2, g2, j2, q2, q3, q4, q5⟩ => ⟨b1, g1, j1, b2, g2, j2, q2, hb.trans (q5.mono hb.size), q5, q3, q4⟩
  meetBA := fun X hb => (b_meet (h3.below hb) (h4.below hb) o' (h1.below hb) (h2.below hb) o (by omega) (by omega) (by omega) (by omega)).mono fun e w1 ⟨b1, g1, j1, b2, g2, j2, q2, q3, q4, q5⟩ => by
    rw [from_comm, (to_comm t t' o o').1, (to_comm t t' o o').2]
    exact ⟨b1, g1, j1, b2, g2, j2, q2, hb.trans (q5.mono hb.size), q5, q3, q4⟩
  sameM := fun X hb b1 g1 j1 b2 g2 j2 b3 g3 j3 b4 g4 j4 s1 s2 s3 s4 => (b_same s1 s2 _ s3 s4 _).mono fun e w' h => by
    have := in_post2 hb h
    simpa using this
  em := fun e1 e2 => empty_has (k := k) (by rw [meet_has, e1, e2]; rfl)
  emptyM := fun X hb b1 g1 j1 b2 g2 j2 s1 s2 => (b_empty s1 s2 _).mono fun e w' h => in_post2 hb h
  whole := fun X hb => (b_whole X).mono fun e w' h => in_post2 hb h
  alive := fun X hb => (aliveB_any X).mono fun e w' h => in_post2 hb h
end
end Go.Proofs.YtehamfhblpokbaaDoor
