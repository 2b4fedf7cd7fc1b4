/- What BoundsSpans asks, in every later world. -/
import Derived.Test.YtehamfhblpokbaaDoorU10
import Derived.Test.YtehamfhblpokbaaDoorU6
import Derived.Test.YtehamfhblpokbaaDoorUPlain
set_option linter.unusedVariables false
set_option linter.unusedSimpArgs false
namespace Go.Proofs.YtehamfhblpokbaaDoor
open Go.RowKit
structure BdS (w : World) (a1 : Option Addr) (n1 c1 : Nat) (a2 : Option Addr) (n2 c2 : Nat) (o : Bool) (a3 : Option Addr) (n3 c3 : Nat) (a4 : Option Addr) (n4 c4 : Nat) (o' : Bool) (a0 : Option Addr) (n0 c0 : Nat) (H Em Sm : Bool) : Prop where
  pref : ∀ X, Below w.heap.size w X → Calls Tryd.prog 9 #[.slice a0 n0 c0] X fun e w' => ∃ b1 g1 h1 b2 g2 h2 p, e = .returned (.agg #[.slice b1 g1 h1, .slice b2 g2 h2, .bool p]) ∧ Below w.heap.size w w' ∧
    ∀ X, Below w'.heap.size w' X → Calls Tryd.prog 10 #[.slice a0 n0 c0] X fun e w' => ∃ b3 g3 h3 b4 g4 h4 q, e = .returned (.agg #[.slice b3 g3 h3, .slice b4 g4 h4, .bool q]) ∧ Below w.heap.size w w' ∧
      ∀ X, Below w'.heap.size w' X → Calls Tryd.prog 8 #[.agg #[.slice b1 g1 h1, .slice b2 g2 h2, .bool p], .agg #[.slice b3 g3 h3, .slice b4 g4 h4, .bool q]] X (inPost (.bool true) w)
  span : ∀ X, Below w.heap.size w X → ∀ p n c q m d b, Calls Tryd.prog 12 #[.agg #[.slice p n c, .slice q m d, .bool b]] X (inPost (.agg #[.slice p n c, .slice q m d, .bool b]) w)
  spanA : ∀ X, Below w.heap.size w X → Calls Tryd.prog 12 #[.agg #[.slice a1 n1 c1, .slice a2 n2 c2, .bool o]] X (inPost (.agg #[.slice a1 n1 c1, .slice a2 n2 c2, .bool o]) w)
  spanB : ∀ X, Below w.heap.size w X → Calls Tryd.prog 12 #[.agg #[.slice a3 n3 c3, .slice a4 n4 c4, .bool o']] X (inPost (.agg #[.slice a3 n3 c3, .slice a4 n4 c4, .bool o']) w)
  has : ∀ X, Below w.heap.size w X → Calls Tryd.prog 11 #[.agg #[.slice a1 n1 c1, .slice a2 n2 c2, .bool o], .slice a0 n0 c0] X (inPost (.bool H) w)
  rhas : ∀ X, Below w.heap.size w X → Calls Tryd.prog 13 #[.agg #[.slice a1 n1 c1, .slice a2 n2 c2, .bool o], .slice a0 n0 c0] X (inPost (.bool H) w)
  empty : ∀ X, Below w.heap.size w X → Calls Tryd.prog 14 #[.agg #[.slice a1 n1 c1, .slice a2 n2 c2, .bool o]] X (inPost (.bool Em) w)
  rempty : ∀ X, Below w.heap.size w X → Calls Tryd.prog 15 #[.agg #[.slice a1 n1 c1, .slice a2 n2 c2, .bool o]] X (inPost (.bool Em) w)
  same : ∀ X, Below w.heap.size w X → Calls Tryd.prog 16 #[.agg #[.slice a1 n1 c1, .slice a2 n2 c2, .bool o], .agg #[.slice a3 n3 c3, .slice a4 n4 c4, .bool o']] X (inPost (.bool Sm) w)
  rsame : ∀ X, Below w.heap.size w X → Calls Tryd.prog 17 #[.agg #[.slice a1 n1 c1, .slice a2 n2 c2, .bool o], .agg #[.slice a3 n3 c3, .slice a4 n4 c4, .bool o']] X (inPost (.bool Sm) w)
  meet : ∀ X, Below w.heap.size w X → Calls Tryd.prog 18 #[.agg #[.slice a1 n1 c1, .slice a2 n2 c2, .bool o], .agg #[.slice a3 n3 c3, .slice a4 n4 c4, .bool o']] X fun e w' => ∃ b1 g1 h1 b2 g2 h2 p, e = .returned (.agg #[.slice b1 g1 h1, .slice b2 g2 h2, .bool p]) ∧ Below w.heap.size w w' ∧
    ∀ X, Below w'.heap.size w' X → Calls Tryd.prog 19 #[.agg #[.slice a1 n1 c1, .slice a2 n2 c2, .bool o], .agg #[.slice a3 n3 c3, .slice a4 n4 c4, .bool o']] X fun e w' => ∃ b3 g3 h3 b4 g4 h4 q, e = .returned (.agg #[.slice b3 g3 h3, .slice b4 g4 h4, .bool q]) ∧ Below w.heap.size w w' ∧
      ∀ X, Below w'.heap.size w' X → Calls Tryd.prog 8 #[.agg #[.slice b1 g1 h1, .slice b2 g2 h2, .bool p], .agg #[.slice b3 g3 h3, .slice b4 g4 h4, .bool q]] X (inPost (.bool true) w)
  whole : ∀ X, Below w.heap.size w X → Calls Tryd.prog 20 #[] X (inPost (.agg #[.slice none 0 0, .slice none 0 0, .bool true]) w)
  wsame : ∀ X, Below w.heap.size w X → Calls Tryd.prog 8 #[.agg #[.slice none 0 0, .slice none 0 0, .bool true], .agg #[.slice none 0 0, .slice none 0 0, .bool true]] X (inPost (.bool true) w)
  alive : ∀ X, Below w.heap.size w X → Calls Tryd.prog 7 #[] X (inPost (.bool true) w)
section
variable {w : World} {a1 a2 a3 a4 a0 : Option Addr} {n0 c0 n1 c1 n2 c2 n3 c3 n4 c4 : Nat} {k f t f' t' : List Nat}
theorem r_meet (h1 : Sl w a1 n1 c1 f) (h2 : Sl w a2 n2 c2 t) (o : Bool) (h3 : Sl w a3 n3 c3 f') (h4 : Sl w a4 n4 c4 t') (o' : Bool) : Calls Tryd.prog 19 #[.agg #[.slice a1 n1 c1, .slice a2 n2 c2, .bool o], .agg #[.slice a3 n3 c3, .slice a4 n4 c4, .bool o']] w (meetPost (fromL f f') (toL t o t' o') (toO t o t' o') w) := by
  cases o <;> cases o'
  · exact r_meet_ff h1 h2 h3 h4
  · exact r_meet_ft h1 h2 h3 h4
  · exact r_meet_tf h1 h2 h3 h4
  · exact r_meet_tt h1 h2 h3 h4
theorem in_post {v : Value} {w X w' : World} {e : Ending} (hb : Below w.heap.size w X) (h : belowPost v X e w') : inPost v w e w' := ⟨h.1, hb.trans (h.2.mono hb.size)⟩
theorem same_true {w X : World} {b1 b2 b3 b4 : Option Addr} {g1 h1 g2 h2 g3 h3 g4 h4 : Nat} {f t : List Nat} {p : Bool} (hb : Below w.heap.size w X) (s1 : Sl X b1 g1 h1 f) (s2 : Sl X b2 g2 h2 t) (s3 : Sl X b3 g3 h3 f) (s4 : Sl X b4 g4 h4 t) : Calls Tryd.prog 8 #[.agg #[.slice b1 g1 h1, .slice b2 g2 h2, .bool p], .agg #[.slice b3 g3 h3, .slice b4 g4 h4, .bool p]] X (inPost (.bool true) w) :=
  (law_same s1 s2 p s3 s4 p).mono fun e w' h => by
    have := in_post hb h
    simpa using this
theorem bds_of (h1 : Sl w a1 n1 c1 f) (h2 : Sl w a2 n2 c2 t) (o : Bool) (h3 : Sl w a3 n3 c3 f') (h4 : Sl w a4 n4 c4 t') (o' : Bool) (h0 : Sl w a0 n0 c0 k) (m1 : n1 ≤ 300) (m2 : n2 ≤ 300) (m3 : n3 ≤ 300) (m4 : n4 ≤ 300) (m0 : n0 ≤ 300) : BdS w a1 n1 c1 a2 n2 c2 o a3 n3 c3 a4 n4 c4 o' a0 n0 c0 (hasB f t o k) (!o && decide (0 ≤ bcmp f t)) (decide (f = f') && (o == o' && (o || decide (t = t')))) where
  pref := fun X hb => (b_prefix (h0.below hb) (by omega)).mono fun e w1 ⟨N, b1, g1, j1, b2, g2, j2, q1, q2, q3, q4, q5⟩ => by
    have B1 := hb.trans (q5.mono hb.size)
    refine ⟨b1, g1, j1, b2, g2, j2, _, q2, B1, fun X2 hb2 => ?_⟩
    have B2 := B1.trans (hb2.mono B1.size)
    refine (r_prefix (h0.below B2) (by omega)).mono fun e w2 ⟨M, b3, g3, j3, b4, g4, j4, r1, r2, r3, r4, r5⟩ => ?_
    obtain rfl := r1.uniq q1
    have B3 := B2.trans (r5.mono B2.size)
    refine ⟨b3, g3, j3, b4, g4, j4, _, r2, B3, fun X3 hb3 => ?_⟩
    have d := (hb2.trans (r5.mono hb2.size)).trans (hb3.mono (hb2.trans (r5.mono hb2.size)).size)
    exact same_true (B3.trans (hb3.mono B3.size)) (q3.below d) (q4.below d) (r3.below hb3) (r4.below hb3)
  span := fun X hb _ _ _ _ _ _ _ => (law_span X _ _ _ _ _ _ _).mono fun e w' h => in_post hb h
  spanA := fun X hb => (law_span X _ _ _ _ _ _ _).mono fun e w' h => in_post hb h
  spanB := fun X hb => (law_span X _ _ _ _ _ _ _).mono fun e w' h => in_post hb h
  has := fun X hb => (b_has (h0.below hb) (h1.below hb) (h2.below hb) o).mono fun e w' h => in_post hb h
  rhas := fun X hb => (r_has (h0.below hb) (h1.below hb) (h2.below hb) o).mono fun e w' h => by rw [has_ref] at h; exact in_post hb h
  empty := fun X hb => (b_empty (h1.below hb) (h2.below hb) o).mono fun e w' h => in_post hb h
  rempty := fun X hb => (r_empty (h1.below hb) (h2.below hb) o).mono fun e w' h => by rw [empty_ref] at h; exact in_post hb h
  same := fun X hb => (b_same (h1.below hb) (h2.below hb) o (h3.below hb) (h4.below hb) o').mono fun e w' h => in_post hb h
  rsame := fun X hb => (r_same (h1.below hb) (h2.below hb) o (h3.below hb) (h4.below hb) o').mono fun e w' h => in_post hb h
  meet := fun X hb => (b_meet (h1.below hb) (h2.below hb) o (h3.below hb) (h4.below hb) o' (by omega) (by omega) (by omega) (by omega)).mono fun e w1 ⟨b1, g1, j1, b2, g2, j2, q2, q3, q4, q5⟩ => by
    have B1 := hb.trans (q5.mono hb.size)
    refine ⟨b1, g1, j1, b2, g2, j2, _, q2, B1, fun X2 hb2 => ?_⟩
    have B2 := B1.trans (hb2.mono B1.size)
    refine (r_meet (h1.below B2) (h2.below B2) o (h3.below B2) (h4.below B2) o').mono fun e w2 ⟨b3, g3, j3, b4, g4, j4, r2, r3, r4, r5⟩ => ?_
    have B3 := B2.trans (r5.mono B2.size)
    refine ⟨b3, g3, j3, b4, g4, j4, _, r2, B3, fun X3 hb3 => ?_⟩
    have d := (hb2.trans (r5.mono hb2.size)).trans (hb3.mono (hb2.trans (r5.mono hb2.size)).size)
    exact same_true (B3.trans (hb3.mono B3.size)) (q3.below d) (q4.below d) (r3.below hb3) (r4.below hb3)
  whole := fun X hb => (b_whole X).mono fun e w' h => in_post hb h
  wsame := fun X hb => same_true hb (sl_nil X) (sl_nil X) (sl_nil X) (sl_nil X)
  alive := fun X hb => (aliveB_any X).mono fun e w' h => in_post hb h
end
end Go.Proofs.YtehamfhblpokbaaDoor
