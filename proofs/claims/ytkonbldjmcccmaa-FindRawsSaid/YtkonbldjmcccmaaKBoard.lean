/- Boards of many things (wide.Board): what a board's block holds; what is read. -/
import Derived.Test.YtkonbldjmcccmaaKOwn
import Derived.Test.YtkonbldjmcccmaaKRowD
set_option linter.unusedVariables false
set_option linter.unusedSimpArgs false
namespace Go.Proofs.Ytkonbldjmcccmaa
open Go.RowKit

/-- the cells of the places -/
def atL (p : Nat → Nat) : List Value := (List.range 256).map fun b => .int .u16 (p b : Nat)
def bdL (rm n : Nat) (p : Nat → Nat) (vx vf : Value) : List Value := .int .i64 rm :: .int .i64 n :: (atL p ++ [vx, vf])
def upd (p : Nat → Nat) (b q : Nat) : Nat → Nat := fun c => if c = b then q else p c
theorem atL_length (p : Nat → Nat) : (atL p).length = 256 := by simp [atL]
theorem atL_get (p : Nat → Nat) (b : Nat) (hb : b < 256) : (atL p)[b]? = some (.int .u16 (p b : Nat)) := by simp [atL, hb]
theorem atL_set (p : Nat → Nat) (b q : Nat) (hb : b < 256) : (atL p).set b (.int .u16 (q : Nat)) = atL (upd p b q) := by
  apply List.ext_getElem?
  intro j
  rw [List.getElem?_set]
  by_cases h : b = j
  · subst h; rw [if_pos rfl, if_pos (by rw [atL_length]; exact hb), atL_get _ _ hb]; simp [upd]
  · by_cases hj : j < 256
    · rw [if_neg h, atL_get _ _ hj, atL_get _ _ hj]; simp [upd, show ¬ j = b by omega]
    · rw [if_neg h, List.getElem?_eq_none (by rw [atL_length]; omega), List.getElem?_eq_none (by rw [atL_length]; omega)]
theorem bdL_setA (rm n : Nat) (p : Nat → Nat) (vx vf : Value) (b q : Nat) (hb : b < 256) : (bdL rm n p vx vf).set (2 + b) (.int .u16 (q : Nat)) = bdL rm n (upd p b q) vx vf := by
  rw [bdL, show 2 + b = (b + 1) + 1 from by omega, List.set_cons_succ, List.set_cons_succ, List.set_append_left _ _ (by rw [atL_length]; omega), atL_set p b q hb, bdL]
theorem bdL_setX (rm n : Nat) (p : Nat → Nat) (vx vf v : Value) : (bdL rm n p vx vf).set 258 v = bdL rm n p v vf := by
  rw [bdL, show 258 = (256 + 1) + 1 from rfl, List.set_cons_succ, List.set_cons_succ, List.set_append_right _ _ (by rw [atL_length]; omega), atL_length]; rfl
theorem bdL_setF (rm n : Nat) (p : Nat → Nat) (vx vf v : Value) : (bdL rm n p vx vf).set 259 v = bdL rm n p vx v := by
  rw [bdL, show 259 = (257 + 1) + 1 from rfl, List.set_cons_succ, List.set_cons_succ, List.set_append_right _ _ (by rw [atL_length]; omega), atL_length]; rfl
theorem bdL_set1 (rm n m : Nat) (p : Nat → Nat) (vx vf : Value) : (bdL rm n p vx vf).set 1 (.int .i64 (m : Nat)) = bdL rm m p vx vf := rfl
theorem bdL_length (rm n : Nat) (p : Nat → Nat) (vx vf : Value) : (bdL rm n p vx vf).length = 260 := by simp [bdL, atL_length]
theorem bdL_A (rm n : Nat) (p : Nat → Nat) (vx vf : Value) (b : Nat) (hb : b < 256) : (bdL rm n p vx vf)[2 + b]? = some (.int .u16 (p b : Nat)) := by
  rw [bdL, show 2 + b = (b + 1) + 1 from by omega, List.getElem?_cons_succ, List.getElem?_cons_succ, List.getElem?_append_left (by rw [atL_length]; omega), atL_get p b hb]
theorem bdL_X (rm n : Nat) (p : Nat → Nat) (vx vf : Value) : (bdL rm n p vx vf)[258]? = some vx := by
  rw [bdL, show 258 = (256 + 1) + 1 from rfl, List.getElem?_cons_succ, List.getElem?_cons_succ, List.getElem?_append_right (by rw [atL_length]; omega), atL_length]; rfl
theorem bdL_F (rm n : Nat) (p : Nat → Nat) (vx vf : Value) : (bdL rm n p vx vf)[259]? = some vf := by
  rw [bdL, show 259 = (257 + 1) + 1 from rfl, List.getElem?_cons_succ, List.getElem?_cons_succ, List.getElem?_append_right (by rw [atL_length]; omega), atL_length]; rfl

def fsV (fs : List Nat) : List Value := fs.map fun q => .int .u16 (q : Nat)
/-- how the places stand to the things -/
structure Places (rm : Nat) (l : KV) (p : Nat → Nat) (xs : List Value) (fs : List Nat) : Prop where
  zero : ∀ b, b < 256 → (p b = 0 ↔ has l b = false)
  at_ : ∀ b, b < 256 → p b ≠ 0 → p b ≤ xs.length ∧ xs[p b - 1]? = kget l b
  inj : ∀ b c, b < 256 → c < 256 → p b ≠ 0 → p b = p c → b = c
  fnd : fs.Nodup
  fin : ∀ q ∈ fs, 1 ≤ q ∧ q ≤ xs.length ∧ ∀ b, b < 256 → p b ≠ q
  cnt : xs.length = l.length + fs.length
  le : l.length ≤ rm
  leX : xs.length ≤ rm
  rm_ : rm = 48 ∨ rm = 256
  srt : Srt l
  low : Low l
  one : ∀ v ∈ xs, v.oneCell' = true
/-- What a board's block holds. -/
structure BdIs (ty tx tf : Nat) (w : World) (r rm : Nat) (l : KV) (p : Nat → Nat) (vx : Value) (xs : List Value) (bx : Option Nat) (vf : Value) (fs : List Nat) (bf : Option Nat) : Prop where
  blk : w.heap[r]? = some (.cells (bdL rm l.length p vx vf).toArray ty (0, 0))
  ownX : Own tx w vx xs bx
  ownF : Own tf w vf (fsV fs) bf
  neX : bx ≠ some r
  neF : bf ≠ some r
  neXF : ∀ g, bx = some g → bf ≠ some g
  pl : Places rm l p xs fs
/-- the blocks of a board -/
def bdS (r : Nat) (bx bf : Option Nat) (k : Nat) : Prop := k = r ∨ bx = some k ∨ bf = some k
def BdAt (ty tx tf : Nat) (w : World) (r rm : Nat) (l : KV) (S : Nat → Prop) : Prop := ∃ p vx xs bx vf fs bf, BdIs ty tx tf w r rm l p vx xs bx vf fs bf ∧ S = bdS r bx bf

section
variable {ty tx tf : Nat} {w : World} {r rm : Nat} {l : KV} {p : Nat → Nat} {vx : Value} {xs : List Value} {bx : Option Nat} {vf : Value} {fs : List Nat} {bf : Option Nat}
theorem BdIs.c0 (h : BdIs ty tx tf w r rm l p vx xs bx vf fs bf) : w.cell? ⟨r, 0, none⟩ = some (.int .i64 rm) := by rw [cell_of_blk h.blk]; rfl
theorem BdIs.c1 (h : BdIs ty tx tf w r rm l p vx xs bx vf fs bf) : w.cell? ⟨r, 1, none⟩ = some (.int .i64 l.length) := by rw [cell_of_blk h.blk]; rfl
theorem BdIs.cA (h : BdIs ty tx tf w r rm l p vx xs bx vf fs bf) (b : Nat) (hb : b < 256) : w.cell? ⟨r, 2 + b, none⟩ = some (.int .u16 (p b : Nat)) := by rw [cell_of_blk h.blk, bdL_A _ _ _ _ _ _ hb]
theorem BdIs.cX (h : BdIs ty tx tf w r rm l p vx xs bx vf fs bf) : w.cell? ⟨r, 258, none⟩ = some vx := by rw [cell_of_blk h.blk, bdL_X]
theorem BdIs.cF (h : BdIs ty tx tf w r rm l p vx xs bx vf fs bf) : w.cell? ⟨r, 259, none⟩ = some vf := by rw [cell_of_blk h.blk, bdL_F]
theorem BdIs.r1 (h : BdIs ty tx tf w r rm l p vx xs bx vf fs bf) : 1 ≤ rm := by rcases h.pl.rm_ with e | e <;> omega
theorem BdIs.r256 (h : BdIs ty tx tf w r rm l p vx xs bx vf fs bf) : rm ≤ 256 := by rcases h.pl.rm_ with e | e <;> omega
theorem BdIs.lt (h : BdIs ty tx tf w r rm l p vx xs bx vf fs bf) : r < w.heap.size := (Array.getElem?_eq_some_iff.1 h.blk).1
theorem BdIs.keep {w' : World} (h : BdIs ty tx tf w r rm l p vx xs bx vf fs bf) (hk : ∀ k, bdS r bx bf k → w'.heap[k]? = w.heap[k]?) : BdIs ty tx tf w' r rm l p vx xs bx vf fs bf :=
  ⟨(hk r (Or.inl rfl)).trans h.blk, h.ownX.keep fun g e => hk g (Or.inr (Or.inl e)), h.ownF.keep fun g e => hk g (Or.inr (Or.inr e)), h.neX, h.neF, h.neXF, h.pl⟩
theorem BdIs.here (h : BdIs ty tx tf w r rm l p vx xs bx vf fs bf) {b : Nat} (hb : b < 256) (hh : has l b = true) :
    ∃ g cap q v, bx = some g ∧ vx = .slice (some ⟨g, 0, none⟩) xs.length cap ∧ p b = q + 1 ∧ q < xs.length ∧ w.cell? ⟨g, q, none⟩ = some v ∧ w.frozen? ⟨g, q, none⟩ = false ∧ kget l b = some v ∧ xs.length ≤ cap := by
  have h0 : p b ≠ 0 := fun e => by have := (h.pl.zero b hb).1 e; rw [hh] at this; simp at this
  obtain ⟨h1, h2⟩ := h.pl.at_ b hb h0
  obtain ⟨g, cap, e1, e2, e3, e4, e5⟩ := h.ownX.at_ (j := p b - 1) (by omega)
  refine ⟨g, cap, p b - 1, xs[p b - 1], e1, e2, by omega, by omega, e3, e4, ?_, e5⟩
  rw [← h2, List.getElem?_eq_getElem]
end
end Go.Proofs.Ytkonbldjmcccmaa
