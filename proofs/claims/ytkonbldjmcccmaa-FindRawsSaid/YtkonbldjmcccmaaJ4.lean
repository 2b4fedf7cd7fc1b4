/- The law FindGets. -/
import Derived.Test.YtkonbldjmcccmaaJ3
set_option linter.unusedVariables false
set_option linter.unusedSimpArgs false
/- The law FindGets. -/
namespace Go.Proofs.Ytkonbldjmcccmaa
open Go.RowKit
/-- what a law of 14 finds -/
def truePost (w : World) (e : Ending) (w' : World) : Prop := e = .returned (.bool true) ∧ Below w.heap.size w w'
theorem far_no {n n2 : Nat} {l : PL} (h : (decide (300 < n) || decide (600 < n2) || farL 300 l) = false) : n ≤ 300 ∧ n2 ≤ 600 ∧ ∀ x ∈ l, x.1.length ≤ 300 := by
  simp only [Bool.or_eq_false_iff, decide_eq_false_iff_not] at h
  refine ⟨by omega, by omega, fun x hx => ?_⟩
  have := h.2
  unfold farL at this
  rw [List.any_eq_false] at this
  have := this x hx
  simp at this
  exact this
theorem SrtI.short {l l0 : PL} {i m : Nat} (h : SrtI l i l0) (hk : ∀ x ∈ l, x.1.length ≤ m) : ∀ x ∈ l0, x.1.length ≤ m := fun x hx => by
  obtain ⟨z, hz, e⟩ := h.keys x hx
  rw [← e]; exact hk z hz
/-- sorted pairs, and their tree -/
theorem sort_says {w : World} {a : Option Addr} {n c : Nat} {l : PL} (h : Prs w a n c l) (hn : n ≤ 300) (hk : ∀ x ∈ l, x.1.length ≤ 300) : Calls Try.prog 37 #[.slice a n c] w fun e w1 => ∃ a1 m c1 l0, e = .returned (.slice a1 m c1) ∧ Prs w1 a1 m c1 l0 ∧ m ≤ n ∧ PSrt l0 ∧ Below w.heap.size w w1 ∧ Calls Try.prog 38 #[.slice a1 m c1] w1 (saysPost l0 w1) := by
  refine (ref_sort w a n c l h (by omega)).mono ?_
  rintro e w1 ⟨v, l0, rfl, hP, hS⟩
  obtain ⟨a1, c1, rfl, hp⟩ := hP.prs
  have hl : l0.length ≤ n := by have := hS.len; rw [h.len] at this; exact this
  exact ⟨a1, l0.length, c1, l0, rfl, hp, hl, hS.srt, hP.below_, law_tree_says w1 a1 l0.length c1 l0 hp (by omega) hS.srt (fun x hx => by have := hS.short hk x hx; omega)⟩
/-- a pair in a cell of its own -/
structure PairC (w0 w : World) (b : Nat) (x : List Nat) (a : Option Addr) (n c : Nat) (y : Int) : Prop where
  k : ∀ w', Below w.heap.size w w' → w'.cell? ⟨b, 0, none⟩ = some (.slice a n c) ∧ w'.cell? ⟨b, 1, none⟩ = some (.int .u64 y) ∧ Sl w' a n c x
theorem PairC.new {w0 w : World} {a : Option Addr} {n c : Nat} {x : List Nat} {y : Int} (t : TypeId) (h : Sl w a n c x) : PairC w0 (w.alloc (.cells #[.slice a n c, .int .u64 y] t)) w.heap.size x a n c y := ⟨fun w' hb => by
  have hk : (w.alloc (.cells #[.slice a n c, .int .u64 y] t)).heap[w.heap.size]? = some (.cells [.slice a n c, .int .u64 y].toArray t (0, 0)) := heap_alloc_new w _
  have hk' := (hb.block w.heap.size (by simp)).trans hk
  exact ⟨by rw [cell_of_blk hk']; rfl, by rw [cell_of_blk hk']; rfl, (h.below ((Below.refl _ w).alloc (Nat.le_refl _) _)).below hb⟩⟩
theorem same_true {w : World} {a b : Option Addr} {n c m d : Nat} {s : List Nat} (h : Sl w a n c s) (k : Sl w b m d s) : Calls Try.prog 47 #[.slice a n c, .slice b m d] w (belowPost (.bool true) w) := by
  have := quiet_same h k 0
  rw [decide_eq_true rfl] at this
  exact this.mono fun e w2 ⟨h1, q, h2⟩ => ⟨h1, by rw [h2]; exact below_drewN (Below.refl _ _) _⟩
/-- two pairs at one place of two slices -/
theorem rows_two {w wr : World} {a b : Option Addr} {n c d : Nat} {B : PL} (hA : Prs w a n c B) (hB : Prs w b n d B) (hb : Below w.heap.size w wr) {i : Nat} (hi : i < n) : ∃ p q a3 n3 c3 a4 n4 c4 y, a = some p ∧ b = some q ∧ wr.cell? (p.add (i * 2)) = some (.slice a3 n3 c3) ∧ wr.cell? ⟨(p.add (i * 2)).block, (p.add (i * 2)).off + 1, none⟩ = some (.int .u64 y) ∧ wr.cell? (q.add (i * 2)) = some (.slice a4 n4 c4) ∧ wr.cell? ⟨(q.add (i * 2)).block, (q.add (i * 2)).off + 1, none⟩ = some (.int .u64 y) ∧
    ∀ q, Calls Try.prog 47 #[.slice a3 n3 c3, .slice a4 n4 c4] (wr.drewN q) fun e w' => e = .returned (.bool true) ∧ ∃ p, w' = (wr.drewN q).drewN p := by
  obtain ⟨p, a3, n3, c3, e1, q1, q2, q3⟩ := prs_row (hA.below hb) hi
  obtain ⟨q, a4, n4, c4, e2, q4, q5, q6⟩ := prs_row (hB.below hb) hi
  exact ⟨p, q, a3, n3, c3, a4, n4, c4, _, e1, e2, q1, q2, q4, q5, fun j => by have := quiet_same q3 q6 j; rw [decide_eq_true rfl] at this; exact this⟩
end Go.Proofs.Ytkonbldjmcccmaa
