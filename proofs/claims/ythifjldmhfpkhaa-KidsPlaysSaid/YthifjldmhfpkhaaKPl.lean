/- KidsPlays: kids and the document's row side by side. -/
import Derived.Test.YthifjldmhfpkhaaKAs
set_option linter.unusedVariables false
set_option linter.unusedSimpArgs false
namespace Go.Proofs.Ythifjldmhfpkhaa
open Go.RowKit
abbrev stT : Nat := 46
/-- kids k of l, the row's variable at g that holds lb; H: a step's variable -/
structure PlS (w : World) (k g : Nat) (l lb : KV) (H : Option (Nat × List Value)) (S : Nat → Prop) (wr : World) : Prop where
  kd : I.KdAt wr k (kindOf l.length) l S
  vals : I.Vals l
  new : ∀ j, S j → w.heap.size ≤ j
  ng : ¬ S g
  gn : w.heap.size ≤ g
  box : wr.heap[g]? = some (.cells (rrL 256 (rrF lb) (rrG lb)).toArray rrT (0, 0))
  held : ∀ h st, H = some (h, st) → ¬ S h ∧ h ≠ g ∧ w.heap.size ≤ h ∧ wr.heap[h]? = some (.cells st.toArray stT (0, 0))
  old : Below w.heap.size w wr
def Pl (w : World) (k g : Nat) (l lb : KV) (H : Option (Nat × List Value)) (wr : World) : Prop := ∃ S, PlS w k g l lb H S wr
section
variable {w wr w' : World} {k g : Nat} {l lb l' : KV} {H : Option (Nat × List Value)}
theorem Pl.below (h : Pl w k g l lb H wr) (hb : Below wr.heap.size wr w') : Pl w k g l lb H w' := by
  obtain ⟨S, h⟩ := h
  refine ⟨S, h.kd.below hb, h.vals, h.new, h.ng, h.gn, (hb.block _ (Array.getElem?_eq_some_iff.1 h.box).1).trans h.box, fun i st e => ?_, h.old.trans (hb.mono h.old.size)⟩
  obtain ⟨h1, h2, h3, h4⟩ := h.held i st e
  exact ⟨h1, h2, h3, (hb.block _ (Array.getElem?_eq_some_iff.1 h4).1).trans h4⟩
theorem Pl.drewN (h : Pl w k g l lb H wr) (n : Nat) : Pl w k g l lb H (wr.drewN n) := by
  obtain ⟨S, h⟩ := h
  exact ⟨S, h.kd.drewN n, h.vals, h.new, h.ng, h.gn, h.box, h.held, below_drewN h.old n⟩
theorem Pl.old (h : Pl w k g l lb H wr) : Below w.heap.size w wr := by obtain ⟨S, h⟩ := h; exact h.old
theorem Pl.srt (h : Pl w k g l lb H wr) : Srt l ∧ Low l ∧ I.Vals l := by obtain ⟨S, h⟩ := h; exact ⟨h.kd.srt.1, h.kd.srt.2.1, h.vals⟩
theorem Pl.box (h : Pl w k g l lb H wr) : wr.heap[g]? = some (.cells (rrA lb) rrT (0, 0)) := by obtain ⟨S, h⟩ := h; exact h.box
theorem Pl.range (h : Pl w k g l lb H wr) : wr.rangeAt g 0 (rrL 256 (rrF lb) (rrG lb)) := fun j v hv => by obtain ⟨S, h⟩ := h; rw [Nat.zero_add, cell_of_blk h.box]; exact hv
theorem Pl.cF (h : Pl w k g l lb H wr) {b : Nat} (hb : b < 256) : wr.cell? ⟨g, 1 + b, none⟩ = some (.bool (rrF lb b)) := by obtain ⟨S, h⟩ := h; rw [cell_of_blk h.box, rrL_has _ _ _ hb]
theorem Pl.cG (h : Pl w k g l lb H wr) {b : Nat} (hb : b < 256) : wr.cell? ⟨g, 257 + b, none⟩ = some (rrG lb b) := by obtain ⟨S, h⟩ := h; rw [cell_of_blk h.box, rrL_val _ _ _ hb]
theorem Pl.step {h : Nat} {st : List Value} (hp : Pl w k g l lb (some (h, st)) wr) (j : Nat) : wr.cell? ⟨h, j, none⟩ = st[j]? := by
  obtain ⟨S, hp⟩ := hp
  exact cell_of_blk (hp.held h st rfl).2.2.2 j
theorem Pl.drop (hp : Pl w k g l lb H wr) : Pl w k g l lb none wr := by
  obtain ⟨S, h⟩ := hp
  exact ⟨S, h.kd, h.vals, h.new, h.ng, h.gn, h.box, (fun _ _ e => by cases e), h.old⟩
/-- a step's variable is laid -/
theorem Pl.hold (hp : Pl w k g l lb none wr) (st : List Value) : Pl w k g l lb (some (wr.heap.size, st)) (wr.alloc (.cells st.toArray stT)) := by
  obtain ⟨S, h⟩ := hp
  have hb : Below wr.heap.size wr (wr.alloc (.cells st.toArray stT)) := (Below.refl _ wr).alloc (Nat.le_refl _) _
  have hgl := (Array.getElem?_eq_some_iff.1 h.box).1
  refine ⟨S, h.kd.below hb, h.vals, h.new, h.ng, h.gn, (hb.block _ hgl).trans h.box, fun i st' e => ?_, h.old.trans (hb.mono h.old.size)⟩
  cases e
  exact ⟨fun e => by have := h.kd.lt _ e; omega, by omega, h.old.size, heap_alloc_new _ _⟩
/-- kids turned -/
theorem PlS.turn {S : Nat → Prop} {E e : Ending} (h : PlS w k g l lb H S wr) (hv : I.Vals l') (q : I.kPost k (kindOf l'.length) l' S wr E e w') : e = E ∧ Pl w k g l' lb H w' := by
  obtain ⟨rfl, S', h1, h2, h3⟩ := q
  have hs := h.old.size
  have hgl := (Array.getElem?_eq_some_iff.1 h.box).1
  refine ⟨rfl, S', h1, hv, fun j hj => ?_, fun e => ?_, h.gn, (h2.same g hgl h.ng).trans h.box, fun i st e => ?_, h.old.trans ⟨h2.os, h2.tape, h2.output, h2.size, fun j hj => h2.same j (by omega) (fun e => by have := h.new j e; omega)⟩⟩
  · rcases h3 j hj with e | e
    · exact h.new j e
    · omega
  · rcases h3 g e with e | e
    · exact h.ng e
    · omega
  · obtain ⟨q1, q2, q3, q4⟩ := h.held i st e
    have hil := (Array.getElem?_eq_some_iff.1 q4).1
    refine ⟨fun e => ?_, q2, q3, (h2.same i hil q1).trans q4⟩
    rcases h3 i e with e | e
    · exact q1 e
    · omega
/-- the row's variable is given another row -/
theorem Pl.store (hp : Pl w k g l lb H wr) (l' : KV) : Pl w k g l l' H (wr.setRow g (rrA l')) := by
  obtain ⟨S, h⟩ := hp
  have hm : Mod (· = g) wr (wr.setRow g (rrA l')) := (Mod.refl _ wr).setRow _ _ (fun _ => rfl)
  have hs := h.old.size
  have hgn := h.gn
  refine ⟨S, h.kd.keep (fun j hj => hm.same j (h.kd.lt j hj) (fun e => h.ng (e ▸ hj))), h.vals, h.new, h.ng, h.gn, setRow_heap wr _ _ _ _ _ h.box, fun i st e => ?_, h.old.trans ⟨hm.os, hm.tape, hm.output, hm.size, fun j hj => hm.same j (by omega) (by omega)⟩⟩
  obtain ⟨q1, q2, q3, q4⟩ := h.held i st e
  exact ⟨q1, q2, q3, (hm.same i (Array.getElem?_eq_some_iff.1 q4).1 q2).trans q4⟩
theorem pl_set (h : Pl w k g l lb H wr) (b : Nat) (hb : b < 256) (x : Int) : Calls Try.prog 19 #[.pointer (some ⟨k, 0, none⟩), .int .u8 (b : Nat), .int .i64 x] wr fun e w' => e = .returned (.int .i64 0) ∧ Pl w k g (kins l b (.int .i64 x)) lb H w' := by
  obtain ⟨S, h⟩ := h
  exact (I.kd_set h.kd h.vals b hb x).mono fun e w' q => h.turn (I.Vals.ins h.vals b x) q
theorem pl_drop (h : Pl w k g l lb H wr) (b : Nat) (hb : b < 256) : Calls Try.prog 22 #[.pointer (some ⟨k, 0, none⟩), .int .u8 (b : Nat)] wr fun e w' => e = .returned (.int .i64 (if has l b then 0 else 6)) ∧ Pl w k g (kdel l b) lb H w' := by
  obtain ⟨S, h⟩ := h
  exact (I.kd_drop h.kd h.vals b hb).mono fun e w' q => h.turn (I.Vals.del h.vals b) q
theorem pl_get (h : Pl w k g l lb H wr) (b : Nat) (hb : b < 256) : Calls Try.prog 21 #[.pointer (some ⟨k, 0, none⟩), .int .u8 (b : Nat)] wr fun e w' => e = .returned (I.getV (kget l b)) ∧ ∃ n, w' = wr.drewN n := by
  obtain ⟨S, h⟩ := h
  exact I.kd_get h.kd b hb
theorem pl_kind (h : Pl w k g l lb H wr) : Calls Try.prog 24 #[.pointer (some ⟨k, 0, none⟩)] wr fun e w' => e = .returned (.int .i64 (kindOf l.length : Nat)) ∧ wr = w' := by
  obtain ⟨S, h⟩ := h
  exact I.kd_kind h.kd
theorem pl_as (h : Pl w k g l lb H wr) (f : Int) (hlo : -9223372036854775808 ≤ f) (hhi : f ≤ 9223372036854775807) : Calls Try.prog 27 #[.pointer (some ⟨k, 0, none⟩), .agg (rrA l), .int .i64 f] wr fun e w' => e = .returned (.bool true) ∧ Pl w k g l lb H w' := by
  have h0 := h
  obtain ⟨S, h⟩ := h
  refine (as_true h.kd h.vals f hlo hhi).mono ?_
  rintro e w' ⟨rfl, q⟩
  exact ⟨rfl, h0.below q⟩
theorem getV_form {l : KV} (hv : I.Vals l) (b : Nat) : ∃ (x : Int) (s : Bool), I.getV (kget l b) = .tuple #[.int .i64 x, .bool s] ∧ rrF l b = s ∧ rrG l b = .int .i64 x := by
  unfold rrF rrG
  cases hk : kget l b with
  | none => exact ⟨0, false, rfl, rfl, rfl⟩
  | some v =>
    obtain ⟨p, hp, e⟩ := Option.map_eq_some_iff.1 hk
    obtain ⟨x, hx⟩ := hv p (List.mem_of_find?_eq_some hp)
    obtain rfl : v = .int .i64 x := by rw [← e, hx]
    exact ⟨x, true, rfl, rfl, rfl⟩
theorem refKind_nat {n : Nat} (h : n ≤ 256) (wr : World) : Calls Try.prog 16 #[.int .i64 (n : Nat)] wr fun e w' => e = .returned (.int .i64 (kindOf n : Nat)) ∧ wr = w' := by
  have := refKind_any (n : Nat) wr
  rw [show kindZ ((n : Nat) : Int) = (kindOf n : Nat) from kindZ_nat _ h] at this
  exact this
/-- the beginning: kids that were just made, the row's variable -/
theorem Pl.start {S : Nat → Prop} {w1 w2 : World} (hk : I.KdAt w1 k 4 [] S) (h1 : Below w.heap.size w w1) (hS : ∀ j, S j → w.heap.size ≤ j) (h2 : Below w1.heap.size w1 w2) (z : Array Value) : Pl w k w2.heap.size [] [] none ((w2.alloc (.cells z rrT)).setRow w2.heap.size (rrA [])) := by
  rw [World.setRow_alloc_new]
  have hs1 := h1.size
  have hs2 := h2.size
  have hb : Below w1.heap.size w1 (w2.alloc (.cells (rrA []) rrT)) := h2.alloc hs2 _
  exact ⟨S, hk.below hb, fun p hp => by simp at hp, hS, fun e => by have := hk.lt _ e; omega, by omega, heap_alloc_new _ _, (fun _ _ e => by cases e), h1.trans (hb.mono hs1)⟩
end
end Go.Proofs.Ythifjldmhfpkhaa
