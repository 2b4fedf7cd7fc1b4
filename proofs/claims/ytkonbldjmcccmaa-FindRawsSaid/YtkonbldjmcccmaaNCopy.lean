/- Nodes: Copy. -/
import Derived.Test.YtkonbldjmcccmaaNNode7
import Derived.Deep.WholeRow
set_option linter.unusedVariables false
set_option linter.unusedSimpArgs false
namespace Go.Proofs.Ytkonbldjmcccmaa
open Go.RowKit
section
variable {w wm : World} {n : Nat} {o : Int} {bs : List Nat} {val : Int} {has : Bool} {kk : Option KV} {pv : Value} {bo : Option Nat} {kp : Option Addr} {Sk : Nat → Prop}
theorem ko_copy (h : KidsOf w kp kk Sk) : Calls Try.prog 92 #[.pointer kp] w fun e w' => ∃ kp' Sk', e = .returned (.pointer kp') ∧ KidsOf w' kp' kk Sk' ∧ Below w.heap.size w w' ∧ ∀ j, Sk' j → w.heap.size ≤ j := by
  rcases h with ⟨rfl, rfl, _⟩ | ⟨k, l, rfl, rfl, h3, h4⟩
  · refine (N.bare_copy (Or.inl rfl)).mono ?_
    rintro e w' ⟨rfl, rfl⟩
    exact ⟨none, _, rfl, Or.inl ⟨rfl, rfl, rfl⟩, Below.refl _ _, fun j e => e.elim⟩
  · refine (N.kd_copy h3).mono ?_
    rintro e w' ⟨k', S', rfl, q1, q2, q3⟩
    exact ⟨_, S', rfl, Or.inr ⟨k', l, rfl, rfl, q1, h4⟩, q2, q3⟩
/-- a copy of a node: the part's array is shared, all else is new -/
def copiedPost (x : Int) (bs : List Nat) (val : Int) (has : Bool) (kk : Option KV) (pv : Value) (bo : Option Nat) (wm : World) (e : Ending) (w' : World) : Prop :=
  ∃ n kp Sk, e = .returned (.pointer (some ⟨n, 0, none⟩)) ∧ NdIs w' n x bs val has kk pv bo kp Sk ∧ Below wm.heap.size wm w' ∧ wm.heap.size ≤ n ∧ ∀ j, Sk j → wm.heap.size ≤ j
theorem nd_copy (h : NdIs wm n o bs val has kk pv bo kp Sk) (mv : Option Addr) (x : Int) (hm : Calls Try.prog 91 #[.pointer mv, .int .i64 1] w fun e w' => e = .returned (.tuple #[]) ∧ wm = w') : Calls Try.prog 21 #[.pointer (some ⟨n, 0, none⟩), .pointer mv, .int .u64 x] w (copiedPost x bs val has kk pv bo wm) := by
  have Hm := Lib.hid hm
  have c0 := h.c0
  have c1 := h.c1
  have c2 := h.c2
  have c3 := h.c3
  have c4 := h.c4
  have c5 : ∀ o, (wm.alloc o).cell? ⟨n, 4, none⟩ = some (.pointer kp) := fun o => (((Below.refl _ wm).alloc (Nat.le_refl _) o).cell (p := ⟨n, 4, none⟩) h.lt).trans c4
  obtain ⟨pa, pc, hpv⟩ := h.own.len
  subst hpv
  have hSlt : ∀ j, Sk j → j < wm.heap.size := fun j hj => by
    rcases h.kids with ⟨_, _, e⟩ | ⟨k, l, _, _, h3, _⟩
    · rw [e] at hj; exact hj.elim
    · exact h3.lt j hj
  have hc : Hid (∀ ob, Calls Try.prog 92 #[.pointer kp] (wm.alloc ob) fun e w' => ∃ kp' Sk', e = .returned (.pointer kp') ∧ KidsOf w' kp' kk Sk' ∧ Below (wm.alloc ob).heap.size (wm.alloc ob) w' ∧ ∀ j, Sk' j → (wm.alloc ob).heap.size ≤ j) := fun ob => ko_copy (h.kids.keep fun j hj => Below.heap_alloc _ _ _ (hSlt j hj))
  have fin : Hid (∀ w2 kp' Sk', KidsOf w2 kp' kk Sk' → Below (wm.heap.size + 1) (wm.alloc (.cells [.int .u64 x, .slice pa (bV bs).length pc, .int .u64 val, .bool has, .pointer kp].toArray ndT)) w2 → (∀ j, Sk' j → wm.heap.size + 1 ≤ j) → w2.cell? ⟨wm.heap.size, 4, none⟩ = some (.pointer kp) ∧ w2.frozen? ⟨wm.heap.size, 4, none⟩ = false ∧ Hid (copiedPost x bs val has kk (.slice pa (bV bs).length pc) bo wm (.returned (.pointer (some ⟨wm.heap.size, 0, none⟩))) (w2.setCell ⟨wm.heap.size, 4, none⟩ (.pointer kp')))) := fun w2 kp' Sk' h1 h2 h3 => by
    have hb1 := (h2.block wm.heap.size (by omega)).trans (heap_alloc_new wm _)
    have hB : Below wm.heap.size wm w2 := ((Below.refl _ wm).alloc (Nat.le_refl _) _).trans (h2.mono (by omega))
    have e3 : ∀ j, j ≠ wm.heap.size → (w2.setCell ⟨wm.heap.size, 4, none⟩ (.pointer kp')).heap[j]? = w2.heap[j]? := fun j hj => Below.heap_setCell _ _ _ _ hj
    refine ⟨by rw [cell_of_blk hb1]; rfl, frozen_of_blk hb1 4, wm.heap.size, kp', Sk', rfl, ⟨?_, h.own.keep fun g hg => ?_, h1.keep fun j hj => e3 j (by have := h3 j hj; omega), fun e => by have := h3 _ e; omega, fun g hg => ?_⟩, hB.setCell (p := ⟨wm.heap.size, 4, none⟩) (Nat.le_refl _) _, Nat.le_refl _, fun j hj => by have := h3 j hj; omega⟩
    · rw [setCell_list w2 wm.heap.size 4 _ ndT _ hb1, setRow_heap w2 _ _ _ _ _ hb1]; rfl
    · subst hg; have := h.own.lt; exact (e3 g (by omega)).trans (hB.block g this)
    · subst hg; have := h.own.lt; exact ⟨by omega, fun e => by have := h3 g e; omega⟩
  clear h hm hSlt
  go_enter Try.func21, Try.ntmps21
  go_wp2_with (first | (go_at_call 91; refine Hm.out.mono ?_; rintro e w' ⟨rfl, rfl⟩) | (go_at_call 92; refine (hc.out _).mono ?_; rintro e w2 ⟨kp', Sk', rfl, q1, q2, q3⟩; simp only [World.size_alloc] at q2 q3; obtain ⟨d1, d2, q⟩ := fin.out _ _ _ q1 q2 q3; clear q1 q2 q3))
  go_ret
  exact q.out
end
end Go.Proofs.Ytkonbldjmcccmaa
