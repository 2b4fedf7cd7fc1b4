/- Kids: Copy. -/
import Derived.Test.YtkonbldjmcccmaaKKidsD
set_option linter.unusedVariables false
set_option linter.unusedSimpArgs false
namespace Go.Proofs.Ytkonbldjmcccmaa
open Go.RowKit
namespace I
variable {w : World} {k rm rm' : Nat} {l : KV} {S : Nat → Prop}
def kcopyPost (rm : Nat) (l : KV) (w : World) (e : Ending) (w' : World) : Prop := ∃ k' S', e = .returned (.pointer (some ⟨k', 0, none⟩)) ∧ KdAt w' k' rm l S' ∧ Below w.heap.size w w' ∧ ∀ j, S' j → w.heap.size ≤ j
set_option maxHeartbeats 1000000 in
set_option maxRecDepth 100000 in
theorem kd_copy (h : KdAt w k rm l S) : Calls Try.prog 87 #[.pointer (some ⟨k, 0, none⟩)] w (kcopyPost rm l w) := by
  have hok := Lib.hid (kok_yes h)
  have hk0 : k < w.heap.size := h.lt k h.self
  rcases h with ⟨r, hk, hr, hne, rfl⟩ | ⟨r, S', hk, hr, hne, rfl⟩
  · obtain ⟨c0, c1⟩ := cells2 hk
    have hx : Hid (Calls Try.prog 144 #[.pointer (some ⟨r, 0, none⟩)] w.drew (copyPost rm l w.drew)) := by
      obtain ⟨B, X, hr⟩ := hr
      exact row_copy (w := w.drew) (hr.keep rfl)
    have hn : ∀ w, Hid (Calls Try.prog 145 #[.pointer none] w fun e w' => e = .returned (.pointer none) ∧ w = w') := fun w => bd_copy_nil w
    have F : Hid (∀ w1, RowAt rowT w1 w.heap.size rm l ∧ Below w.heap.size w.drew w1 → w1.cell? ⟨k, 1, none⟩ = some (.pointer none) ∧ Hid (kcopyPost rm l w (.returned (.pointer (some ⟨w1.heap.size, 0, none⟩))) (w1.alloc (.cells #[.pointer (some ⟨w.heap.size, 0, none⟩), .pointer none] kdT)))) := fun w1 q => by
      obtain ⟨q1, q2⟩ := q
      refine ⟨(q2.cell (p := ⟨k, 1, none⟩) hk0).trans c1, w1.heap.size, _, rfl, Or.inl ⟨w.heap.size, heap_alloc_new _ _, q1.keep (Below.heap_alloc _ _ _ q1.lt), Nat.ne_of_lt q1.lt, rfl⟩, ?_, ?_⟩
      · have q2' : Below w.heap.size w w1 := ⟨q2.os, q2.tape, q2.output, q2.size, q2.block⟩
        exact q2'.alloc q2'.size _
      · have h9 : w.heap.size ≤ w1.heap.size := q2.size
        rintro j (rfl | rfl) <;> omega
    clear hk hr hk0
    go_enter Try.func87, Try.ntmps87
    go_wp2_with (go_at_call 133; refine hok.out.mono ?_; rintro e w' ⟨rfl, rfl⟩)
    go_region_with (first | (go_at_call 144; go_loud (refine hx.out.mono ?_); rintro e w1 ⟨rfl, q⟩; obtain ⟨d1, q⟩ := F.out w1 q) | (go_at_call 145; go_loud (refine (hn _).out.mono ?_); rintro e w2 ⟨rfl, rfl⟩))
    all_goals
      go_wp2_with fail
      go_ret
      exact q.out
  · obtain ⟨c0, c1⟩ := cells2 hk
    have hx : Hid (Calls Try.prog 145 #[.pointer (some ⟨r, 0, none⟩)] w.drew (bcopyPost rm l w.drew)) := by
      obtain ⟨p, vx, xs, bx, vf, fs, bf, h, rfl⟩ := hr
      exact bd_copy (w := w.drew) (h.keep fun _ _ => rfl)
    have hn : ∀ w, Hid (Calls Try.prog 144 #[.pointer none] w fun e w' => e = .returned (.pointer none) ∧ w = w') := fun w => row_copy_nil w
    have F : Hid (∀ w1, (∃ S, BdAt bdT elT u16T w1 w.heap.size rm l S ∧ Below w.heap.size w.drew w1 ∧ ∀ k, S k → w.heap.size ≤ k) → Hid (kcopyPost rm l w (.returned (.pointer (some ⟨w1.heap.size, 0, none⟩))) (w1.alloc (.cells #[.pointer none, .pointer (some ⟨w.heap.size, 0, none⟩)] kdT)))) := fun w1 q => by
      obtain ⟨S1, q1, q2, q3⟩ := q
      refine ⟨w1.heap.size, _, rfl, Or.inr ⟨w.heap.size, S1, heap_alloc_new _ _, q1.keep (fun j hj => Below.heap_alloc _ _ _ (q1.lt j hj)), fun e => by have := q1.lt _ e; omega, rfl⟩, ?_, ?_⟩
      · have q2' : Below w.heap.size w w1 := ⟨q2.os, q2.tape, q2.output, q2.size, q2.block⟩
        exact q2'.alloc q2'.size _
      · have h9 : w.heap.size ≤ w1.heap.size := q2.size
        rintro j (rfl | hj)
        · omega
        · exact q3 j hj
    clear hk hr hk0
    go_enter Try.func87, Try.ntmps87
    go_wp2_with (go_at_call 133; refine hok.out.mono ?_; rintro e w' ⟨rfl, rfl⟩)
    go_region_with (first | (go_at_call 144; go_loud (refine (hn _).out.mono ?_); rintro e w2 ⟨rfl, rfl⟩) | (go_at_call 145; go_loud (refine hx.out.mono ?_); rintro e w1 ⟨rfl, q⟩; have q := F.out w1 q))
    all_goals
      go_wp2_with fail
      go_ret
      exact q.out
end I

namespace N
variable {w : World} {k rm rm' : Nat} {l : KV} {S : Nat → Prop}
def kcopyPost (rm : Nat) (l : KV) (w : World) (e : Ending) (w' : World) : Prop := ∃ k' S', e = .returned (.pointer (some ⟨k', 0, none⟩)) ∧ KdAt w' k' rm l S' ∧ Below w.heap.size w w' ∧ ∀ j, S' j → w.heap.size ≤ j
set_option maxHeartbeats 1000000 in
set_option maxRecDepth 100000 in
theorem kd_copy (h : KdAt w k rm l S) : Calls Try.prog 92 #[.pointer (some ⟨k, 0, none⟩)] w (kcopyPost rm l w) := by
  have hok := Lib.hid (kok_yes h)
  have hk0 : k < w.heap.size := h.lt k h.self
  rcases h with ⟨r, hk, hr, hne, rfl⟩ | ⟨r, S', hk, hr, hne, rfl⟩
  · obtain ⟨c0, c1⟩ := cells2 hk
    have hx : Hid (Calls Try.prog 154 #[.pointer (some ⟨r, 0, none⟩)] w.drew (copyPost rm l w.drew)) := by
      obtain ⟨B, X, hr⟩ := hr
      exact row_copy (w := w.drew) (hr.keep rfl)
    have hn : ∀ w, Hid (Calls Try.prog 155 #[.pointer none] w fun e w' => e = .returned (.pointer none) ∧ w = w') := fun w => bd_copy_nil w
    have F : Hid (∀ w1, RowAt rowT w1 w.heap.size rm l ∧ Below w.heap.size w.drew w1 → w1.cell? ⟨k, 1, none⟩ = some (.pointer none) ∧ Hid (kcopyPost rm l w (.returned (.pointer (some ⟨w1.heap.size, 0, none⟩))) (w1.alloc (.cells #[.pointer (some ⟨w.heap.size, 0, none⟩), .pointer none] kdT)))) := fun w1 q => by
      obtain ⟨q1, q2⟩ := q
      refine ⟨(q2.cell (p := ⟨k, 1, none⟩) hk0).trans c1, w1.heap.size, _, rfl, Or.inl ⟨w.heap.size, heap_alloc_new _ _, q1.keep (Below.heap_alloc _ _ _ q1.lt), Nat.ne_of_lt q1.lt, rfl⟩, ?_, ?_⟩
      · have q2' : Below w.heap.size w w1 := ⟨q2.os, q2.tape, q2.output, q2.size, q2.block⟩
        exact q2'.alloc q2'.size _
      · have h9 : w.heap.size ≤ w1.heap.size := q2.size
        rintro j (rfl | rfl) <;> omega
    clear hk hr hk0
    go_enter Try.func92, Try.ntmps92
    go_wp2_with (go_at_call 146; refine hok.out.mono ?_; rintro e w' ⟨rfl, rfl⟩)
    go_region_with (first | (go_at_call 154; go_loud (refine hx.out.mono ?_); rintro e w1 ⟨rfl, q⟩; obtain ⟨d1, q⟩ := F.out w1 q) | (go_at_call 155; go_loud (refine (hn _).out.mono ?_); rintro e w2 ⟨rfl, rfl⟩))
    all_goals
      go_wp2_with fail
      go_ret
      exact q.out
  · obtain ⟨c0, c1⟩ := cells2 hk
    have hx : Hid (Calls Try.prog 155 #[.pointer (some ⟨r, 0, none⟩)] w.drew (bcopyPost rm l w.drew)) := by
      obtain ⟨p, vx, xs, bx, vf, fs, bf, h, rfl⟩ := hr
      exact bd_copy (w := w.drew) (h.keep fun _ _ => rfl)
    have hn : ∀ w, Hid (Calls Try.prog 154 #[.pointer none] w fun e w' => e = .returned (.pointer none) ∧ w = w') := fun w => row_copy_nil w
    have F : Hid (∀ w1, (∃ S, BdAt bdT elT u16T w1 w.heap.size rm l S ∧ Below w.heap.size w.drew w1 ∧ ∀ k, S k → w.heap.size ≤ k) → Hid (kcopyPost rm l w (.returned (.pointer (some ⟨w1.heap.size, 0, none⟩))) (w1.alloc (.cells #[.pointer none, .pointer (some ⟨w.heap.size, 0, none⟩)] kdT)))) := fun w1 q => by
      obtain ⟨S1, q1, q2, q3⟩ := q
      refine ⟨w1.heap.size, _, rfl, Or.inr ⟨w.heap.size, S1, heap_alloc_new _ _, q1.keep (fun j hj => Below.heap_alloc _ _ _ (q1.lt j hj)), fun e => by have := q1.lt _ e; omega, rfl⟩, ?_, ?_⟩
      · have q2' : Below w.heap.size w w1 := ⟨q2.os, q2.tape, q2.output, q2.size, q2.block⟩
        exact q2'.alloc q2'.size _
      · have h9 : w.heap.size ≤ w1.heap.size := q2.size
        rintro j (rfl | hj)
        · omega
        · exact q3 j hj
    clear hk hr hk0
    go_enter Try.func92, Try.ntmps92
    go_wp2_with (go_at_call 146; refine hok.out.mono ?_; rintro e w' ⟨rfl, rfl⟩)
    go_region_with (first | (go_at_call 154; go_loud (refine (hn _).out.mono ?_); rintro e w2 ⟨rfl, rfl⟩) | (go_at_call 155; go_loud (refine hx.out.mono ?_); rintro e w1 ⟨rfl, q⟩; have q := F.out w1 q))
    all_goals
      go_wp2_with fail
      go_ret
      exact q.out
end N
end Go.Proofs.Ytkonbldjmcccmaa
