/- The statement KidsNobody: its walk. -/
import Derived.Test.YthifjldmhfpkhaaKAlive
set_option linter.unusedVariables false
set_option linter.unusedSimpArgs false
namespace Go.Proofs.Ythifjldmhfpkhaa
open Go.RowKit
set_option maxHeartbeats 1000000 in
theorem KidsNobody_any (b : Nat) (hb : b < 256) (f : Int) (w : World) : Calls Try.prog 6 #[.int .u8 b, .int .i64 f] w (LawPost w) := by
  have hal := Lib.hid (fun w => alive_any w)
  have B1 : ∀ w, Hid (I.Bare w none) := fun w => Or.inl rfl
  obtain ⟨w1, hw1⟩ : ∃ w1, Hid (w1 = (w.alloc (.cells #[.pointer none, .pointer none] 55)).alloc (.cells #[.pointer none, .pointer (some ⟨w.heap.size, 0, none⟩)] 27)) := ⟨_, rfl⟩
  have e1 : w1.heap[w.heap.size]? = some (.cells #[.pointer none, .pointer none] 55 (0, 0)) := by
    rw [hw1.out, Below.heap_alloc _ _ _ (by simp), heap_alloc_new]
  have e2 : w1.heap[w.heap.size + 1]? = some (.cells #[.pointer none, .pointer (some ⟨w.heap.size, 0, none⟩)] 27 (0, 0)) := by
    rw [hw1.out]
    have := heap_alloc_new (w.alloc (.cells #[.pointer none, .pointer none] 55)) (.cells #[.pointer none, .pointer (some ⟨w.heap.size, 0, none⟩)] 27)
    rw [World.size_alloc] at this
    exact this
  have B2 : Hid (I.Bare w1 (some ⟨w.heap.size, 0, none⟩)) := Or.inr ⟨_, _, rfl, (cells2 e1).1, (cells2 e1).2⟩
  obtain ⟨c0, c1⟩ := cells2 e2
  clear e1 e2
  have lawEnd : Hid (∀ w', Below w1.heap.size w1 w' → Below w.heap.size w w') := fun w' q => by
    rw [hw1.out] at q
    exact (((Below.refl _ w).alloc (Nat.le_refl _) _).alloc (by simp) _).trans (q.mono (by simp; omega))
  go_enter Try.func6, Try.ntmps6
  go_wp2_with fail
  rw [show (w.alloc (.cells #[.pointer none, .pointer none] 55)).alloc (.cells #[.pointer none, .pointer (some ⟨w.heap.size, 0, none⟩)] 27) = w1 from hw1.out.symm]
  go_loop [19] (fun vi => ∃ j : Nat, vi = .int .i64 (j : Nat) ∧ j ≤ 2) (fun vi => (2 - intOf vi).toNat)
  case atStart => exact ⟨0, rfl, by omega⟩
  case round =>
    obtain ⟨j, rfl, hj⟩ := hrel
    have hj4 : j = 0 ∨ j = 1 ∨ j = 2 := by omega
    clear hj
    rcases hj4 with rfl | rfl | rfl
    · go_wp2_with (first | (go_at_call 21; refine (I.bare_get (B1 _).out b).mono ?_; rintro e w' ⟨rfl, rfl⟩) | (go_at_call 23; refine (I.bare_next (B1 _).out f).mono ?_; rintro e w' ⟨rfl, rfl⟩) | (go_at_call 31; refine (I.bare_prev (B1 _).out f).mono ?_; rintro e w' ⟨rfl, rfl⟩) | (go_at_call 19; refine (I.bare_set (B1 _).out b 1).mono ?_; rintro e w' ⟨rfl, rfl⟩) | (go_at_call 22; refine (I.bare_drop (B1 _).out b).mono ?_; rintro e w' ⟨rfl, rfl⟩) | (go_at_call 25; refine (I.bare_len (B1 _).out).mono ?_; rintro e w' ⟨rfl, rfl⟩) | (go_at_call 24; refine (I.bare_kind (B1 _).out).mono ?_; rintro e w' ⟨rfl, rfl⟩) | (go_at_call 20; refine (I.bare_copy (B1 _).out).mono ?_; rintro e w' ⟨rfl, rfl⟩))
      go_round
      case rel => exact ⟨1, rfl, by omega⟩
      case measure => simp [intOf]
    · go_wp2_with (first | (go_at_call 21; refine (I.bare_get B2.out b).mono ?_; rintro e w' ⟨rfl, rfl⟩) | (go_at_call 23; refine (I.bare_next B2.out f).mono ?_; rintro e w' ⟨rfl, rfl⟩) | (go_at_call 31; refine (I.bare_prev B2.out f).mono ?_; rintro e w' ⟨rfl, rfl⟩) | (go_at_call 19; refine (I.bare_set B2.out b 1).mono ?_; rintro e w' ⟨rfl, rfl⟩) | (go_at_call 22; refine (I.bare_drop B2.out b).mono ?_; rintro e w' ⟨rfl, rfl⟩) | (go_at_call 25; refine (I.bare_len B2.out).mono ?_; rintro e w' ⟨rfl, rfl⟩) | (go_at_call 24; refine (I.bare_kind B2.out).mono ?_; rintro e w' ⟨rfl, rfl⟩) | (go_at_call 20; refine (I.bare_copy B2.out).mono ?_; rintro e w' ⟨rfl, rfl⟩))
      go_round
      case rel => exact ⟨2, rfl, by omega⟩
      case measure => simp [intOf]
    · go_wp2_with (first | (go_at_call 17; refine (hal.out _).mono ?_; rintro e w' ⟨rfl, q⟩; have q := Lib.hid q))
      go_ret
      exact ⟨rfl, lawEnd.out _ q.out⟩
end Go.Proofs.Ythifjldmhfpkhaa
