/- The statement NodeNobody: its walk. -/
import Derived.Test.YthifjldmhfpkhaaNAlive
set_option linter.unusedVariables false
set_option linter.unusedSimpArgs false
namespace Go.Proofs.Ythifjldmhfpkhaa
open Go.RowKit
set_option maxHeartbeats 1000000 in
theorem NodeNobody_any (o : Int) (a : Option Addr) (n c : Nat) (f : Int) (w : World) : Calls Try.prog 14 #[.int .u64 o, .slice a n c, .int .i64 f] w (LawPost w) := by
  have hal := Lib.hid (fun w => aliveN_any w)
  have hcnt : Hid (Calls Try.prog 67 #[.pointer (some ⟨w.heap.size, 0, none⟩)] (w.alloc (.cells #[.int .i64 0] 116)) fun e w' => e = .returned (.int .i64 0) ∧ w.alloc (.cells #[.int .i64 0] 116) = w') := count_is _ _ 0 0 (Met.cell (heap_alloc_new _ _))
  have lawEnd : Hid (∀ w1 w', w1 = w.alloc (.cells #[.int .i64 0] 116) → Below w1.heap.size w1 w' → Below w.heap.size w w') := fun w1 w' e q => by
    subst e
    exact ((Below.refl _ w).alloc (Nat.le_refl _) _).trans (q.mono (by simp))
  go_enter Try.func14, Try.ntmps14
  go_wp2_with (first | (go_at_call 37; refine (nn_val _).mono ?_; rintro e w' ⟨rfl, rfl⟩) | (go_at_call 68; refine (nn_next _ _).mono ?_; rintro e w' ⟨rfl, rfl⟩) | (go_at_call 69; refine (nn_prev _ _).mono ?_; rintro e w' ⟨rfl, rfl⟩) | (go_at_call 45; refine (nn_kid _ _).mono ?_; rintro e w' ⟨rfl, rfl⟩) | (go_at_call 46; refine (nn_copy _ _ _).mono ?_; rintro e w' ⟨rfl, rfl⟩) | (go_at_call 70; refine (nn_own _ _ _).mono ?_; rintro e w' ⟨rfl, rfl⟩) | (go_at_call 67; refine hcnt.out.mono ?_; rintro e w' ⟨rfl, rfl⟩) | (go_at_call 39; refine (nn_setpart _ _ _ _ _).mono ?_; rintro e w' ⟨rfl, rfl⟩) | (go_at_call 34; refine (nn_setval _ _ _).mono ?_; rintro e w' ⟨rfl, rfl⟩) | (go_at_call 40; refine (nn_dropval _ _).mono ?_; rintro e w' ⟨rfl, rfl⟩) | (go_at_call 35; refine (nn_setkid _ _ _ _).mono ?_; rintro e w' ⟨rfl, rfl⟩) | (go_at_call 41; refine (nn_dropkid _ _ _).mono ?_; rintro e w' ⟨rfl, rfl⟩) | (go_at_call 47; refine (nn_kind _).mono ?_; rintro e w' ⟨rfl, rfl⟩) | (go_at_call 38; refine (nn_len _).mono ?_; rintro e w' ⟨rfl, rfl⟩) | (go_at_call 71; refine (nn_occ _).mono ?_; rintro e w' ⟨rfl, rfl⟩) | (go_at_call 43; refine (nn_part _).mono ?_; rintro e w' ⟨rfl, rfl⟩) | (go_at_call 44; refine (nn_owner _).mono ?_; rintro e w' ⟨rfl, rfl⟩) | (go_at_call 36; refine (hal.out _).mono ?_; rintro e w' ⟨rfl, q⟩; have q := Lib.hid (lawEnd.out _ _ rfl q)))
  go_ret
  exact ⟨rfl, q.out⟩
end Go.Proofs.Ythifjldmhfpkhaa
