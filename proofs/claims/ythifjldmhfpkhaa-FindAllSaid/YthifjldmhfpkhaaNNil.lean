/- A nil node: what it answers. -/
import Derived.Test.YthifjldmhfpkhaaNMeter
set_option linter.unusedVariables false
set_option linter.unusedSimpArgs false
namespace Go.Proofs.Ythifjldmhfpkhaa
open Go.RowKit
theorem nn_may (o : Int) (w : World) : Calls Try.prog 95 #[.pointer none, .int .u64 o] w fun e w' => e = .returned (.int .i64 2) ∧ w = w' := by
  go_enter Try.func95, Try.ntmps95
  go_wp2_with fail
  go_ret
  exact ⟨rfl, rfl⟩
theorem nn_inner (o : Int) (w : World) : Calls Try.prog 96 #[.pointer none, .int .u64 o] w fun e w' => e = .returned (.int .i64 2) ∧ w = w' := by
  go_enter Try.func96, Try.ntmps96
  go_wp2_with (go_at_call 95; refine (nn_may _ _).mono ?_; rintro e w' ⟨rfl, rfl⟩)
  go_ret
  exact ⟨rfl, rfl⟩
theorem nn_val (w : World) : Calls Try.prog 37 #[.pointer none] w fun e w' => e = .returned (.tuple #[.int .u64 0, .bool false]) ∧ w = w' := by
  go_enter Try.func37, Try.ntmps37
  go_wp2_with fail
  go_ret2
  exact ⟨rfl, rfl⟩
theorem nn_owner (w : World) : Calls Try.prog 44 #[.pointer none] w fun e w' => e = .returned (.int .u64 0) ∧ w = w' := by
  go_enter Try.func44, Try.ntmps44
  go_wp2_with fail
  go_ret
  exact ⟨rfl, rfl⟩
theorem nn_part (w : World) : Calls Try.prog 43 #[.pointer none] w fun e w' => e = .returned (.slice none 0 0) ∧ w = w' := by
  go_enter Try.func43, Try.ntmps43
  go_wp2_with fail
  go_ret
  exact ⟨rfl, rfl⟩
theorem nn_len (w : World) : Calls Try.prog 38 #[.pointer none] w fun e w' => e = .returned (.int .i64 0) ∧ w = w' := by
  go_enter Try.func38, Try.ntmps38
  go_wp2_with fail
  go_ret
  exact ⟨rfl, rfl⟩
theorem nn_kind (w : World) : Calls Try.prog 47 #[.pointer none] w fun e w' => e = .returned (.int .i64 0) ∧ w = w' := by
  go_enter Try.func47, Try.ntmps47
  go_wp2_with fail
  go_ret
  exact ⟨rfl, rfl⟩
theorem nn_occ (w : World) : Calls Try.prog 71 #[.pointer none] w fun e w' => e = .returned (.int .i64 0) ∧ w = w' := by
  go_enter Try.func71, Try.ntmps71
  go_wp2_with (go_at_call 38; refine (nn_len _).mono ?_; rintro e w' ⟨rfl, rfl⟩)
  go_ret
  exact ⟨rfl, rfl⟩
theorem nn_kid (b : Int) (w : World) : Calls Try.prog 45 #[.pointer none, .int .u8 b] w fun e w' => e = .returned (.pointer none) ∧ w = w' := by
  go_enter Try.func45, Try.ntmps45
  go_wp2_with fail
  go_ret
  exact ⟨rfl, rfl⟩
theorem nn_next (f : Int) (w : World) : Calls Try.prog 68 #[.pointer none, .int .i64 f] w fun e w' => e = .returned (.tuple #[.int .u8 0, .pointer none]) ∧ w = w' := by
  go_enter Try.func68, Try.ntmps68
  go_wp2_with fail
  go_ret2
  exact ⟨rfl, rfl⟩
theorem nn_prev (f : Int) (w : World) : Calls Try.prog 69 #[.pointer none, .int .i64 f] w fun e w' => e = .returned (.tuple #[.int .u8 0, .pointer none]) ∧ w = w' := by
  go_enter Try.func69, Try.ntmps69
  go_wp2_with fail
  go_ret2
  exact ⟨rfl, rfl⟩
theorem nn_copy (m : Option Addr) (o : Int) (w : World) : Calls Try.prog 46 #[.pointer none, .pointer m, .int .u64 o] w fun e w' => e = .returned (.pointer none) ∧ w = w' := by
  go_enter Try.func46, Try.ntmps46
  go_wp2_with fail
  go_ret
  exact ⟨rfl, rfl⟩
theorem nn_own (m : Option Addr) (o : Int) (w : World) : Calls Try.prog 70 #[.pointer none, .pointer m, .int .u64 o] w fun e w' => e = .returned (.pointer none) ∧ w = w' := by
  go_enter Try.func70, Try.ntmps70
  go_wp2_with (first | (go_at_call 95; refine (nn_may _ _).mono ?_; rintro e w' ⟨rfl, rfl⟩) | (go_at_call 46; refine (nn_copy _ _ _).mono ?_; rintro e w' ⟨rfl, rfl⟩))
  go_ret
  exact ⟨rfl, rfl⟩
theorem nn_setpart (o : Int) (a : Option Addr) (n c : Nat) (w : World) : Calls Try.prog 39 #[.pointer none, .int .u64 o, .slice a n c] w fun e w' => e = .returned (.int .i64 2) ∧ w = w' := by
  go_enter Try.func39, Try.ntmps39
  go_wp2_with (go_at_call 95; refine (nn_may _ _).mono ?_; rintro e w' ⟨rfl, rfl⟩)
  go_ret
  exact ⟨rfl, rfl⟩
theorem nn_setval (o v : Int) (w : World) : Calls Try.prog 34 #[.pointer none, .int .u64 o, .int .u64 v] w fun e w' => e = .returned (.int .i64 2) ∧ w = w' := by
  go_enter Try.func34, Try.ntmps34
  go_wp2_with (go_at_call 95; refine (nn_may _ _).mono ?_; rintro e w' ⟨rfl, rfl⟩)
  go_ret
  exact ⟨rfl, rfl⟩
theorem nn_dropval (o : Int) (w : World) : Calls Try.prog 40 #[.pointer none, .int .u64 o] w fun e w' => e = .returned (.int .i64 2) ∧ w = w' := by
  go_enter Try.func40, Try.ntmps40
  go_wp2_with (go_at_call 96; refine (nn_inner _ _).mono ?_; rintro e w' ⟨rfl, rfl⟩)
  go_ret
  exact ⟨rfl, rfl⟩
theorem nn_setkid (o : Int) (b : Int) (k : Option Addr) (w : World) : Calls Try.prog 35 #[.pointer none, .int .u64 o, .int .u8 b, .pointer k] w fun e w' => e = .returned (.int .i64 2) ∧ w = w' := by
  go_enter Try.func35, Try.ntmps35
  go_wp2_with (go_at_call 96; refine (nn_inner _ _).mono ?_; rintro e w' ⟨rfl, rfl⟩)
  go_ret
  exact ⟨rfl, rfl⟩
theorem nn_dropkid (o : Int) (b : Int) (w : World) : Calls Try.prog 41 #[.pointer none, .int .u64 o, .int .u8 b] w fun e w' => e = .returned (.int .i64 2) ∧ w = w' := by
  go_enter Try.func41, Try.ntmps41
  go_wp2_with (go_at_call 96; refine (nn_inner _ _).mono ?_; rintro e w' ⟨rfl, rfl⟩)
  go_ret
  exact ⟨rfl, rfl⟩
end Go.Proofs.Ythifjldmhfpkhaa
