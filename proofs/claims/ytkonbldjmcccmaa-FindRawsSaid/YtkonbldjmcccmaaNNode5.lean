/- Nodes: writes that are refused. -/
import Derived.Test.YtkonbldjmcccmaaNNode4
set_option linter.unusedVariables false
set_option linter.unusedSimpArgs false
namespace Go.Proofs.Ytkonbldjmcccmaa
open Go.RowKit
section
variable {w : World} {n : Nat} {o : Int} {bs : List Nat} {val : Int} {has : Bool} {kk : Option KV} {pv : Value} {bo : Option Nat} {kp : Option Addr} {Sk : Nat → Prop}
theorem nd_setpart_no (h : NdIs w n o bs val has kk pv bo kp Sk) (x : Int) (a : Option Addr) (m c : Nat) (h0 : x = 0 ∨ x ≠ o) : Calls Try.prog 24 #[.pointer (some ⟨n, 0, none⟩), .int .u64 x, .slice a m c] w fun e w' => e = .returned (.int .i64 11) ∧ w = w' := by
  have hm := Lib.hid (nd_may h x)
  have hR2 : Hid (mayE o x = 11) := by show _ = _; unfold mayE; rw [if_pos h0]
  clear h h0
  go_enter Try.func24, Try.ntmps24
  go_wp2_with (first | (go_at_call 93; refine hm.out.mono ?_; rintro e w' ⟨rfl, rfl⟩; rw [hR2.out]))
  go_ret
  exact ⟨rfl, rfl⟩
theorem nd_dropval_no (h : NdIs w n o bs val has kk pv bo kp Sk) (x : Int) (h0 : x = 0 ∨ x ≠ o) : Calls Try.prog 26 #[.pointer (some ⟨n, 0, none⟩), .int .u64 x] w fun e w' => e = .returned (.int .i64 11) ∧ w = w' := by
  have hm := Lib.hid (nd_inner h x)
  have hR2 : Hid (innE o x kk = 11) := by show _ = _; unfold innE; rw [if_pos h0]
  clear h h0
  go_enter Try.func26, Try.ntmps26
  go_wp2_with (first | (go_at_call 96; refine hm.out.mono ?_; rintro e w' ⟨rfl, rfl⟩; rw [hR2.out]))
  go_ret
  exact ⟨rfl, rfl⟩
theorem nd_setkid_no (h : NdIs w n o bs val has kk pv bo kp Sk) (x : Int) (b : Nat) (k : Option Addr) (h0 : x = 0 ∨ x ≠ o) : Calls Try.prog 27 #[.pointer (some ⟨n, 0, none⟩), .int .u64 x, .int .u8 b, .pointer k] w fun e w' => e = .returned (.int .i64 11) ∧ w = w' := by
  have hm := Lib.hid (nd_inner h x)
  have hR2 : Hid (innE o x kk = 11) := by show _ = _; unfold innE; rw [if_pos h0]
  clear h h0
  go_enter Try.func27, Try.ntmps27
  go_wp2_with (first | (go_at_call 96; refine hm.out.mono ?_; rintro e w' ⟨rfl, rfl⟩; rw [hR2.out]))
  go_ret
  exact ⟨rfl, rfl⟩
theorem nd_dropkid_no (h : NdIs w n o bs val has kk pv bo kp Sk) (x : Int) (b : Nat) (h0 : x = 0 ∨ x ≠ o) : Calls Try.prog 28 #[.pointer (some ⟨n, 0, none⟩), .int .u64 x, .int .u8 b] w fun e w' => e = .returned (.int .i64 11) ∧ w = w' := by
  have hm := Lib.hid (nd_inner h x)
  have hR2 : Hid (innE o x kk = 11) := by show _ = _; unfold innE; rw [if_pos h0]
  clear h h0
  go_enter Try.func28, Try.ntmps28
  go_wp2_with (first | (go_at_call 96; refine hm.out.mono ?_; rintro e w' ⟨rfl, rfl⟩; rw [hR2.out]))
  go_ret
  exact ⟨rfl, rfl⟩
end
end Go.Proofs.Ytkonbldjmcccmaa
