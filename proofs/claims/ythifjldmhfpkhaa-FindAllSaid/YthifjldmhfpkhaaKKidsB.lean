/- Kids that nobody made. -/
import Derived.Test.YthifjldmhfpkhaaKKidsD
set_option linter.unusedVariables false
set_option linter.unusedSimpArgs false
namespace Go.Proofs.Ythifjldmhfpkhaa
open Go.RowKit
namespace I
variable {w : World}
/-- kids that nobody made: nil, or with no cell filled -/
def Bare (w : World) (v : Option Addr) : Prop := v = none ∨ ∃ k o, v = some ⟨k, o, none⟩ ∧ w.cell? ⟨k, o, none⟩ = some (.pointer none) ∧ w.cell? ⟨k, o + 1, none⟩ = some (.pointer none)
theorem kok_no {v : Option Addr} (h : Bare w v) : Calls Try.prog 73 #[.pointer v] w fun e w' => e = .returned (.bool false) ∧ w = w' := by
  rcases h with rfl | ⟨k, o, rfl, h0, h1⟩
  · exact kok_nil w
  · exact kok_bare w k o h0 h1
theorem bare_len {v : Option Addr} (h : Bare w v) : Calls Try.prog 25 #[.pointer v] w fun e w' => e = .returned (.int .i64 0) ∧ w = w' := by
  have hok := Lib.hid (kok_no h)
  clear h
  go_enter Try.func25, Try.ntmps25
  go_wp2_with (go_at_call 73; refine hok.out.mono ?_; rintro e w' ⟨rfl, rfl⟩)
  go_ret
  exact ⟨rfl, rfl⟩
theorem bare_kind {v : Option Addr} (h : Bare w v) : Calls Try.prog 24 #[.pointer v] w fun e w' => e = .returned (.int .i64 0) ∧ w = w' := by
  have hok := Lib.hid (kok_no h)
  clear h
  go_enter Try.func24, Try.ntmps24
  go_wp2_with (go_at_call 73; refine hok.out.mono ?_; rintro e w' ⟨rfl, rfl⟩)
  go_ret
  exact ⟨rfl, rfl⟩
theorem bare_get {v : Option Addr} (h : Bare w v) (b : Nat) : Calls Try.prog 21 #[.pointer v, .int .u8 b] w fun e w' => e = .returned (.tuple #[(.int .i64 0), .bool false]) ∧ w = w' := by
  have hok := Lib.hid (kok_no h)
  clear h
  go_enter Try.func21, Try.ntmps21
  go_wp2_with (go_at_call 73; refine hok.out.mono ?_; rintro e w' ⟨rfl, rfl⟩)
  go_ret2
  exact ⟨rfl, rfl⟩
theorem bare_next {v : Option Addr} (h : Bare w v) (f : Int) : Calls Try.prog 23 #[.pointer v, .int .i64 f] w fun e w' => e = .returned (.tuple #[.int .u8 0, (.int .i64 0), .bool false]) ∧ w = w' := by
  have hok := Lib.hid (kok_no h)
  clear h
  go_enter Try.func23, Try.ntmps23
  go_wp2_with (go_at_call 73; refine hok.out.mono ?_; rintro e w' ⟨rfl, rfl⟩)
  go_ret3
  exact ⟨rfl, rfl⟩
theorem bare_prev {v : Option Addr} (h : Bare w v) (f : Int) : Calls Try.prog 31 #[.pointer v, .int .i64 f] w fun e w' => e = .returned (.tuple #[.int .u8 0, (.int .i64 0), .bool false]) ∧ w = w' := by
  have hok := Lib.hid (kok_no h)
  clear h
  go_enter Try.func31, Try.ntmps31
  go_wp2_with (go_at_call 73; refine hok.out.mono ?_; rintro e w' ⟨rfl, rfl⟩)
  go_ret3
  exact ⟨rfl, rfl⟩
theorem bare_drop {v : Option Addr} (h : Bare w v) (b : Nat) : Calls Try.prog 22 #[.pointer v, .int .u8 b] w fun e w' => e = .returned (.int .i64 2) ∧ w = w' := by
  have hok := Lib.hid (kok_no h)
  clear h
  go_enter Try.func22, Try.ntmps22
  go_wp2_with (go_at_call 73; refine hok.out.mono ?_; rintro e w' ⟨rfl, rfl⟩)
  go_ret
  exact ⟨rfl, rfl⟩
theorem bare_copy {v : Option Addr} (h : Bare w v) : Calls Try.prog 20 #[.pointer v] w fun e w' => e = .returned (.pointer none) ∧ w = w' := by
  have hok := Lib.hid (kok_no h)
  clear h
  go_enter Try.func20, Try.ntmps20
  go_wp2_with (go_at_call 73; refine hok.out.mono ?_; rintro e w' ⟨rfl, rfl⟩)
  go_ret
  exact ⟨rfl, rfl⟩
theorem bare_set {v : Option Addr} (h : Bare w v) (b : Nat) (x : Int) : Calls Try.prog 19 #[.pointer v, .int .u8 b, .int .i64 x] w fun e w' => e = .returned (.int .i64 2) ∧ w = w' := by
  have hok := Lib.hid (kok_no h)
  clear h
  go_enter Try.func19, Try.ntmps19
  go_wp2_with (go_at_call 73; refine hok.out.mono ?_; rintro e w' ⟨rfl, rfl⟩)
  go_ret
  exact ⟨rfl, rfl⟩
end I

namespace N
variable {w : World}
/-- kids that nobody made: nil, or with no cell filled -/
def Bare (w : World) (v : Option Addr) : Prop := v = none ∨ ∃ k o, v = some ⟨k, o, none⟩ ∧ w.cell? ⟨k, o, none⟩ = some (.pointer none) ∧ w.cell? ⟨k, o + 1, none⟩ = some (.pointer none)
theorem kok_no {v : Option Addr} (h : Bare w v) : Calls Try.prog 141 #[.pointer v] w fun e w' => e = .returned (.bool false) ∧ w = w' := by
  rcases h with rfl | ⟨k, o, rfl, h0, h1⟩
  · exact kok_nil w
  · exact kok_bare w k o h0 h1
theorem bare_len {v : Option Addr} (h : Bare w v) : Calls Try.prog 98 #[.pointer v] w fun e w' => e = .returned (.int .i64 0) ∧ w = w' := by
  have hok := Lib.hid (kok_no h)
  clear h
  go_enter Try.func98, Try.ntmps98
  go_wp2_with (go_at_call 141; refine hok.out.mono ?_; rintro e w' ⟨rfl, rfl⟩)
  go_ret
  exact ⟨rfl, rfl⟩
theorem bare_kind {v : Option Addr} (h : Bare w v) : Calls Try.prog 104 #[.pointer v] w fun e w' => e = .returned (.int .i64 0) ∧ w = w' := by
  have hok := Lib.hid (kok_no h)
  clear h
  go_enter Try.func104, Try.ntmps104
  go_wp2_with (go_at_call 141; refine hok.out.mono ?_; rintro e w' ⟨rfl, rfl⟩)
  go_ret
  exact ⟨rfl, rfl⟩
theorem bare_get {v : Option Addr} (h : Bare w v) (b : Nat) : Calls Try.prog 101 #[.pointer v, .int .u8 b] w fun e w' => e = .returned (.tuple #[(.pointer none), .bool false]) ∧ w = w' := by
  have hok := Lib.hid (kok_no h)
  clear h
  go_enter Try.func101, Try.ntmps101
  go_wp2_with (go_at_call 141; refine hok.out.mono ?_; rintro e w' ⟨rfl, rfl⟩)
  go_ret2
  exact ⟨rfl, rfl⟩
theorem bare_next {v : Option Addr} (h : Bare w v) (f : Int) : Calls Try.prog 127 #[.pointer v, .int .i64 f] w fun e w' => e = .returned (.tuple #[.int .u8 0, (.pointer none), .bool false]) ∧ w = w' := by
  have hok := Lib.hid (kok_no h)
  clear h
  go_enter Try.func127, Try.ntmps127
  go_wp2_with (go_at_call 141; refine hok.out.mono ?_; rintro e w' ⟨rfl, rfl⟩)
  go_ret3
  exact ⟨rfl, rfl⟩
theorem bare_prev {v : Option Addr} (h : Bare w v) (f : Int) : Calls Try.prog 128 #[.pointer v, .int .i64 f] w fun e w' => e = .returned (.tuple #[.int .u8 0, (.pointer none), .bool false]) ∧ w = w' := by
  have hok := Lib.hid (kok_no h)
  clear h
  go_enter Try.func128, Try.ntmps128
  go_wp2_with (go_at_call 141; refine hok.out.mono ?_; rintro e w' ⟨rfl, rfl⟩)
  go_ret3
  exact ⟨rfl, rfl⟩
theorem bare_drop {v : Option Addr} (h : Bare w v) (b : Nat) : Calls Try.prog 99 #[.pointer v, .int .u8 b] w fun e w' => e = .returned (.int .i64 2) ∧ w = w' := by
  have hok := Lib.hid (kok_no h)
  clear h
  go_enter Try.func99, Try.ntmps99
  go_wp2_with (go_at_call 141; refine hok.out.mono ?_; rintro e w' ⟨rfl, rfl⟩)
  go_ret
  exact ⟨rfl, rfl⟩
theorem bare_copy {v : Option Addr} (h : Bare w v) : Calls Try.prog 102 #[.pointer v] w fun e w' => e = .returned (.pointer none) ∧ w = w' := by
  have hok := Lib.hid (kok_no h)
  clear h
  go_enter Try.func102, Try.ntmps102
  go_wp2_with (go_at_call 141; refine hok.out.mono ?_; rintro e w' ⟨rfl, rfl⟩)
  go_ret
  exact ⟨rfl, rfl⟩
theorem bare_set {v : Option Addr} (h : Bare w v) (b : Nat) (x : (Option Addr)) : Calls Try.prog 97 #[.pointer v, .int .u8 b, .pointer x] w fun e w' => e = .returned (.int .i64 2) ∧ w = w' := by
  have hok := Lib.hid (kok_no h)
  clear h
  go_enter Try.func97, Try.ntmps97
  go_wp2_with (go_at_call 141; refine hok.out.mono ?_; rintro e w' ⟨rfl, rfl⟩)
  go_ret
  exact ⟨rfl, rfl⟩
end N
end Go.Proofs.Ythifjldmhfpkhaa
