/- Kids that nobody made. -/
import Derived.Test.YtkonbldjmcccmaaKKidsD
set_option linter.unusedVariables false
set_option linter.unusedSimpArgs false
namespace Go.Proofs.Ytkonbldjmcccmaa
open Go.RowKit
namespace I
variable {w : World}
/-- kids that nobody made: nil, or with no cell filled -/
def Bare (w : World) (v : Option Addr) : Prop := v = none ∨ ∃ k o, v = some ⟨k, o, none⟩ ∧ w.cell? ⟨k, o, none⟩ = some (.pointer none) ∧ w.cell? ⟨k, o + 1, none⟩ = some (.pointer none)
theorem kok_no {v : Option Addr} (h : Bare w v) : Calls Try.prog 133 #[.pointer v] w fun e w' => e = .returned (.bool false) ∧ w = w' := by
  rcases h with rfl | ⟨k, o, rfl, h0, h1⟩
  · exact kok_nil w
  · exact kok_bare w k o h0 h1
theorem bare_len {v : Option Addr} (h : Bare w v) : Calls Try.prog 86 #[.pointer v] w fun e w' => e = .returned (.int .i64 0) ∧ w = w' := by
  have hok := Lib.hid (kok_no h)
  clear h
  go_enter Try.func86, Try.ntmps86
  go_wp2_with (go_at_call 133; refine hok.out.mono ?_; rintro e w' ⟨rfl, rfl⟩)
  go_ret
  exact ⟨rfl, rfl⟩
theorem bare_kind {v : Option Addr} (h : Bare w v) : Calls Try.prog 82 #[.pointer v] w fun e w' => e = .returned (.int .i64 0) ∧ w = w' := by
  have hok := Lib.hid (kok_no h)
  clear h
  go_enter Try.func82, Try.ntmps82
  go_wp2_with (go_at_call 133; refine hok.out.mono ?_; rintro e w' ⟨rfl, rfl⟩)
  go_ret
  exact ⟨rfl, rfl⟩
theorem bare_get {v : Option Addr} (h : Bare w v) (b : Nat) : Calls Try.prog 84 #[.pointer v, .int .u8 b] w fun e w' => e = .returned (.tuple #[(.int .i64 0), .bool false]) ∧ w = w' := by
  have hok := Lib.hid (kok_no h)
  clear h
  go_enter Try.func84, Try.ntmps84
  go_wp2_with (go_at_call 133; refine hok.out.mono ?_; rintro e w' ⟨rfl, rfl⟩)
  go_ret2
  exact ⟨rfl, rfl⟩
theorem bare_next {v : Option Addr} (h : Bare w v) (f : Int) : Calls Try.prog 185 #[.pointer v, .int .i64 f] w fun e w' => e = .returned (.tuple #[.int .u8 0, (.int .i64 0), .bool false]) ∧ w = w' := by
  have hok := Lib.hid (kok_no h)
  clear h
  go_enter Try.func185, Try.ntmps185
  go_wp2_with (go_at_call 133; refine hok.out.mono ?_; rintro e w' ⟨rfl, rfl⟩)
  go_ret3
  exact ⟨rfl, rfl⟩
theorem bare_drop {v : Option Addr} (h : Bare w v) (b : Nat) : Calls Try.prog 85 #[.pointer v, .int .u8 b] w fun e w' => e = .returned (.int .i64 2) ∧ w = w' := by
  have hok := Lib.hid (kok_no h)
  clear h
  go_enter Try.func85, Try.ntmps85
  go_wp2_with (go_at_call 133; refine hok.out.mono ?_; rintro e w' ⟨rfl, rfl⟩)
  go_ret
  exact ⟨rfl, rfl⟩
theorem bare_copy {v : Option Addr} (h : Bare w v) : Calls Try.prog 87 #[.pointer v] w fun e w' => e = .returned (.pointer none) ∧ w = w' := by
  have hok := Lib.hid (kok_no h)
  clear h
  go_enter Try.func87, Try.ntmps87
  go_wp2_with (go_at_call 133; refine hok.out.mono ?_; rintro e w' ⟨rfl, rfl⟩)
  go_ret
  exact ⟨rfl, rfl⟩
theorem bare_set {v : Option Addr} (h : Bare w v) (b : Nat) (x : Int) : Calls Try.prog 83 #[.pointer v, .int .u8 b, .int .i64 x] w fun e w' => e = .returned (.int .i64 2) ∧ w = w' := by
  have hok := Lib.hid (kok_no h)
  clear h
  go_enter Try.func83, Try.ntmps83
  go_wp2_with (go_at_call 133; refine hok.out.mono ?_; rintro e w' ⟨rfl, rfl⟩)
  go_ret
  exact ⟨rfl, rfl⟩
end I

namespace N
variable {w : World}
/-- kids that nobody made: nil, or with no cell filled -/
def Bare (w : World) (v : Option Addr) : Prop := v = none ∨ ∃ k o, v = some ⟨k, o, none⟩ ∧ w.cell? ⟨k, o, none⟩ = some (.pointer none) ∧ w.cell? ⟨k, o + 1, none⟩ = some (.pointer none)
theorem kok_no {v : Option Addr} (h : Bare w v) : Calls Try.prog 146 #[.pointer v] w fun e w' => e = .returned (.bool false) ∧ w = w' := by
  rcases h with rfl | ⟨k, o, rfl, h0, h1⟩
  · exact kok_nil w
  · exact kok_bare w k o h0 h1
theorem bare_len {v : Option Addr} (h : Bare w v) : Calls Try.prog 101 #[.pointer v] w fun e w' => e = .returned (.int .i64 0) ∧ w = w' := by
  have hok := Lib.hid (kok_no h)
  clear h
  go_enter Try.func101, Try.ntmps101
  go_wp2_with (go_at_call 146; refine hok.out.mono ?_; rintro e w' ⟨rfl, rfl⟩)
  go_ret
  exact ⟨rfl, rfl⟩
theorem bare_kind {v : Option Addr} (h : Bare w v) : Calls Try.prog 100 #[.pointer v] w fun e w' => e = .returned (.int .i64 0) ∧ w = w' := by
  have hok := Lib.hid (kok_no h)
  clear h
  go_enter Try.func100, Try.ntmps100
  go_wp2_with (go_at_call 146; refine hok.out.mono ?_; rintro e w' ⟨rfl, rfl⟩)
  go_ret
  exact ⟨rfl, rfl⟩
theorem bare_get {v : Option Addr} (h : Bare w v) (b : Nat) : Calls Try.prog 90 #[.pointer v, .int .u8 b] w fun e w' => e = .returned (.tuple #[(.pointer none), .bool false]) ∧ w = w' := by
  have hok := Lib.hid (kok_no h)
  clear h
  go_enter Try.func90, Try.ntmps90
  go_wp2_with (go_at_call 146; refine hok.out.mono ?_; rintro e w' ⟨rfl, rfl⟩)
  go_ret2
  exact ⟨rfl, rfl⟩
theorem bare_next {v : Option Addr} (h : Bare w v) (f : Int) : Calls Try.prog 88 #[.pointer v, .int .i64 f] w fun e w' => e = .returned (.tuple #[.int .u8 0, (.pointer none), .bool false]) ∧ w = w' := by
  have hok := Lib.hid (kok_no h)
  clear h
  go_enter Try.func88, Try.ntmps88
  go_wp2_with (go_at_call 146; refine hok.out.mono ?_; rintro e w' ⟨rfl, rfl⟩)
  go_ret3
  exact ⟨rfl, rfl⟩
theorem bare_prev {v : Option Addr} (h : Bare w v) (f : Int) : Calls Try.prog 89 #[.pointer v, .int .i64 f] w fun e w' => e = .returned (.tuple #[.int .u8 0, (.pointer none), .bool false]) ∧ w = w' := by
  have hok := Lib.hid (kok_no h)
  clear h
  go_enter Try.func89, Try.ntmps89
  go_wp2_with (go_at_call 146; refine hok.out.mono ?_; rintro e w' ⟨rfl, rfl⟩)
  go_ret3
  exact ⟨rfl, rfl⟩
theorem bare_drop {v : Option Addr} (h : Bare w v) (b : Nat) : Calls Try.prog 98 #[.pointer v, .int .u8 b] w fun e w' => e = .returned (.int .i64 2) ∧ w = w' := by
  have hok := Lib.hid (kok_no h)
  clear h
  go_enter Try.func98, Try.ntmps98
  go_wp2_with (go_at_call 146; refine hok.out.mono ?_; rintro e w' ⟨rfl, rfl⟩)
  go_ret
  exact ⟨rfl, rfl⟩
theorem bare_copy {v : Option Addr} (h : Bare w v) : Calls Try.prog 92 #[.pointer v] w fun e w' => e = .returned (.pointer none) ∧ w = w' := by
  have hok := Lib.hid (kok_no h)
  clear h
  go_enter Try.func92, Try.ntmps92
  go_wp2_with (go_at_call 146; refine hok.out.mono ?_; rintro e w' ⟨rfl, rfl⟩)
  go_ret
  exact ⟨rfl, rfl⟩
theorem bare_set {v : Option Addr} (h : Bare w v) (b : Nat) (x : (Option Addr)) : Calls Try.prog 97 #[.pointer v, .int .u8 b, .pointer x] w fun e w' => e = .returned (.int .i64 2) ∧ w = w' := by
  have hok := Lib.hid (kok_no h)
  clear h
  go_enter Try.func97, Try.ntmps97
  go_wp2_with (go_at_call 146; refine hok.out.mono ?_; rintro e w' ⟨rfl, rfl⟩)
  go_ret
  exact ⟨rfl, rfl⟩
end N
end Go.Proofs.Ytkonbldjmcccmaa
