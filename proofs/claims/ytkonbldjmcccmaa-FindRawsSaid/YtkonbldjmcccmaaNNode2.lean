/- Nodes: Kind, Occupants, Next, Prev, may, inner. -/
import Derived.Test.YtkonbldjmcccmaaNNode
set_option linter.unusedVariables false
set_option linter.unusedSimpArgs false
namespace Go.Proofs.Ytkonbldjmcccmaa
open Go.RowKit
section
variable {w : World} {n : Nat} {o : Int} {bs : List Nat} {val : Int} {has : Bool} {kk : Option KV} {pv : Value} {bo : Option Nat} {kp : Option Addr} {Sk : Nat → Prop}
/-- leaf or kids, as the pointer is -/
theorem KidsOf.ptr (h : KidsOf w kp kk Sk) : (kp = none ∧ kk = none) ∨ ∃ k l, kp = some ⟨k, 0, none⟩ ∧ kk = some l := by
  rcases h with ⟨h1, h2, _⟩ | ⟨k, l, h1, h2, _⟩
  · exact Or.inl ⟨h1, h2⟩
  · exact Or.inr ⟨k, l, h1, h2⟩
theorem nd_leaf (h : NdIs w n o bs val has kk pv bo kp Sk) : Calls Try.prog 99 #[.pointer (some ⟨n, 0, none⟩)] w fun e w' => e = .returned (.bool kk.isNone) ∧ w = w' := by
  have c4 := h.c4
  rcases h.kids.ptr with ⟨rfl, rfl⟩ | ⟨k, l, rfl, rfl⟩
  · clear h
    go_enter Try.func99, Try.ntmps99
    go_wp2_with fail
    go_ret
    exact ⟨rfl, rfl⟩
  · clear h
    go_enter Try.func99, Try.ntmps99
    go_wp2_with fail
    go_ret
    exact ⟨rfl, rfl⟩
def ndKind (kk : Option KV) : Nat := match kk with | none => 1 | some l => kindOf l.length
theorem nd_kind (h : NdIs w n o bs val has kk pv bo kp Sk) : Calls Try.prog 29 #[.pointer (some ⟨n, 0, none⟩)] w fun e w' => e = .returned (.int .i64 (ndKind kk : Nat)) ∧ w = w' := by
  have c4 := h.c4
  have hl := Lib.hid (nd_leaf h)
  have hk := Lib.hid (ko_kind h.kids)
  rcases h.kids.ptr with ⟨rfl, rfl⟩ | ⟨k, l, rfl, rfl⟩
  · clear h
    go_enter Try.func29, Try.ntmps29
    go_wp2_with (first | (go_at_call 99; refine hl.out.mono ?_; rintro e w' ⟨rfl, rfl⟩) | (go_at_call 100; refine hk.out.mono ?_; rintro e w' ⟨rfl, rfl⟩))
    go_ret
    exact ⟨rfl, rfl⟩
  · clear h
    go_enter Try.func29, Try.ntmps29
    go_wp2_with (first | (go_at_call 99; refine hl.out.mono ?_; rintro e w' ⟨rfl, rfl⟩) | (go_at_call 100; refine hk.out.mono ?_; rintro e w' ⟨rfl, rfl⟩))
    go_ret
    exact ⟨rfl, rfl⟩
theorem klen256 (h : KidsOf w kp kk Sk) : klen kk ≤ 256 := by
  rcases h with ⟨h1, rfl, _⟩ | ⟨k, l, h1, rfl, h3, h4⟩
  · exact Nat.zero_le _
  · exact len256 h3.srt.1 h3.srt.2.1
theorem nd_occ (h : NdIs w n o bs val has kk pv bo kp Sk) : Calls Try.prog 31 #[.pointer (some ⟨n, 0, none⟩)] w fun e w' => e = .returned (.int .i64 (if has then (klen kk + 1 : Nat) else (klen kk : Nat))) ∧ w = w' := by
  have c3 := h.c3
  have c4 := h.c4
  have hl := Lib.hid (nd_len h)
  have hk := Lib.hid (ko_len h.kids)
  have h256 := klen256 h.kids
  have hw : IntKind.i64.wrap ((klen kk : Nat) + 1 : Int) = (klen kk + 1 : Nat) := by rw [IntWalk.i64_in _ (by omega)]; omega
  clear h
  cases has with
  | true =>
    go_enter Try.func31, Try.ntmps31
    go_wp2_with (first | (go_at_call 101; refine hk.out.mono ?_; rintro e w' ⟨rfl, rfl⟩))
    go_ret
    exact ⟨rfl, rfl⟩
  | false =>
    go_enter Try.func31, Try.ntmps31
    go_wp2_with (first | (go_at_call 30; refine hl.out.mono ?_; rintro e w' ⟨rfl, rfl⟩))
    go_ret
    exact ⟨rfl, rfl⟩
def stepV (p : Option (Nat × Value)) : Value := match p with | none => .tuple #[.int .u8 0, .pointer none] | some p => .tuple #[.int .u8 (p.1 : Nat), p.2]
theorem nd_next (h : NdIs w n o bs val has kk pv bo kp Sk) (f : Int) (hlo : -9223372036854775808 ≤ f) (hhi : f ≤ 9223372036854775807) : Calls Try.prog 18 #[.pointer (some ⟨n, 0, none⟩), .int .i64 f] w fun e w' => e = .returned (stepV (knxt (kk.getD []) f)) ∧ ∃ n, w' = w.drewN n := by
  have c4 := h.c4
  have hx := Lib.hid (ko_next h.kids f hlo hhi)
  clear h hlo hhi
  have ht : ∃ a1 a2 a3, Hid (N.atV (knxt (kk.getD []) f) = .tuple #[a1, a2, a3]) ∧ Hid (stepV (knxt (kk.getD []) f) = .tuple #[a1, a2]) := by
    cases knxt (kk.getD []) f with
    | none => exact ⟨_, _, _, rfl, rfl⟩
    | some v => exact ⟨_, _, _, rfl, rfl⟩
  obtain ⟨a1, a2, a3, H1, H2⟩ := ht
  rw [H2.out]
  generalize N.atV (knxt (kk.getD []) f) = V at *
  go_enter Try.func18, Try.ntmps18
  go_wp2_with (go_at_call 88; refine hx.out.mono ?_; rintro e w' ⟨rfl, nd, rfl⟩; rw [H1.out])
  go_ret2
  exact ⟨rfl, nd, rfl⟩
theorem nd_prev (h : NdIs w n o bs val has kk pv bo kp Sk) (f : Int) (hlo : -9223372036854775808 ≤ f) (hhi : f ≤ 9223372036854775807) : Calls Try.prog 19 #[.pointer (some ⟨n, 0, none⟩), .int .i64 f] w fun e w' => e = .returned (stepV (kprv (kk.getD []) f)) ∧ ∃ n, w' = w.drewN n := by
  have c4 := h.c4
  have hx := Lib.hid (ko_prev h.kids f hlo hhi)
  clear h hlo hhi
  have ht : ∃ a1 a2 a3, Hid (N.atV (kprv (kk.getD []) f) = .tuple #[a1, a2, a3]) ∧ Hid (stepV (kprv (kk.getD []) f) = .tuple #[a1, a2]) := by
    cases kprv (kk.getD []) f with
    | none => exact ⟨_, _, _, rfl, rfl⟩
    | some v => exact ⟨_, _, _, rfl, rfl⟩
  obtain ⟨a1, a2, a3, H1, H2⟩ := ht
  rw [H2.out]
  generalize N.atV (kprv (kk.getD []) f) = V at *
  go_enter Try.func19, Try.ntmps19
  go_wp2_with (go_at_call 89; refine hx.out.mono ?_; rintro e w' ⟨rfl, nd, rfl⟩; rw [H1.out])
  go_ret2
  exact ⟨rfl, nd, rfl⟩
/-- may: the error -/
def mayE (o x : Int) : Int := if x = 0 ∨ x ≠ o then 11 else 0
theorem nd_may (h : NdIs w n o bs val has kk pv bo kp Sk) (x : Int) : Calls Try.prog 93 #[.pointer (some ⟨n, 0, none⟩), .int .u64 x] w fun e w' => e = .returned (.int .i64 (mayE o x)) ∧ w = w' := by
  have c0 := h.c0
  clear h
  by_cases h0 : x = 0
  · subst h0
    have hR : Hid (mayE o 0 = 11) := by show _ = _; unfold mayE; rw [if_pos (Or.inl rfl)]
    rw [hR.out]
    go_enter Try.func93, Try.ntmps93
    go_wp2_with fail
    go_ret
    exact ⟨rfl, rfl⟩
  · by_cases h1 : x = o
    · subst h1
      have hR : Hid (mayE x x = 0) := by show _ = _; unfold mayE; rw [if_neg (by simp [h0])]
      rw [hR.out]
      go_enter Try.func93, Try.ntmps93
      go_wp2_with fail
      go_ret
      exact ⟨rfl, rfl⟩
    · have hR : Hid (mayE o x = 11) := by show _ = _; unfold mayE; rw [if_pos (Or.inr h1)]
      have h2 : (x != o) = true := by simpa using h1
      rw [hR.out]
      go_enter Try.func93, Try.ntmps93
      go_wp2_with fail
      go_ret
      exact ⟨rfl, rfl⟩
end
end Go.Proofs.Ytkonbldjmcccmaa
