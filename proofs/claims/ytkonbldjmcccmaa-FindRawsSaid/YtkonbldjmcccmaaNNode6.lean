/- Nodes: DropVal where the owner may. -/
import Derived.Test.YtkonbldjmcccmaaNMake
set_option linter.unusedVariables false
set_option linter.unusedSimpArgs false
namespace Go.Proofs.Ytkonbldjmcccmaa
open Go.RowKit
section
variable {w : World} {n : Nat} {o : Int} {bs : List Nat} {val : Int} {has : Bool} {kk : Option KV} {pv : Value} {bo : Option Nat} {kp : Option Addr} {Sk : Nat → Prop}
/-- DropVal of an inner node: the error, and the node behind it -/
theorem nd_dropval {l : KV} (h : NdIs w n o bs val has (some l) pv bo kp Sk) (x : Int) (h0 : ¬ (x = 0 ∨ x ≠ o)) : Calls Try.prog 26 #[.pointer (some ⟨n, 0, none⟩), .int .u64 x] w fun e w' => e = .returned (.int .i64 (if has then 0 else 6)) ∧ NdIs w' n o bs (if has then 0 else val) false (some l) pv bo kp Sk ∧ Mod (· = n) w w' := by
  have hm := Lib.hid (nd_inner h x)
  have hR2 : Hid (innE o x (some l) = 0) := by show _ = _; unfold innE; rw [if_neg h0]; rfl
  have hp := Lib.hid (h.putVal 0 false)
  have c2 := h.c2
  have c3 := h.c3
  obtain ⟨z2, z3⟩ := h.fz
  clear h0
  cases has with
  | true =>
    clear h
    go_enter Try.func26, Try.ntmps26
    go_wp2_with (first | (go_at_call 96; refine hm.out.mono ?_; rintro e w' ⟨rfl, rfl⟩; rw [hR2.out]))
    go_ret
    exact ⟨rfl, hp.out⟩
  | false =>
    have Hh := Lib.hid h
    clear h
    go_enter Try.func26, Try.ntmps26
    go_wp2_with (first | (go_at_call 96; refine hm.out.mono ?_; rintro e w' ⟨rfl, rfl⟩; rw [hR2.out]))
    go_ret
    exact ⟨rfl, Hh.out, Mod.refl _ _⟩
end
end Go.Proofs.Ytkonbldjmcccmaa
