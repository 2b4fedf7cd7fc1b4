/- Nodes: SetKid, DropKid. -/
import Derived.Test.YtkonbldjmcccmaaNNode3
set_option linter.unusedVariables false
set_option linter.unusedSimpArgs false
namespace Go.Proofs.Ytkonbldjmcccmaa
open Go.RowKit
section
variable {w : World} {n : Nat} {o : Int} {bs : List Nat} {val : Int} {has : Bool} {kk : Option KV} {pv : Value} {bo : Option Nat} {kp : Option Addr} {Sk : Nat → Prop}
/-- the node's kids are l now -/
def kidPost (n : Nat) (o : Int) (bs : List Nat) (val : Int) (has : Bool) (l : KV) (pv : Value) (bo : Option Nat) (kp : Option Addr) (Sk : Nat → Prop) (w w' : World) : Prop :=
  ∃ Sk', NdIs w' n o bs val has (some l) pv bo kp Sk' ∧ Mod Sk w w' ∧ ∀ j, Sk' j → Sk j ∨ w.heap.size ≤ j
theorem NdIs.lt (h : NdIs w n o bs val has kk pv bo kp Sk) : n < w.heap.size := (Array.getElem?_eq_some_iff.1 h.blk).1
theorem NdIs.turn {l : KV} {w' : World} (h : NdIs w n o bs val has kk pv bo kp Sk) {Sk' : Nat → Prop} (h1 : KidsOf w' kp (some l) Sk') (h2 : Mod Sk w w') (h3 : ∀ j, Sk' j → Sk j ∨ w.heap.size ≤ j) : kidPost n o bs val has l pv bo kp Sk w w' := by
  refine ⟨Sk', ⟨(h2.same n h.lt h.nS).trans h.blk, h.own.keep fun g hg => ?_, h1, fun e => ?_, fun g hg => ⟨(h.nR g hg).1, fun e => ?_⟩⟩, h2, h3⟩
  · subst hg; exact h2.same g h.own.lt (h.nR g rfl).2
  · rcases h3 n e with e | e
    · exact h.nS e
    · have := h.lt; omega
  · rcases h3 g e with e | e
    · exact (h.nR g hg).2 e
    · subst hg; have := h.own.lt; omega
theorem ko_set {l : KV} (h : KidsOf w kp (some l) Sk) (b : Nat) (hb : b < 256) (x : Option Addr) : Calls Try.prog 97 #[.pointer kp, .int .u8 b, .pointer x] w fun e w' => e = .returned (.int .i64 0) ∧ ∃ Sk', KidsOf w' kp (some (kins l b (.pointer x))) Sk' ∧ Mod Sk w w' ∧ ∀ j, Sk' j → Sk j ∨ w.heap.size ≤ j := by
  rcases h with ⟨_, h, _⟩ | ⟨k, l', rfl, h2, h3, h4⟩
  · cases h
  · obtain rfl : l = l' := by simpa using h2
    refine (N.kd_set h3 h4 b hb x).mono ?_
    rintro e w' ⟨rfl, S', q1, q2, q3⟩
    exact ⟨rfl, S', Or.inr ⟨k, _, rfl, rfl, q1, N.Vals.ins h4 b x⟩, q2, q3⟩
theorem ko_drop {l : KV} (h : KidsOf w kp (some l) Sk) (b : Nat) (hb : b < 256) : Calls Try.prog 98 #[.pointer kp, .int .u8 b] w fun e w' => e = .returned (.int .i64 (if Go.Proofs.Ytkonbldjmcccmaa.has l b then 0 else 6)) ∧ ∃ Sk', KidsOf w' kp (some (kdel l b)) Sk' ∧ Mod Sk w w' ∧ ∀ j, Sk' j → Sk j ∨ w.heap.size ≤ j := by
  rcases h with ⟨_, h, _⟩ | ⟨k, l', rfl, h2, h3, h4⟩
  · cases h
  · obtain rfl : l = l' := by simpa using h2
    refine (N.kd_drop h3 h4 b hb).mono ?_
    rintro e w' ⟨rfl, S', q1, q2, q3⟩
    exact ⟨rfl, S', Or.inr ⟨k, _, rfl, rfl, q1, N.Vals.del h4 b⟩, q2, q3⟩
theorem nd_setkid {l : KV} (h : NdIs w n o bs val has (some l) pv bo kp Sk) (x : Int) (h0 : ¬ (x = 0 ∨ x ≠ o)) (b : Nat) (hb : b < 256) (a : Addr) : Calls Try.prog 27 #[.pointer (some ⟨n, 0, none⟩), .int .u64 x, .int .u8 b, .pointer (some a)] w fun e w' => e = .returned (.int .i64 0) ∧ kidPost n o bs val has (kins l b (.pointer (some a))) pv bo kp Sk w w' := by
  have hm := Lib.hid (nd_inner h x)
  have hR2 : Hid (innE o x (some l) = 0) := by show _ = _; unfold innE; rw [if_neg h0]; rfl
  have hx := Lib.hid (ko_set h.kids b hb (some a))
  have fin : Hid (∀ w', (∃ Sk', KidsOf w' kp (some (kins l b (.pointer (some a)))) Sk' ∧ Mod Sk w w' ∧ ∀ j, Sk' j → Sk j ∨ w.heap.size ≤ j) → kidPost n o bs val has (kins l b (.pointer (some a))) pv bo kp Sk w w') := fun w' q => by
    obtain ⟨S', q1, q2, q3⟩ := q
    exact h.turn q1 q2 q3
  have c4 := h.c4
  clear h h0
  go_enter Try.func27, Try.ntmps27
  go_wp2_with (first | (go_at_call 96; refine hm.out.mono ?_; rintro e w' ⟨rfl, rfl⟩; rw [hR2.out]) | (go_at_call 97; refine hx.out.mono ?_; rintro e w' ⟨rfl, q⟩; have q := Lib.hid (fin.out _ q)))
  go_ret
  exact ⟨rfl, q.out⟩
theorem nd_dropkid {l : KV} (h : NdIs w n o bs val has (some l) pv bo kp Sk) (x : Int) (h0 : ¬ (x = 0 ∨ x ≠ o)) (b : Nat) (hb : b < 256) : Calls Try.prog 28 #[.pointer (some ⟨n, 0, none⟩), .int .u64 x, .int .u8 b] w fun e w' => e = .returned (.int .i64 (if Go.Proofs.Ytkonbldjmcccmaa.has l b then 0 else 6)) ∧ kidPost n o bs val has (kdel l b) pv bo kp Sk w w' := by
  have hm := Lib.hid (nd_inner h x)
  have hR2 : Hid (innE o x (some l) = 0) := by show _ = _; unfold innE; rw [if_neg h0]; rfl
  have hx := Lib.hid (ko_drop h.kids b hb)
  have fin : Hid (∀ w', (∃ Sk', KidsOf w' kp (some (kdel l b)) Sk' ∧ Mod Sk w w' ∧ ∀ j, Sk' j → Sk j ∨ w.heap.size ≤ j) → kidPost n o bs val has (kdel l b) pv bo kp Sk w w') := fun w' q => by
    obtain ⟨S', q1, q2, q3⟩ := q
    exact h.turn q1 q2 q3
  have c4 := h.c4
  clear h h0
  generalize (if Go.Proofs.Ytkonbldjmcccmaa.has l b then (0 : Int) else 6) = c at *
  go_enter Try.func28, Try.ntmps28
  go_wp2_with (first | (go_at_call 96; refine hm.out.mono ?_; rintro e w' ⟨rfl, rfl⟩; rw [hR2.out]) | (go_at_call 98; refine hx.out.mono ?_; rintro e w' ⟨rfl, q⟩; have q := Lib.hid (fin.out _ q)))
  go_ret
  exact ⟨rfl, q.out⟩
end
end Go.Proofs.Ytkonbldjmcccmaa
