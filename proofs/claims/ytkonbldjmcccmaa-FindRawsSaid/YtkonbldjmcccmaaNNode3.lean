/- Nodes: inner, SetVal, DropVal. -/
import Derived.Test.YtkonbldjmcccmaaNNode2
set_option linter.unusedVariables false
set_option linter.unusedSimpArgs false
namespace Go.Proofs.Ytkonbldjmcccmaa
open Go.RowKit
section
variable {w : World} {n : Nat} {o : Int} {bs : List Nat} {val : Int} {has : Bool} {kk : Option KV} {pv : Value} {bo : Option Nat} {kp : Option Addr} {Sk : Nat → Prop}
/-- inner: the error -/
def innE (o x : Int) (kk : Option KV) : Int := if x = 0 ∨ x ≠ o then 11 else if kk.isNone then 9 else 0
theorem nd_inner (h : NdIs w n o bs val has kk pv bo kp Sk) (x : Int) : Calls Try.prog 96 #[.pointer (some ⟨n, 0, none⟩), .int .u64 x] w fun e w' => e = .returned (.int .i64 (innE o x kk)) ∧ w = w' := by
  have hm := Lib.hid (nd_may h x)
  have hl := Lib.hid (nd_leaf h)
  clear h
  by_cases h0 : x = 0 ∨ x ≠ o
  · have hR : Hid (innE o x kk = 11) := by show _ = _; unfold innE; rw [if_pos h0]
    have hR2 : Hid (mayE o x = 11) := by show _ = _; unfold mayE; rw [if_pos h0]
    rw [hR.out]
    clear h0
    go_enter Try.func96, Try.ntmps96
    go_wp2_with (first | (go_at_call 93; refine hm.out.mono ?_; rintro e w' ⟨rfl, rfl⟩; rw [hR2.out]) | (go_at_call 99; refine hl.out.mono ?_; rintro e w' ⟨rfl, rfl⟩))
    go_ret
    exact ⟨rfl, rfl⟩
  · have hR2 : Hid (mayE o x = 0) := by show _ = _; unfold mayE; rw [if_neg h0]
    cases kk with
    | none =>
      have hR : Hid (innE o x none = 9) := by show _ = _; unfold innE; rw [if_neg h0]; rfl
      rw [hR.out]
      clear h0
      go_enter Try.func96, Try.ntmps96
      go_wp2_with (first | (go_at_call 93; refine hm.out.mono ?_; rintro e w' ⟨rfl, rfl⟩; rw [hR2.out]) | (go_at_call 99; refine hl.out.mono ?_; rintro e w' ⟨rfl, rfl⟩))
      go_ret
      exact ⟨rfl, rfl⟩
    | some l =>
      have hR : Hid (innE o x (some l) = 0) := by show _ = _; unfold innE; rw [if_neg h0]; rfl
      rw [hR.out]
      clear h0
      go_enter Try.func96, Try.ntmps96
      go_wp2_with (first | (go_at_call 93; refine hm.out.mono ?_; rintro e w' ⟨rfl, rfl⟩; rw [hR2.out]) | (go_at_call 99; refine hl.out.mono ?_; rintro e w' ⟨rfl, rfl⟩))
      go_ret
      exact ⟨rfl, rfl⟩
/-- a value is put into two cells of the node's own block -/
theorem NdIs.putVal (h : NdIs w n o bs val has kk pv bo kp Sk) (v : Int) (b : Bool) : NdIs ((w.setCell ⟨n, 2, none⟩ (.int .u64 v)).setCell ⟨n, 3, none⟩ (.bool b)) n o bs v b kk pv bo kp Sk ∧ Mod (· = n) w ((w.setCell ⟨n, 2, none⟩ (.int .u64 v)).setCell ⟨n, 3, none⟩ (.bool b)) := by
  have e1 : (w.setCell ⟨n, 2, none⟩ (.int .u64 v)).heap[n]? = some (.cells [.int .u64 o, pv, .int .u64 v, .bool has, .pointer kp].toArray ndT (0, 0)) := by
    rw [setCell_list w n 2 _ ndT _ h.blk, setRow_heap w _ _ _ _ _ h.blk]; rfl
  have e2 : ((w.setCell ⟨n, 2, none⟩ (.int .u64 v)).setCell ⟨n, 3, none⟩ (.bool b)).heap[n]? = some (.cells [.int .u64 o, pv, .int .u64 v, .bool b, .pointer kp].toArray ndT (0, 0)) := by
    rw [setCell_list (w.setCell ⟨n, 2, none⟩ (.int .u64 v)) n 3 _ ndT _ e1, setRow_heap (w.setCell ⟨n, 2, none⟩ (.int .u64 v)) _ _ _ _ _ e1]; rfl
  have e3 : ∀ j, j ≠ n → ((w.setCell ⟨n, 2, none⟩ (.int .u64 v)).setCell ⟨n, 3, none⟩ (.bool b)).heap[j]? = w.heap[j]? := fun j hj => (Below.heap_setCell _ _ _ _ hj).trans (Below.heap_setCell _ _ _ _ hj)
  exact ⟨⟨e2, h.own.keep fun g hg => e3 g (h.nR g hg).1, h.kids.keep fun j hj => e3 j (fun e => h.nS (e ▸ hj)), h.nS, h.nR⟩,
    ((Mod.refl (· = n) w).setCell ⟨n, 2, none⟩ _ (fun _ => rfl)).setCell ⟨n, 3, none⟩ _ (fun _ => rfl)⟩
theorem NdIs.fz (h : NdIs w n o bs val has kk pv bo kp Sk) : w.frozen? ⟨n, 2, none⟩ = false ∧ w.frozen? ⟨n, 3, none⟩ = false := ⟨frozen_of_blk h.blk 2, frozen_of_blk h.blk 3⟩
theorem nd_setval_no (h : NdIs w n o bs val has kk pv bo kp Sk) (x v : Int) (h0 : x = 0 ∨ x ≠ o) : Calls Try.prog 25 #[.pointer (some ⟨n, 0, none⟩), .int .u64 x, .int .u64 v] w fun e w' => e = .returned (.int .i64 11) ∧ w = w' := by
  have hm := Lib.hid (nd_may h x)
  have hR2 : Hid (mayE o x = 11) := by show _ = _; unfold mayE; rw [if_pos h0]
  clear h h0
  go_enter Try.func25, Try.ntmps25
  go_wp2_with (first | (go_at_call 93; refine hm.out.mono ?_; rintro e w' ⟨rfl, rfl⟩; rw [hR2.out]))
  go_ret
  exact ⟨rfl, rfl⟩
theorem nd_setval (h : NdIs w n o bs val has kk pv bo kp Sk) (x v : Int) (h0 : ¬ (x = 0 ∨ x ≠ o)) : Calls Try.prog 25 #[.pointer (some ⟨n, 0, none⟩), .int .u64 x, .int .u64 v] w fun e w' => e = .returned (.int .i64 0) ∧ NdIs w' n o bs v true kk pv bo kp Sk ∧ Mod (· = n) w w' := by
  have hm := Lib.hid (nd_may h x)
  have hR2 : Hid (mayE o x = 0) := by show _ = _; unfold mayE; rw [if_neg h0]
  have hp := Lib.hid (h.putVal v true)
  have c2 := h.c2
  have c3 := h.c3
  obtain ⟨z2, z3⟩ := h.fz
  clear h h0
  go_enter Try.func25, Try.ntmps25
  go_wp2_with (first | (go_at_call 93; refine hm.out.mono ?_; rintro e w' ⟨rfl, rfl⟩; rw [hR2.out]))
  go_ret
  exact ⟨rfl, hp.out⟩
end
end Go.Proofs.Ytkonbldjmcccmaa
