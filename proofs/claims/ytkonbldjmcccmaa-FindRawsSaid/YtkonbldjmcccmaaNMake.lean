/- Nodes: Leaf. -/
import Derived.Test.YtkonbldjmcccmaaNNode5
set_option linter.unusedVariables false
set_option linter.unusedSimpArgs false
namespace Go.Proofs.Ytkonbldjmcccmaa
open Go.RowKit
/-- a node that was made behind wm -/
def madePost (o : Int) (bs : List Nat) (val : Int) (has : Bool) (kk : Option KV) (wm : World) (e : Ending) (w' : World) : Prop :=
  ∃ n pv bo kp Sk, e = .returned (.pointer (some ⟨n, 0, none⟩)) ∧ NdIs w' n o bs val has kk pv bo kp Sk ∧ Below wm.heap.size wm w' ∧ wm.heap.size ≤ n ∧ (∀ g, bo = some g → wm.heap.size ≤ g) ∧ ∀ j, Sk j → wm.heap.size ≤ j
theorem nd_leaf_made (w wm : World) (mv : Option Addr) (o val : Int) (a : Option Addr) (n c : Nat) (bs : List Nat) (hm : Calls Try.prog 91 #[.pointer mv, .int .i64 1] w fun e w' => e = .returned (.tuple #[]) ∧ w' = wm)
    (hn : bs.length = n) (hb : BytesAt wm a bs) (hl : n ≤ 140737488355328) (hnil : a = none → n = 0) : Calls Try.prog 43 #[.pointer mv, .int .u64 o, .slice a n c, .int .u64 val] w (madePost o bs val true none wm) := by
  have Hm := Lib.hid hm
  have hc := Lib.hid (cloneB_any wm a n c bs hn hb hl hnil)
  have fin : Hid (∀ w1 pv bo, Own 5 w1 pv (bV bs) bo → Below wm.heap.size wm w1 → (bo = none ∨ ∃ g, bo = some g ∧ wm.heap.size ≤ g) → madePost o bs val true none wm (.returned (.pointer (some ⟨w1.heap.size, 0, none⟩))) (w1.alloc (.cells #[.int .u64 o, pv, .int .u64 val, .bool true, .pointer none] ndT))) := fun w1 pv bo h1 h2 h3 => by
    refine ⟨w1.heap.size, pv, bo, none, fun _ => False, rfl, ⟨heap_alloc_new _ _, h1.keep fun g hg => ?_, Or.inl ⟨rfl, rfl, rfl⟩, fun e => e, fun g hg => ⟨?_, fun e => e⟩⟩, h2.alloc h2.size _, h2.size, fun g hg => ?_, fun j e => e.elim⟩
    · subst hg; exact Below.heap_alloc _ _ _ h1.lt
    · subst hg; exact Nat.ne_of_lt h1.lt
    · rcases h3 with e | ⟨g', e, h⟩
      · rw [hg] at e; cases e
      · rw [hg] at e; cases e; exact h
  clear hm hn hb hl hnil
  go_enter Try.func43, Try.ntmps43
  go_wp2_with (first | (go_at_call 91; refine Hm.out.mono ?_; rintro e w' ⟨rfl, rfl⟩) | (go_at_call 95; refine hc.out.mono ?_; rintro e w1 ⟨v1, bo1, rfl, HO, HB, HN⟩; have q := Lib.hid (fin.out _ _ _ HO HB HN); obtain ⟨a1, c1, rfl⟩ := HO.len; clear HO HB HN))
  go_ret
  exact q.out
theorem nd_inner_made (w wm : World) (mv : Option Addr) (o : Int) (a : Option Addr) (n c : Nat) (bs : List Nat) (hm : Calls Try.prog 91 #[.pointer mv, .int .i64 1] w fun e w' => e = .returned (.tuple #[]) ∧ w' = wm)
    (hn : bs.length = n) (hb : BytesAt wm a bs) (hl : n ≤ 140737488355328) (hnil : a = none → n = 0) : Calls Try.prog 44 #[.pointer mv, .int .u64 o, .slice a n c] w (madePost o bs 0 false (some []) wm) := by
  have Hm := Lib.hid hm
  have hc := Lib.hid (cloneB_any wm a n c bs hn hb hl hnil)
  have hk := Lib.hid (fun w => N.kd_new w)
  have fin : Hid (∀ w1 w2 pv bo, Own 5 w1 pv (bV bs) bo → Below wm.heap.size wm w1 → (bo = none ∨ ∃ g, bo = some g ∧ wm.heap.size ≤ g) → (∃ S, N.KdAt w2 w1.heap.size 4 [] S ∧ Below w1.heap.size w1 w2 ∧ ∀ j, S j → w1.heap.size ≤ j) → madePost o bs 0 false (some []) wm (.returned (.pointer (some ⟨w2.heap.size, 0, none⟩))) (w2.alloc (.cells #[.int .u64 o, pv, .int .u64 0, .bool false, .pointer (some ⟨w1.heap.size, 0, none⟩)] ndT))) := fun w1 w2 pv bo h1 h2 h3 h4 => by
    obtain ⟨S, k1, k2, k3⟩ := h4
    have h9 := h2.size
    have h8 := k2.size
    refine ⟨w2.heap.size, pv, bo, _, S, rfl, ⟨heap_alloc_new _ _, (h1.keep fun g hg => ?_), Or.inr ⟨w1.heap.size, [], rfl, rfl, k1.keep (fun j hj => Below.heap_alloc _ _ _ (k1.lt j hj)), fun p hp => by simp at hp⟩, fun e => by have := k1.lt _ e; omega, fun g hg => ⟨?_, fun e => ?_⟩⟩, (h2.trans (k2.mono h9)).alloc (Nat.le_trans h9 h8) _, Nat.le_trans h9 h8, fun g hg => ?_, fun j e => Nat.le_trans h9 (k3 j e)⟩
    · subst hg; have := h1.lt; exact (Below.heap_alloc _ _ _ (by omega)).trans (k2.block g this)
    · subst hg; have := h1.lt; omega
    · subst hg; have := h1.lt; have := k3 g e; omega
    · rcases h3 with e | ⟨g', e, h⟩
      · rw [hg] at e; cases e
      · rw [hg] at e; cases e; exact h
  clear hm hn hb hl hnil
  go_enter Try.func44, Try.ntmps44
  go_wp2_with (first | (go_at_call 91; refine Hm.out.mono ?_; rintro e w' ⟨rfl, rfl⟩) | (go_at_call 95; refine hc.out.mono ?_; rintro e w1 ⟨v1, bo1, rfl, HO, HB, HN⟩; have F := Lib.hid (fun w2 => fin.out _ w2 _ _ HO HB HN); obtain ⟨a1, c1, rfl⟩ := HO.len; clear HO HB HN) | (go_at_call 110; refine (hk.out _).mono ?_; rintro e w2 ⟨rfl, q⟩; have q := Lib.hid (F.out _ q)))
  go_ret
  exact q.out
end Go.Proofs.Ytkonbldjmcccmaa
