/- Nodes: SetPart where the owner may. -/
import Derived.Test.YtkonbldjmcccmaaNNode6
set_option linter.unusedVariables false
set_option linter.unusedSimpArgs false
namespace Go.Proofs.Ytkonbldjmcccmaa
open Go.RowKit
section
variable {w : World} {n : Nat} {o : Int} {bs : List Nat} {val : Int} {has : Bool} {kk : Option KV} {pv : Value} {bo : Option Nat} {kp : Option Addr} {Sk : Nat → Prop}
def partPost (n : Nat) (o : Int) (bs : List Nat) (val : Int) (has : Bool) (kk : Option KV) (kp : Option Addr) (Sk : Nat → Prop) (w w' : World) : Prop :=
  ∃ pv bo, NdIs w' n o bs val has kk pv bo kp Sk ∧ Mod (· = n) w w' ∧ ∀ g, bo = some g → w.heap.size ≤ g
theorem nd_setpart (h : NdIs w n o bs val has kk pv bo kp Sk) (x : Int) (h0 : ¬ (x = 0 ∨ x ≠ o)) (a : Option Addr) (m c : Nat) (ms : List Nat) (hn : ms.length = m) (hb : BytesAt w a ms) (hl : m ≤ 140737488355328) (hnil : a = none → m = 0) : Calls Try.prog 24 #[.pointer (some ⟨n, 0, none⟩), .int .u64 x, .slice a m c] w fun e w' => e = .returned (.int .i64 0) ∧ partPost n o ms val has kk kp Sk w w' := by
  have hm := Lib.hid (nd_may h x)
  have hR2 : Hid (mayE o x = 0) := by show _ = _; unfold mayE; rw [if_neg h0]
  have hc := Lib.hid (cloneB_any w a m c ms hn hb hl hnil)
  have hlt := h.lt
  have fin : Hid (∀ w1 v1 bo1, Own 5 w1 v1 (bV ms) bo1 → Below w.heap.size w w1 → (bo1 = none ∨ ∃ g, bo1 = some g ∧ w.heap.size ≤ g) → w1.cell? ⟨n, 1, none⟩ = some pv ∧ w1.frozen? ⟨n, 1, none⟩ = false ∧ Hid (partPost n o ms val has kk kp Sk w (w1.setCell ⟨n, 1, none⟩ v1))) := fun w1 v1 bo1 h1 h2 h3 => by
    have hb1 := (h2.block n hlt).trans h.blk
    have hbo : ∀ g, bo1 = some g → w.heap.size ≤ g := fun g hg => by
      rcases h3 with e | ⟨g', e, h⟩
      · rw [hg] at e; cases e
      · rw [hg] at e; cases e; exact h
    have e3 : ∀ j, j ≠ n → (w1.setCell ⟨n, 1, none⟩ v1).heap[j]? = w1.heap[j]? := fun j hj => Below.heap_setCell _ _ _ _ hj
    have hSlt : ∀ j, Sk j → j < w.heap.size := fun j hj => by
      rcases h.kids with ⟨_, _, e⟩ | ⟨k, l, _, _, h3, _⟩
      · rw [e] at hj; exact hj.elim
      · exact h3.lt j hj
    refine ⟨by rw [cell_of_blk hb1]; rfl, frozen_of_blk hb1 1, v1, bo1, ⟨?_, h1.keep fun g hg => e3 g (by have := hbo g hg; omega), h.kids.keep fun j hj => (e3 j (fun e => h.nS (e ▸ hj))).trans (h2.block j (hSlt j hj)), h.nS, fun g hg => ⟨by have := hbo g hg; omega, fun e => by have := hbo g hg; have := hSlt g e; omega⟩⟩, (Mod.of_below h2).setCell ⟨n, 1, none⟩ _ (fun _ => rfl), hbo⟩
    rw [setCell_list w1 n 1 _ ndT _ hb1, setRow_heap w1 _ _ _ _ _ hb1]; rfl
  clear h h0 hn hb hl hnil hlt
  go_enter Try.func24, Try.ntmps24
  go_wp2_with (first | (go_at_call 93; refine hm.out.mono ?_; rintro e w' ⟨rfl, rfl⟩; rw [hR2.out]) | (go_at_call 95; refine hc.out.mono ?_; rintro e w1 ⟨v1, bo1, rfl, HO, HB, HN⟩; obtain ⟨d1, d2, q⟩ := fin.out _ _ _ HO HB HN; obtain ⟨a1, c1, rfl⟩ := HO.len; clear HO HB HN))
  go_ret
  exact ⟨rfl, q.out⟩
end
end Go.Proofs.Ytkonbldjmcccmaa
