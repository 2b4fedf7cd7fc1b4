/- Nodes: Part. -/
import Derived.Test.YtkonbldjmcccmaaNCopy
import Derived.Laws.MakeOwn
import Derived.Laws.CopyOwn
set_option linter.unusedVariables false
set_option linter.unusedSimpArgs false
namespace Go.Proofs.Ytkonbldjmcccmaa
open Go.RowKit
theorem add0 (g j : Nat) : (⟨g, 0, none⟩ : Addr).add j = ⟨g, j, none⟩ := by
  simp [Addr.add]; omega
theorem made_cells (n : Nat) (z : Value) (hz : z.cells = #[z]) : madeCells z.cells (n * 1) = (List.replicate n z).toArray := by
  rw [hz]
  unfold madeCells
  apply Array.ext
  · simp
  · intro i h1 h2; simp [Nat.mod_one]
theorem u8_info : ∃ i, Try.prog.info? 5 = some i ∧ i.zero = some (.int .u8 0) ∧ i.size = 1 ∧ i.bytes = 1 := by
  have h := cloneB_info
  cases hi : Try.prog.info? 5 with
  | none => rw [hi] at h; simp at h
  | some i => rw [hi] at h; simp at h; exact ⟨i, rfl, h.1, h.2.1, h.2.2⟩
/-- make([]byte, n) -/
theorem make_u8 (w : World) (n : Nat) (hn : n ≤ 140737488355328) : (Instr.makeSlice 27 (.int .i64 (n : Nat)) (.int .i64 (n : Nat))).run Try.prog w = .ok (.slice (some ⟨w.heap.size, 0, none⟩) n n) (w.alloc (.cells (List.replicate n (.int .u8 0)).toArray 5)) := by
  obtain ⟨i, h1, h2, h3, h4⟩ := u8_info
  have := run_make (P := Try.prog) w _ _ i _ cloneB_under h1 h2 .i64 .i64 (n : Nat) (n : Nat) (by omega) (by omega) (by rw [h4]; omega) (by omega)
  rw [this, h3]
  simp only [Int.toNat_natCast]
  rw [made_cells n _ rfl]
/-- bytes that were made -/
def gotPost (bs : List Nat) (w : World) (e : Ending) (w' : World) : Prop := ∃ a c, e = .returned (.slice a bs.length c) ∧ BytesAt w' a bs ∧ Below w.heap.size w w'
section
variable {w : World} {n : Nat} {o : Int} {bs : List Nat} {val : Int} {has : Bool} {kk : Option KV} {pv : Value} {bo : Option Nat} {kp : Option Addr} {Sk : Nat → Prop}
set_option maxRecDepth 100000 in
theorem nd_part (h : NdIs w n o bs val has kk pv bo kp Sk) (h8 : ∀ x ∈ bs, x < 256) (hn : bs.length ≤ 140737488355328) : Calls Try.prog 32 #[.pointer (some ⟨n, 0, none⟩)] w (gotPost bs w) := by
  have c1 := h.c1
  obtain ⟨pa, pc, hpv⟩ := h.own.len
  subst hpv
  have hl : (bV bs).length = bs.length := by simp [bV]
  rw [hl] at c1
  have hmk : ∀ w, (Instr.makeSlice 27 (.int .i64 (bs.length : Nat)) (.int .i64 (bs.length : Nat))).run Try.prog w = .ok (.slice (some ⟨w.heap.size, 0, none⟩) bs.length bs.length) (w.alloc (.cells (List.replicate bs.length (.int .u8 0)).toArray 5)) := fun w => make_u8 w _ hn
  have c1' : ∀ o, (w.alloc o).cell? ⟨n, 1, none⟩ = some (.slice pa bs.length pc) := fun o => (((Below.refl _ w).alloc (Nat.le_refl _) o).cell (p := ⟨n, 1, none⟩) h.lt).trans c1
  have hsz : (Try.prog.info? 5).map (·.size) = some 1 := by kernel_rfl
  have hg : Hid (∀ t, (w.alloc (.cells (Array.replicate bs.length (.int .u8 0)) t)).heap[w.heap.size]? = some (.cells (List.replicate bs.length (Value.int .u8 0)).toArray t (0, 0))) := fun t => by
    rw [heap_alloc_new]; simp
  have hcs : Hid ((bV bs).length = Nat.min bs.length bs.length) := by
    have : Nat.min bs.length bs.length = bs.length := Nat.min_self _
    show _ = _
    rw [hl, this]
  have hpos : Hid (∀ o, 0 < (bV bs).length → (some ⟨w.heap.size, 0, none⟩ : Option Addr) = some ⟨w.heap.size, 0, none⟩ ∧ ∃ ad, pa = some ad ∧ ∀ j v, (bV bs)[j]? = some v → (w.alloc o).cell? (ad.add j) = some v) := fun o hp => by
    obtain ⟨g, cap, e1, e2, _⟩ := h.own.at_ hp
    have e3 : pa = some ⟨g, 0, none⟩ := by simpa using (Value.slice.inj e2).1
    refine ⟨rfl, ⟨g, 0, none⟩, e3, fun j v hj => ?_⟩
    have hjl : j < (bV bs).length := (List.getElem?_eq_some_iff.1 hj).1
    have hv : (bV bs)[j] = v := (List.getElem?_eq_some_iff.1 hj).2
    obtain ⟨g', cap', q1, q2, q3, _⟩ := h.own.at_ hjl
    obtain rfl : g = g' := by rw [e1] at q1; simpa using q1
    have hlt := h.own
    rw [e1] at hlt
    have h2 : (⟨g, 0, none⟩ : Addr).add j = ⟨g, j, none⟩ := add0 g j
    rw [h2, ((Below.refl _ w).alloc (Nat.le_refl _) o).cell (p := ⟨g, j, none⟩) hlt.lt, q3, hv]
  have hfit : Hid (0 + (bV bs).length ≤ (List.replicate bs.length (Value.int .u8 0)).length) := by show _ ≤ _; simp [hl]
  have hone := Lib.hid (bV_one bs)
  have hB : Hid (∀ o, Below w.heap.size w (w.alloc o)) := fun o => (Below.refl _ w).alloc (Nat.le_refl _) o
  have hend : Hid (∀ w' t, w'.heap[w.heap.size]? = some (.cells (splice (List.replicate bs.length (Value.int .u8 0)) 0 (bV bs)).toArray t (0, 0)) → BytesAt w' (some ⟨w.heap.size, 0, none⟩) bs) := fun w' t q => by
    refine ⟨h8, fun i hi => ⟨_, rfl, ?_, ?_⟩⟩
    · rw [add0]
      exact (Array.getElem?_eq_some_iff.1 q).1
    · rw [add0, cell_of_blk q]
      simp [splice, hl, bV, List.getD, hi]
  clear h hn h8
  go_enter Try.func32, Try.ntmps32
  go_wp2_with (with_reducible show wpList _ _ _ (⟨some 17, _, _, _, _, _⟩ :: _) _ _; refine wpList_copy_splice (o := ⟨some 17, _, _, _, _, _⟩) rfl (.tmp 12) (.tmp 16) 27 27 rfl 5 cloneB_under hsz _ _ _ _ _ _ rfl rfl w.heap.size 0 _ _ (hg.out _) (bV bs) hcs.out (hpos.out _) hfit.out hone.out w.heap.size w (hB.out _) (Nat.le_refl _) ?_; intro w' hg2 hb2; have q := Lib.hid (hend.out _ _ hg2.out))
  go_ret
  exact ⟨_, _, rfl, q.out, hb2⟩
end
end Go.Proofs.Ytkonbldjmcccmaa
